/- The device: Sync. Conditions: it lives. -/
import Derived.Test.YtdnjjdpenfhpeaaDvLay
import Derived.Deep.DeepCutAuto
import Derived.Deep.CutBlock
namespace Go.Proofs.Ytdnjjdpenfhpeaa
set_option linter.unusedSimpArgs false
set_option linter.unusedVariables false
open Go.RowKit

def WDs9 (d gx gl nl cl yi cy : Nat) (ay : Option Addr) (vc : Value) (fu ca : Int) (de : Bool) (j b o : Nat) : Prop := False
def PDs9 (d gx gl nl cl yi cy : Nat) (ay : Option Addr) (vc : Value) (fu ca : Int) (de : Bool) (i : Nat) (v : Value) (lo hi : Nat) (w : World) : Prop :=
  match i with
  | 0 => v = .pointer (some ⟨d, 0, none⟩)
  | 1 => v = .pointer (some ⟨d, 0, none⟩)
  | 2 => v = .pointer (some ⟨d, 0, none⟩)
  | 3 => v = .slice (some ⟨gl, 0, none⟩) nl cl
  | 4 => v = .pointer (some ⟨gx, 0, none⟩)
  | 5 => v = .int .i64 ((yi : Nat) : Int)
  | 6 => v = .pointer (some ⟨gx, 1, none⟩)
  | 7 => v = .slice ay 128 cy
  | 8 => v = .pointer (some ⟨gl, yi, none⟩)
  | _ => True
theorem PDs9_stable (d gx gl nl cl yi cy : Nat) (ay : Option Addr) (vc : Value) (fu ca : Int) (de : Bool)  : ∀ i j, i < 9 → j < 9 → j ≠ i → j ∉ ([[], [0], [0, 1], [0, 1, 2], [], [4], [], [6], [0, 1, 2, 3, 4, 5, 6, 7]] : List (List Nat)).getD i [] → ∀ v lo hi w w', PDs9 d gx gl nl cl yi cy ay vc fu ca de i v lo hi w → GrowC (WDs9 d gx gl nl cl yi cy ay vc fu ca de j) w w' → PDs9 d gx gl nl cl yi cy ay vc fu ca de i v lo hi w' := by
  intro i j hi hj hne hbs v lo hj2 w w' h hg
  match i, hi with
  | 0, _ =>
    simp only [PDs9] at h ⊢
    exact h
  | 1, _ =>
    simp only [PDs9] at h ⊢
    exact h
  | 2, _ =>
    simp only [PDs9] at h ⊢
    exact h
  | 3, _ =>
    simp only [PDs9] at h ⊢
    exact h
  | 4, _ =>
    simp only [PDs9] at h ⊢
    exact h
  | 5, _ =>
    simp only [PDs9] at h ⊢
    exact h
  | 6, _ =>
    simp only [PDs9] at h ⊢
    exact h
  | 7, _ =>
    simp only [PDs9] at h ⊢
    exact h
  | 8, _ =>
    simp only [PDs9] at h ⊢
    exact h
  | (q + 9), hq => exact absurd hq (by omega)

theorem own_free {w : World} {base e K n cap g : Nat} {v : Value} {xs : List Value} (h : w.ownsRow base e K v n xs) (hv : v = .slice (some ⟨g, 0, none⟩) n cap) (o : Nat) : w.frozen? ⟨g, o, none⟩ = false := by
  subst hv
  rcases h.2 with ⟨h0, _⟩ | ⟨g', cap', cur, e0, _, hg, _⟩
  · simp at h0
  · injection e0 with e1 e2 e3
    injection e1 with e1
    injection e1 with e1
    subst e1
    exact frozen_of_row' hg o
theorem DvAt.drop {w : World} {G d : Nat} {D : Dv} {vl vc : Value} {EL : List Se} {EC : List Ce} {K : Nat → Prop} (h : DvAt w G d D vl vc EL EC K) :
    DvAt (w.setCell ⟨d, 1, none⟩ (.slice none 0 0)) G d { D with c := [] } vl (.slice none 0 0) EL [] K ∧ GrowX (fun k => k = d) w (w.setCell ⟨d, 1, none⟩ (.slice none 0 0)) := by
  obtain ⟨k1, k2⟩ := Box.set1 h.box 1 (.slice none 0 0)
  have k3 : GrowX (fun k => k = d) w (w.setCell ⟨d, 1, none⟩ (.slice none 0 0)) := GrowX.of_growC k2 (fun k o h => h.1)
  exact ⟨⟨k1, own_growx h.lrow k3 (fun q e => (h.kl q e).2.1), World.ownsRow_nil _ _ _ _, h.lis, rfl, fun e he => (h.ltx e he).grow k3 (fun k hk e => h.kd (e ▸ hk)), (fun e he => by cases he),
    fun k hk => ⟨(h.kin k hk).1, Nat.lt_of_lt_of_le (h.kin k hk).2 k3.size⟩, h.kd, fun q e => ⟨(h.kl q e).1, (h.kl q e).2.1, fun e => by cases e⟩, (fun q e => by cases e), ⟨h.ok.l, (fun x hx => by cases hx), h.ok.n, h.ok.f1, h.ok.f2⟩⟩, k3⟩
def setAllE (E : List Se) (c : List Ce) : List Se := c.foldl (fun E e => E.set e.1 (e.2.1, e.2.2)) E
theorem setAllE_length (E : List Se) (c : List Ce) : (setAllE E c).length = E.length := by
  induction c generalizing E with
  | nil => rfl
  | cons x r ih => show (setAllE (E.set x.1 (x.2.1, x.2.2)) r).length = _; rw [ih, List.length_set]
theorem setAllE_snoc (E : List Se) (c : List Ce) (x : Ce) : setAllE E (c ++ [x]) = (setAllE E c).set x.1 (x.2.1, x.2.2) := by simp [setAllE, List.foldl_append]

set_option maxRecDepth 100000 in
set_option maxHeartbeats 3200000 in
theorem dsync_dv {W0 w : World} {d : Nat} {D : Dv} {S : Nat → Prop} (h : DV W0 d D S w) (hdead : D.dead = false) :
    Calls Try.prog 45 #[.pointer (some ⟨d, 0, none⟩)] w fun e w' => ∃ S', e = .returned (.int .i64 (eDead D.burn.1)) ∧ DV W0 d D.sync S' w' ∧ Foot S S' w w' := by
  obtain ⟨vl, vc, EL, EC, K, h1, h2, h3, rfl⟩ := h
  have c3 := h1.box.cell 3 _ rfl
  rw [hdead] at c3
  have hlt := h1.box.lt
  obtain ⟨nc, hnc⟩ : ∃ n, EC.length = n := ⟨_, rfl⟩
  obtain ⟨nl, hnl⟩ : ∃ n, EL.length = n := ⟨_, rfl⟩
  obtain ⟨ac, cc, evc⟩ := own_shape h1.crow
  rw [hnc] at evc
  have hncm : nc ≤ 9223372036854775807 := by have := own_max h1.crow; omega
  have HEC := Lib.hid evc
  have HNC := Lib.hid hnc
  have HNL := Lib.hid hnl
  have H1 := Lib.hid h1
  have H3 := Lib.hid h3
  have hcall := burn_at h1
  unfold Dv.sync
  clear h1 h3 hdead evc hnc hnl
  cases hbn : D.burn.1 with
  | false =>
    rw [hbn] at hcall
    have HC := Lib.hid hcall
    clear hcall
    go_enter Try.func45, Try.ntmps45
    go_wp2_with fail
    refine HC.out.mono ?_
    rintro e w2 ⟨rfl, hat, hgr⟩
    have HA := Lib.hid hat
    have HG := Lib.hid hgr
    clear hat hgr
    simp only [eDead]
    go_wp2_with fail
    go_ret
    refine ⟨rfl, _, ⟨_, _, EL, EC, K, HA.out, h2, H3.out.trans (HG.out.below (fun k hk => ⟨Nat.lt_of_lt_of_le hk H3.out.size, fun e => by omega⟩)), rfl⟩, ⟨HG.out.mono (fun k e => .inl e), fun k h => .inl h⟩⟩
  | true =>
    rw [hbn] at hcall
    have HC := Lib.hid hcall
    clear hcall
    go_enter Try.func45, Try.ntmps45
    go_wp2_with fail
    refine HC.out.mono ?_
    rintro e w2 ⟨rfl, hat, hgr⟩
    have HA := Lib.hid hat
    have HG := Lib.hid hgr
    have c1 := hat.box.cell 1 _ rfl
    rw [HEC.out] at c1
    have hlt2 := hat.box.lt
    clear hat hgr
    simp only [eDead]
    go_wp2_with fail
    go_loopw [20] (fun z wr => ∃ j : Nat, j ≤ nc ∧ z = .int .i64 j ∧ DvAt wr W0.heap.size d { D.burn.2 with l := setAll D.burn.2.l (D.burn.2.c.take j) } vl vc (setAllE EL (EC.take j)) EC K ∧ GrowX (fun k => k = d ∨ vl.ownBlock = some k) w2 wr) (fun z _ => nc - (intOf z).toNat)
    case atStart => exact ⟨0, Nat.zero_le _, rfl, HA.out, GrowX.refl _⟩
    case round =>
      obtain ⟨j, hj, rfl, hat, hgw⟩ := hrel
      have HAT := Lib.hid hat
      have HGW := Lib.hid hgw
      clear hat hgw
      by_cases hjn : j < nc
      case neg =>
        have hjb : decide (j < nc) = false := by simpa using hjn
        have hbx := HAT.out.box
        have cx1 := hbx.cell 1 _ rfl
        have cxf := hbx.free
        have hltx := hbx.lt
        clear hbx
        go_wp2_with fail
        go_ret
        obtain ⟨k1, k2⟩ := HAT.out.drop
        have e1 : D.burn.2.c.take j = D.burn.2.c := List.take_of_length_le (by rw [HA.out.cis, List.length_map, HNC.out]; omega)
        have e2 : EC.take j = EC := List.take_of_length_le (by rw [HNC.out]; omega)
        rw [e1, e2] at k1
        have hs1 := HG.out.size
        have hs2 := HGW.out.size
        refine ⟨rfl, _, ⟨_, _, _, _, _, k1, h2, ?_, rfl⟩, ⟨((HG.out.mono (fun k e => .inl e)).step HGW.out (fun q _ e => e.elim .inl (fun e => .inr (.inl e)))).step k2 (fun q _ e => .inl e), ?_⟩⟩
        · refine H3.out.trans (Below.trans (HG.out.below (fun k hk => ⟨Nat.lt_of_lt_of_le hk H3.out.size, fun e => by omega⟩)) (Below.trans (HGW.out.below (fun k hk => ⟨by have := H3.out.size; omega, fun e => e.elim (fun e => by omega) (fun e => by have := (H1.out.lrow.lt k e).1; omega)⟩)) (k2.below (fun k hk => ⟨by have := H3.out.size; omega, fun e => by omega⟩))))
        · rintro k (e | e | e | e)
          · exact .inl (.inl e)
          · exact .inl (.inr (.inl e))
          · cases e
          · exact .inl (.inr (.inr (.inr e)))
      have hjb : decide (j < nc) = true := by simpa using hjn
      have HJN := Lib.hid hjn
      have hje : j < EC.length := by rw [HNC.out]; exact hjn
      have hjc : j < D.burn.2.c.length := by rw [HA.out.cis, List.length_map]; exact hje
      have htk : D.burn.2.c.take (j + 1) = D.burn.2.c.take j ++ [(EC[j].1, EC[j].2.1)] := by
        rw [List.take_succ_eq_append_getElem hjc]
        congr 2
        simp only [HA.out.cis, List.getElem_map]
      have htk2 : EC.take (j + 1) = EC.take j ++ [EC[j]] := List.take_succ_eq_append_getElem hje
      have hmem : EC[j] ∈ EC := List.getElem_mem hje
      have hctx := HAT.out.ctx EC[j] hmem
      have hok := HA.out.ok.c (EC[j].1, EC[j].2.1) (by rw [HA.out.cis]; exact List.mem_map_of_mem (f := fun e : Ce => (e.1, e.2.1)) hmem)
      rw [HA.out.lis, List.length_map, HNL.out] at hok
      obtain ⟨b2, o2, c2, e2, hb2l, _, hc1, hc2⟩ := Ces.at (Reads.of_own HAT.out.crow) j hje EC[j] (List.getElem?_eq_getElem hje)
      have hll := setAllE_length EL (EC.take j)
      obtain ⟨gl, cl, evl, _, hgl, _, _⟩ := own_some HAT.out.lrow (fun e => by
        rcases HAT.out.lrow.2 with ⟨_, h0⟩ | ⟨g, cap, cur, h', _⟩
        · rw [hll, HNL.out] at h0; have := hok.1; omega
        · rw [e] at h'; cases h')
      rw [hll, HNL.out] at evl
      rw [HEC.out] at e2
      injection e2 with e21 e22 e23
      subst e21 e23
      clear e22
      have HM := Lib.hid hmem
      have HTK := Lib.hid htk
      have HTK2 := Lib.hid htk2
      have HCX := Lib.hid hctx
      generalize EC[j] = y at *
      obtain ⟨yi, yl, yv⟩ := y
      obtain ⟨ay, cy, hyv⟩ := hctx.1.shape
      simp only at hc1 hc2 hyv hok
      rw [hok.2] at hyv
      rw [hyv] at hc2
      have hyn := hok.1
      have HVL := Lib.hid evl
      have HYV := Lib.hid hyv
      clear htk htk2 hctx hyv hok hjc hje hmem hll evl
      have hal : GrowX (fun _ => False) wr (wr.alloc (.cells #[.int .i64 (yi : Nat), .slice ay 128 cy] 91)) := grow_below ((Below.refl _ _).alloc (Nat.le_refl _) _)
      have bx := Box.new wr #[.int .i64 (yi : Nat), .slice ay 128 cy] 91 rfl
      have hA6 := HAT.out.grow hal (fun h => h) (fun _ _ h => h) (fun _ _ h => h) (fun _ _ h => h)
      have HG6 := Lib.hid (HGW.out.step hal (fun _ _ h => h.elim))
      obtain ⟨fu, hfu⟩ : ∃ f, D.burn.2.fuse = f := ⟨_, rfl⟩
      obtain ⟨ca, hca⟩ : ∃ f, D.burn.2.calls = f := ⟨_, rfl⟩
      obtain ⟨de, hde⟩ : ∃ f, D.burn.2.dead = f := ⟨_, rfl⟩
      have bd := hA6.box
      simp only [hfu, hca, hde] at bd
      rw [HVL.out] at bd
      have HA6 := Lib.hid hA6
      clear hal hfu hca hde hA6
      go_upto_region 9 with (fail)
      obtain ⟨gx, hgx⟩ : ∃ g, wr.heap.size = g := ⟨_, rfl⟩
      rw [hgx] at bx ⊢
      clear hgx
      generalize wr.alloc (.cells #[.int .i64 (yi : Nat), .slice ay 128 cy] 91) = w6 at *
      replace bx : Box w6 gx [.int .i64 (yi : Nat), .slice ay 128 cy] := bx
      have hB : Below w6.heap.size w6 w6 := Below.refl _ _
      refine wp_region_partsDC (WDs9 d gx gl nl cl yi cy ay vc fu ca de) 9 [[], [0], [0, 1], [0, 1, 2], [], [4], [], [6], [0, 1, 2, 3, 4, 5, 6, 7]] [some 24, some 25, some 26, some 27, some 28, some 29, some 30, some 31, some 32, none] (by kernel_rfl) (by kernel_rfl) rfl (PDs9 d gx gl nl cl yi cy ay vc fu ca de) (PDs9_stable d gx gl nl cl yi cy ay vc fu ca de ) ?pDs9 ?_
      case pDs9 =>
        intro i hi o ho vs lo hx_ w' hg hp
        match i, hi with
        | 0, _ =>
          obtain rfl := Option.some.inj ho
          clear ho
          simp only [actsD, List.getD_cons_zero, List.getD_cons_succ, List.foldl_cons, List.foldl_nil, Act.put, List.setIfInBounds_toArray, List.set_cons_succ, List.set_cons_zero]
          have hsz := hg.size
          have hgB : Below w6.heap.size w6 w' := hg.below (fun k hk => ⟨hk, fun o => by rintro ⟨j, _, _, _, hw⟩; exact False.elim hw⟩)
          go_wp2
          exact ⟨_, rfl, GrowC.refl _, rfl⟩
        | 1, _ =>
          obtain rfl := Option.some.inj ho
          clear ho
          simp only [actsD, List.getD_cons_zero, List.getD_cons_succ, List.foldl_cons, List.foldl_nil, Act.put, List.setIfInBounds_toArray, List.set_cons_succ, List.set_cons_zero]
          obtain ⟨_, _, _, h0⟩ := hp 0 (by simp)
          simp only [PDs9] at h0
          have hsz := hg.size
          have hgB : Below w6.heap.size w6 w' := hg.below (fun k hk => ⟨hk, fun o => by rintro ⟨j, _, _, _, hw⟩; exact False.elim hw⟩)
          rw [h0]
          go_wp2
          exact ⟨_, rfl, GrowC.refl _, rfl⟩
        | 2, _ =>
          obtain rfl := Option.some.inj ho
          clear ho
          simp only [actsD, List.getD_cons_zero, List.getD_cons_succ, List.foldl_cons, List.foldl_nil, Act.put, List.setIfInBounds_toArray, List.set_cons_succ, List.set_cons_zero]
          obtain ⟨_, _, _, h1⟩ := hp 1 (by simp)
          simp only [PDs9] at h1
          have hsz := hg.size
          have hgB : Below w6.heap.size w6 w' := hg.below (fun k hk => ⟨hk, fun o => by rintro ⟨j, _, _, _, hw⟩; exact False.elim hw⟩)
          rw [h1]
          go_wp2
          exact ⟨_, rfl, GrowC.refl _, rfl⟩
        | 3, _ =>
          obtain rfl := Option.some.inj ho
          clear ho
          simp only [actsD, List.getD_cons_zero, List.getD_cons_succ, List.foldl_cons, List.foldl_nil, Act.put, List.setIfInBounds_toArray, List.set_cons_succ, List.set_cons_zero]
          obtain ⟨_, _, _, h2⟩ := hp 2 (by simp)
          simp only [PDs9] at h2
          have hsz := hg.size
          have hgB : Below w6.heap.size w6 w' := hg.below (fun k hk => ⟨hk, fun o => by rintro ⟨j, _, _, _, hw⟩; exact False.elim hw⟩)
          rw [h2]
          have e0 := (hg.cell (d) 0 bd.lt (by rintro ⟨j, _, hne, hb, hw⟩; exact False.elim hw)).trans (bd.cell 0 _ rfl)
          go_wp2
          exact ⟨_, rfl, GrowC.refl _, rfl⟩
        | 4, _ =>
          obtain rfl := Option.some.inj ho
          clear ho
          simp only [actsD, List.getD_cons_zero, List.getD_cons_succ, List.foldl_cons, List.foldl_nil, Act.put, List.setIfInBounds_toArray, List.set_cons_succ, List.set_cons_zero]
          have hsz := hg.size
          have hgB : Below w6.heap.size w6 w' := hg.below (fun k hk => ⟨hk, fun o => by rintro ⟨j, _, _, _, hw⟩; exact False.elim hw⟩)
          go_wp2
          exact ⟨_, rfl, GrowC.refl _, rfl⟩
        | 5, _ =>
          obtain rfl := Option.some.inj ho
          clear ho
          simp only [actsD, List.getD_cons_zero, List.getD_cons_succ, List.foldl_cons, List.foldl_nil, Act.put, List.setIfInBounds_toArray, List.set_cons_succ, List.set_cons_zero]
          obtain ⟨_, _, _, h4⟩ := hp 4 (by simp)
          simp only [PDs9] at h4
          have hsz := hg.size
          have hgB : Below w6.heap.size w6 w' := hg.below (fun k hk => ⟨hk, fun o => by rintro ⟨j, _, _, _, hw⟩; exact False.elim hw⟩)
          rw [h4]
          have e0 := (hg.cell (gx) 0 bx.lt (by rintro ⟨j, _, hne, hb, hw⟩; exact False.elim hw)).trans (bx.cell 0 _ rfl)
          go_wp2
          exact ⟨_, rfl, GrowC.refl _, rfl⟩
        | 6, _ =>
          obtain rfl := Option.some.inj ho
          clear ho
          simp only [actsD, List.getD_cons_zero, List.getD_cons_succ, List.foldl_cons, List.foldl_nil, Act.put, List.setIfInBounds_toArray, List.set_cons_succ, List.set_cons_zero]
          have hsz := hg.size
          have hgB : Below w6.heap.size w6 w' := hg.below (fun k hk => ⟨hk, fun o => by rintro ⟨j, _, _, _, hw⟩; exact False.elim hw⟩)
          go_wp2
          exact ⟨_, rfl, GrowC.refl _, rfl⟩
        | 7, _ =>
          obtain rfl := Option.some.inj ho
          clear ho
          simp only [actsD, List.getD_cons_zero, List.getD_cons_succ, List.foldl_cons, List.foldl_nil, Act.put, List.setIfInBounds_toArray, List.set_cons_succ, List.set_cons_zero]
          obtain ⟨_, _, _, h6⟩ := hp 6 (by simp)
          simp only [PDs9] at h6
          have hsz := hg.size
          have hgB : Below w6.heap.size w6 w' := hg.below (fun k hk => ⟨hk, fun o => by rintro ⟨j, _, _, _, hw⟩; exact False.elim hw⟩)
          rw [h6]
          have e0 := (hg.cell (gx) 1 bx.lt (by rintro ⟨j, _, hne, hb, hw⟩; exact False.elim hw)).trans (bx.cell 1 _ rfl)
          go_wp2
          exact ⟨_, rfl, GrowC.refl _, rfl⟩
        | 8, _ =>
          obtain rfl := Option.some.inj ho
          clear ho
          simp only [actsD, List.getD_cons_zero, List.getD_cons_succ, List.foldl_cons, List.foldl_nil, Act.put, List.setIfInBounds_toArray, List.set_cons_succ, List.set_cons_zero]
          obtain ⟨_, _, _, h3⟩ := hp 3 (by simp)
          simp only [PDs9] at h3
          obtain ⟨_, _, _, h5⟩ := hp 5 (by simp)
          simp only [PDs9] at h5
          have hsz := hg.size
          have hgB : Below w6.heap.size w6 w' := hg.below (fun k hk => ⟨hk, fun o => by rintro ⟨j, _, _, _, hw⟩; exact False.elim hw⟩)
          rw [h3, h5]
          have hq1 : decide ((yi : Int) < (nl : Int)) = true := by simp; omega
          have hq2 : decide ((yi : Int) < 0) = false := by simp
          have hq3 : decide (yi < nl) = true := by simp; omega
          go_wp2
          exact ⟨_, rfl, GrowC.refl _, rfl⟩
        | (q + 9), hq => exact absurd hq (by omega)
      intro vS lo hi w5 hg hp hd
      obtain ⟨_, _, _, h0⟩ := hp 0 (by decide)
      obtain ⟨_, _, _, h1⟩ := hp 1 (by decide)
      obtain ⟨_, _, _, h2⟩ := hp 2 (by decide)
      obtain ⟨_, _, _, h3⟩ := hp 3 (by decide)
      obtain ⟨_, _, _, h4⟩ := hp 4 (by decide)
      obtain ⟨_, _, _, h5⟩ := hp 5 (by decide)
      obtain ⟨_, _, _, h6⟩ := hp 6 (by decide)
      obtain ⟨_, _, _, h7⟩ := hp 7 (by decide)
      obtain ⟨_, _, _, h8⟩ := hp 8 (by decide)
      simp only [PDs9] at h0 h1 h2 h3 h4 h5 h6 h7 h8
      clear hp hd
      have hsz := hg.size
      replace bd := bd.grow hg (by intro i _; rintro ⟨j, _, hw⟩; exact False.elim hw)
      replace bx := bx.grow hg (by intro i _; rintro ⟨j, _, hw⟩; exact False.elim hw)
      replace hB := hB.trans (hg.below (fun k hk => ⟨by omega, fun o => by rintro ⟨j, _, hw⟩; exact False.elim hw⟩))
      have hr : List.range 9 = [0, 1, 2, 3, 4, 5, 6, 7, 8] := rfl
      rw [hr]
      clear hr
      simp only [List.drop_succ_cons, List.drop_zero, List.drop_nil, actsD, List.getD_cons_zero, List.getD_cons_succ, List.foldl_cons, List.foldl_nil, Act.put, List.setIfInBounds_toArray, List.set_cons_succ, List.set_cons_zero, h0, h1, h2, h3, h4, h5, h6, h7, h8]
      clear h0 h1 h2 h3 h4 h5 h6 h7 h8
      have HA5 := Lib.hid (HA6.out.grow (X := fun _ => False) (grow_below hB) (fun h => h) (fun _ _ h => h) (fun _ _ h => h) (fun _ _ h => h))
      have HG5 := Lib.hid (HG6.out.step (Y := fun _ => False) (grow_below hB) (fun _ _ h => h.elim))
      have hyE : yi < (setAllE EL (EC.take j)).length := by rw [setAllE_length, HNL.out]; exact hyn
      obtain ⟨b3, o3, c3, e3, _, _, hcold⟩ := Reads.at (Reads.of_own HA5.out.lrow) yi hyE _ (by rw [List.getElem?_map, List.getElem?_eq_getElem hyE]; rfl)
      rw [HVL.out] at e3
      injection e3 with e31 e32 e33
      injection e31 with e31
      injection e31 with e31 e34
      subst e31 e34
      simp only [Nat.zero_add] at hcold
      have hvl5 : vl = .slice (some ⟨gl, 0, none⟩) (setAllE EL (EC.take j)).length cl := by rw [setAllE_length, HNL.out]; exact HVL.out
      have hfz := fun o => own_free HA5.out.lrow hvl5 o
      clear hvl5
      have hgl5 : gl < w5.heap.size := HA5.out.lrow.lt gl (by rw [HVL.out]; rfl) |>.2
      generalize ((setAllE EL (EC.take j))[yi]).2 = vold at hcold
      have HYE := Lib.hid hyE
      clear hB bx bd hyE e32 e33
      go_wp2_with fail
      go_roundw
      case rel =>
        refine ⟨j + 1, by have := HJN.out; omega, by go_num, ?_, ?_⟩
        · have := HA5.out.lset (gl := gl) (cl := cl) (by rw [setAllE_length, HNL.out]; exact HVL.out) yi HYE.out (yi, yl, yv) HM.out
          rw [HTK.out, setAll_snoc, HTK2.out, setAllE_snoc]
          simp only [HYV.out] at this
          simp only [HYV.out]
          exact this
        · exact HG5.out.step (growX_setCell w5 gl yi _) (fun q _ e => .inr (by rw [HVL.out, e]; rfl))
      case measure => have := HJN.out; simp [intOf]; omega
end Go.Proofs.Ytdnjjdpenfhpeaa

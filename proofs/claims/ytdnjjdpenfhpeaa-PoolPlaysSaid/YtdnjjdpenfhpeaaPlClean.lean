/- The pool: clean (a dirty frame's log is forced, its page written). Conditions: none. -/
import Derived.Test.YtdnjjdpenfhpeaaPlSet
import Derived.Deep.DeepCutAuto
import Derived.Deep.CutBlock
namespace Go.Proofs.Ytdnjjdpenfhpeaa
set_option linter.unusedSimpArgs false
set_option linter.unusedVariables false
open Go.RowKit

def Pl.clean {St : Type} (step : St → Int → Int × St) (p : Pl) (s : St) (i : Nat) : Int × Pl × St :=
  if (p.F.getD i Fm.free).dirty then
    if (step s (p.F.getD i Fm.free).lsn).1 = 0 then
      (0, { p with F := p.F.set i { p.F.getD i Fm.free with dirty := false }, wr := p.wr + 1, P := putP p.P (p.F.getD i Fm.free).page.toNat (p.F.getD i Fm.free).b }, (step s (p.F.getD i Fm.free).lsn).2)
    else ((step s (p.F.getD i Fm.free).lsn).1, p, (step s (p.F.getD i Fm.free).lsn).2)
  else (0, p, s)
theorem Pl.clean_no {St : Type} {step : St → Int → Int × St} {p : Pl} {s : St} {i : Nat} (h : (p.F.getD i Fm.free).dirty = false) : p.clean step s i = (0, p, s) := by
  unfold Pl.clean; rw [if_neg (by rw [h]; decide)]
theorem Pl.clean_err {St : Type} {step : St → Int → Int × St} {p : Pl} {s rs : St} {i : Nat} {x : Fm} {re : Int} (h0 : p.F.getD i Fm.free = x) (h : x.dirty = true) (h1 : step s x.lsn = (re, rs)) (h2 : ¬ re = 0) : p.clean step s i = (re, p, rs) := by
  unfold Pl.clean; rw [h0, if_pos h, h1, if_neg h2]
theorem Pl.clean_ok {St : Type} {step : St → Int → Int × St} {p : Pl} {s rs : St} {i : Nat} {x : Fm} (h0 : p.F.getD i Fm.free = x) (h : x.dirty = true) (h1 : step s x.lsn = (0, rs)) : p.clean step s i = (0, { p with F := p.F.set i { x with dirty := false }, wr := p.wr + 1, P := putP p.P x.page.toNat x.b }, rs) := by
  unfold Pl.clean; rw [h0, if_pos h, h1, if_pos rfl]
def WCl4 (g lb n f ix q fn : Nat) (caps : Array Value) (hdv wrv vb : Value) (ls : Int) (j b o : Nat) : Prop := False
def PCl4 (g lb n f ix q fn : Nat) (caps : Array Value) (hdv wrv vb : Value) (ls : Int) (i : Nat) (v : Value) (lo hi : Nat) (w : World) : Prop :=
  match i with
  | 0 => v = .pointer (some ⟨g, 0, none⟩)
  | 1 => v = .pointer (some ⟨g, 0, none⟩)
  | 2 => v = .pointer (some ⟨g, 2, none⟩)
  | 3 => v = .func (.func fn) #[] caps
  | 4 => v = .pointer (some ⟨lb, ix * 6, none⟩)
  | 5 => v = .pointer (some ⟨lb, ix * 6, none⟩)
  | 6 => v = .pointer (some ⟨lb, ix * 6 + 5, none⟩)
  | 7 => v = .int .i64 ls
  | _ => True
theorem PCl4_stable (g lb n f ix q fn : Nat) (caps : Array Value) (hdv wrv vb : Value) (ls : Int)  : ∀ i j, i < 8 → j < 8 → j ≠ i → j ∉ ([[], [0], [0, 1], [0, 1, 2], [], [4], [4, 5], [4, 5, 6]] : List (List Nat)).getD i [] → ∀ v lo hi w w', PCl4 g lb n f ix q fn caps hdv wrv vb ls i v lo hi w → GrowC (WCl4 g lb n f ix q fn caps hdv wrv vb ls j) w w' → PCl4 g lb n f ix q fn caps hdv wrv vb ls i v lo hi w' := by
  intro i j hi hj hne hbs v lo hj2 w w' h hg
  match i, hi with
  | 0, _ =>
    simp only [PCl4] at h ⊢
    exact h
  | 1, _ =>
    simp only [PCl4] at h ⊢
    exact h
  | 2, _ =>
    simp only [PCl4] at h ⊢
    exact h
  | 3, _ =>
    simp only [PCl4] at h ⊢
    exact h
  | 4, _ =>
    simp only [PCl4] at h ⊢
    exact h
  | 5, _ =>
    simp only [PCl4] at h ⊢
    exact h
  | 6, _ =>
    simp only [PCl4] at h ⊢
    exact h
  | 7, _ =>
    simp only [PCl4] at h ⊢
    exact h
  | (q + 8), hq => exact absurd hq (by omega)
def WCl7 (g lb n f ix q fn : Nat) (caps : Array Value) (hdv wrv vb : Value) (ls : Int) (j b o : Nat) : Prop := False
def PCl7 (g lb n f ix q fn : Nat) (caps : Array Value) (hdv wrv vb : Value) (ls : Int) (i : Nat) (v : Value) (lo hi : Nat) (w : World) : Prop :=
  match i with
  | 0 => v = .pointer (some ⟨g, 0, none⟩)
  | 1 => v = .pointer (some ⟨g, 0, none⟩)
  | 2 => v = .pointer (some ⟨g, 0, none⟩)
  | 3 => v = .pointer (some ⟨f, 0, none⟩)
  | 4 => v = .pointer (some ⟨lb, ix * 6, none⟩)
  | 5 => v = .pointer (some ⟨lb, ix * 6, none⟩)
  | 6 => v = .pointer (some ⟨lb, ix * 6, none⟩)
  | 7 => v = .int .i64 ((q : Nat) : Int)
  | 8 => v = .pointer (some ⟨lb, ix * 6, none⟩)
  | 9 => v = .pointer (some ⟨lb, ix * 6, none⟩)
  | 10 => v = .pointer (some ⟨lb, ix * 6 + 1, none⟩)
  | 11 => v = vb
  | _ => True
theorem PCl7_stable (g lb n f ix q fn : Nat) (caps : Array Value) (hdv wrv vb : Value) (ls : Int)  : ∀ i j, i < 12 → j < 12 → j ≠ i → j ∉ ([[], [0], [0, 1], [0, 1, 2], [], [4], [4, 5], [4, 5, 6], [], [8], [8, 9], [8, 9, 10]] : List (List Nat)).getD i [] → ∀ v lo hi w w', PCl7 g lb n f ix q fn caps hdv wrv vb ls i v lo hi w → GrowC (WCl7 g lb n f ix q fn caps hdv wrv vb ls j) w w' → PCl7 g lb n f ix q fn caps hdv wrv vb ls i v lo hi w' := by
  intro i j hi hj hne hbs v lo hj2 w w' h hg
  match i, hi with
  | 0, _ =>
    simp only [PCl7] at h ⊢
    exact h
  | 1, _ =>
    simp only [PCl7] at h ⊢
    exact h
  | 2, _ =>
    simp only [PCl7] at h ⊢
    exact h
  | 3, _ =>
    simp only [PCl7] at h ⊢
    exact h
  | 4, _ =>
    simp only [PCl7] at h ⊢
    exact h
  | 5, _ =>
    simp only [PCl7] at h ⊢
    exact h
  | 6, _ =>
    simp only [PCl7] at h ⊢
    exact h
  | 7, _ =>
    simp only [PCl7] at h ⊢
    exact h
  | 8, _ =>
    simp only [PCl7] at h ⊢
    exact h
  | 9, _ =>
    simp only [PCl7] at h ⊢
    exact h
  | 10, _ =>
    simp only [PCl7] at h ⊢
    exact h
  | 11, _ =>
    simp only [PCl7] at h ⊢
    exact h
  | (q + 12), hq => exact absurd hq (by omega)
section
variable {W0 : World} {g n f d fr pg : Nat} {St : Type} {FI : St → (Nat → Prop) → World → Prop} {p : Pl} {s : St} {S : Nat → Prop} {w : World} {fn : Nat} {caps : Array Value} {step : St → Int → Int × St} {okS : St → Prop}
set_option maxRecDepth 100000 in
set_option maxHeartbeats 3200000 in
theorem clean_pv (hF : ForceOf W0 fn caps FI step okS) (h : PV W0 g n f d fr pg (.func (.func fn) #[] caps) FI p s S w) (ix : Nat) (hi : ix < n) (hwr : p.wr + 1 ≤ 1000000000) (hs : okS s) :
    Calls Try.prog 34 #[.pointer (some ⟨g, 0, none⟩), .int .i64 (ix : Nat)] w fun e w' => ∃ S', e = .returned (.int .i64 (p.clean step s ix).1) ∧ PV W0 g n f d fr pg (.func (.func fn) #[] caps) FI (p.clean step s ix).2.1 (p.clean step s ix).2.2 S' w' ∧ Foot S S' w w' := by
  have h0 := h
  obtain ⟨lb, E, K, S1, S2, h1, h2, h3, h4, h5, h6, h7, h8, h9, rfl⟩ := h
  have hiE : ix < E.length := by rw [h1.len]; exact hi
  obtain ⟨e0, he0⟩ : ∃ e, E[ix]? = some e := ⟨_, List.getElem?_eq_getElem hiE⟩
  have hpF : p.F.getD ix Fm.free = e0.1 := by
    rw [← h5, List.getD_eq_getElem?_getD, List.getElem?_map, he0]; rfl
  have hxok : e0.1.ok pg := h6.fr _ (by rw [← h5]; exact List.mem_map_of_mem (f := fun e : Fe => e.1) (List.mem_of_getElem? he0))
  have hcell := h1.cell ix e0 he0
  have htx := h1.txt e0 (List.mem_of_getElem? he0)
  obtain ⟨⟨pgx, bx, di, ma, rc, ls⟩, vb⟩ := e0
  have k2 := hcell 2 _ rfl
  have c1 := h1.box.cell 1 _ rfl
  have hlg := h1.box.lt
  have hll := h1.ll.2
  have hn64 := h6.n64
  have H0 := Lib.hid h0
  have H1 := Lib.hid h1
  have hb1 : decide ((ix : Int) < 0) = false := by simp
  have hb2 : decide ((ix : Int) < (n : Int)) = true := by simp; omega
  have hb3 : decide (ix < n) = true := by simp; omega
  simp only at hpF hxok htx
  cases di with
  | false =>
    have HPF0 := Lib.hid hpF
    clear h0 h1 h2 h3 h4 h5 h6 h7 h8 h9 hcell htx hxok hF hpF he0
    go_enter Try.func34, Try.ntmps34
    go_wp2_with fail
    go_ret
    rw [Pl.clean_no (by rw [HPF0.out])]
    exact ⟨rfl, _, H0.out, Foot.same (B := fun _ => False) (GrowX.refl _) (fun _ h => h.elim)⟩
  | true =>
    obtain ⟨hx1, hx2⟩ := hxok
    obtain ⟨q, rfl⟩ := Int.eq_ofNat_of_zero_le (hx2 rfl)
    obtain ⟨hqp, hbx⟩ := hx1 (Int.natCast_nonneg q)
    simp only at hqp hbx htx k2
    have hqpg : q < pg := by omega
    obtain ⟨hdv, hhd⟩ : ∃ x, Value.int .i64 (p.hand : Nat) = x := ⟨_, rfl⟩
    obtain ⟨wrv, hwv⟩ : ∃ x, Value.int .i64 (p.wr : Nat) = x := ⟨_, rfl⟩
    have bg := h1.box
    rw [hhd, hwv] at bg
    have HE := Lib.hid he0
    have HF := Lib.hid hF
    have H3 := Lib.hid h3
    have H4 := Lib.hid h4
    have H5 := Lib.hid h5
    have H6 := Lib.hid h6
    have H7 := Lib.hid h7
    have H8 := Lib.hid h8
    have H9 := Lib.hid h9
    have HT := Lib.hid htx
    have HB := Lib.hid hbx
    have HPF := Lib.hid hpF
    have HHD := Lib.hid hhd
    have HWV := Lib.hid hwv
    have HEN := Lib.hid hF.enter
    have hb0 := h3.bel
    have hbs := hb0.size
    have H2G := Lib.hid h2
    have HLT := Lib.hid (h0.lt hF)
    clear h0 h1 h2 h3 h4 h5 h6 h7 h8 h9 hcell htx hF hpF he0 hx1 hx2 hqp hbx hhd hwv hb0
    obtain ⟨r, hr⟩ : ∃ r, step s ls = r := ⟨_, rfl⟩
    obtain ⟨re, rs⟩ := r
    have HR := Lib.hid hr
    clear hr
    go_enter Try.func34, Try.ntmps34
    go_upto_region 4 with (fail)
    clear c1 k2 hb1 hb2 hb3
    have hB : Below w.heap.size w w := Below.refl _ _
    refine wp_region_partsDC (WCl4 g lb n f ix q fn caps hdv wrv vb ls) 8 [[], [0], [0, 1], [0, 1, 2], [], [4], [4, 5], [4, 5, 6]] [some 19, some 20, some 21, some 22, some 23, some 24, some 25, some 26, some 27, some 6] (by kernel_rfl) (by kernel_rfl) rfl (PCl4 g lb n f ix q fn caps hdv wrv vb ls) (PCl4_stable g lb n f ix q fn caps hdv wrv vb ls ) ?pCl4 ?_
    case pCl4 =>
      intro i hi o ho vs lo hx_ w' hg hp
      match i, hi with
      | 0, _ =>
        obtain rfl := Option.some.inj ho
        clear ho
        simp only [actsD, List.getD_cons_zero, List.getD_cons_succ, List.foldl_cons, List.foldl_nil, Act.put, List.setIfInBounds_toArray, List.set_cons_succ, List.set_cons_zero]
        have hsz := hg.size
        have hgB : Below w.heap.size w w' := hg.below (fun k hk => ⟨hk, fun o => by rintro ⟨j, _, _, _, hw⟩; exact False.elim hw⟩)
        go_wp2
        exact ⟨_, rfl, GrowC.refl _, rfl⟩
      | 1, _ =>
        obtain rfl := Option.some.inj ho
        clear ho
        simp only [actsD, List.getD_cons_zero, List.getD_cons_succ, List.foldl_cons, List.foldl_nil, Act.put, List.setIfInBounds_toArray, List.set_cons_succ, List.set_cons_zero]
        obtain ⟨_, _, _, h0⟩ := hp 0 (by simp)
        simp only [PCl4] at h0
        have hsz := hg.size
        have hgB : Below w.heap.size w w' := hg.below (fun k hk => ⟨hk, fun o => by rintro ⟨j, _, _, _, hw⟩; exact False.elim hw⟩)
        rw [h0]
        go_wp2
        exact ⟨_, rfl, GrowC.refl _, rfl⟩
      | 2, _ =>
        obtain rfl := Option.some.inj ho
        clear ho
        simp only [actsD, List.getD_cons_zero, List.getD_cons_succ, List.foldl_cons, List.foldl_nil, Act.put, List.setIfInBounds_toArray, List.set_cons_succ, List.set_cons_zero]
        obtain ⟨_, _, _, h1⟩ := hp 1 (by simp)
        simp only [PCl4] at h1
        have hsz := hg.size
        have hgB : Below w.heap.size w w' := hg.below (fun k hk => ⟨hk, fun o => by rintro ⟨j, _, _, _, hw⟩; exact False.elim hw⟩)
        rw [h1]
        go_wp2
        exact ⟨_, rfl, GrowC.refl _, rfl⟩
      | 3, _ =>
        obtain rfl := Option.some.inj ho
        clear ho
        simp only [actsD, List.getD_cons_zero, List.getD_cons_succ, List.foldl_cons, List.foldl_nil, Act.put, List.setIfInBounds_toArray, List.set_cons_succ, List.set_cons_zero]
        obtain ⟨_, _, _, h2⟩ := hp 2 (by simp)
        simp only [PCl4] at h2
        have hsz := hg.size
        have hgB : Below w.heap.size w w' := hg.below (fun k hk => ⟨hk, fun o => by rintro ⟨j, _, _, _, hw⟩; exact False.elim hw⟩)
        rw [h2]
        have e0 := (hg.cell (g) 2 bg.lt (by rintro ⟨j, _, hne, hb, hw⟩; exact False.elim hw)).trans (bg.cell 2 _ rfl)
        go_wp2
        exact ⟨_, rfl, GrowC.refl _, rfl⟩
      | 4, _ =>
        obtain rfl := Option.some.inj ho
        clear ho
        simp only [actsD, List.getD_cons_zero, List.getD_cons_succ, List.foldl_cons, List.foldl_nil, Act.put, List.setIfInBounds_toArray, List.set_cons_succ, List.set_cons_zero]
        have hsz := hg.size
        have hgB : Below w.heap.size w w' := hg.below (fun k hk => ⟨hk, fun o => by rintro ⟨j, _, _, _, hw⟩; exact False.elim hw⟩)
        go_wp2
        exact ⟨_, rfl, GrowC.refl _, rfl⟩
      | 5, _ =>
        obtain rfl := Option.some.inj ho
        clear ho
        simp only [actsD, List.getD_cons_zero, List.getD_cons_succ, List.foldl_cons, List.foldl_nil, Act.put, List.setIfInBounds_toArray, List.set_cons_succ, List.set_cons_zero]
        obtain ⟨_, _, _, h4⟩ := hp 4 (by simp)
        simp only [PCl4] at h4
        have hsz := hg.size
        have hgB : Below w.heap.size w w' := hg.below (fun k hk => ⟨hk, fun o => by rintro ⟨j, _, _, _, hw⟩; exact False.elim hw⟩)
        rw [h4]
        go_wp2
        exact ⟨_, rfl, GrowC.refl _, rfl⟩
      | 6, _ =>
        obtain rfl := Option.some.inj ho
        clear ho
        simp only [actsD, List.getD_cons_zero, List.getD_cons_succ, List.foldl_cons, List.foldl_nil, Act.put, List.setIfInBounds_toArray, List.set_cons_succ, List.set_cons_zero]
        obtain ⟨_, _, _, h5⟩ := hp 5 (by simp)
        simp only [PCl4] at h5
        have hsz := hg.size
        have hgB : Below w.heap.size w w' := hg.below (fun k hk => ⟨hk, fun o => by rintro ⟨j, _, _, _, hw⟩; exact False.elim hw⟩)
        rw [h5]
        go_wp2
        exact ⟨_, rfl, GrowC.refl _, rfl⟩
      | 7, _ =>
        obtain rfl := Option.some.inj ho
        clear ho
        simp only [actsD, List.getD_cons_zero, List.getD_cons_succ, List.foldl_cons, List.foldl_nil, Act.put, List.setIfInBounds_toArray, List.set_cons_succ, List.set_cons_zero]
        obtain ⟨_, _, _, h6⟩ := hp 6 (by simp)
        simp only [PCl4] at h6
        have hsz := hg.size
        have hgB : Below w.heap.size w w' := hg.below (fun k hk => ⟨hk, fun o => by rintro ⟨j, _, _, _, hw⟩; exact False.elim hw⟩)
        rw [h6]
        have hgx : GrowX (fun _ => False) w w' := GrowX.of_growC hg (fun k o ⟨j, _, _, _, hw⟩ => hw)
        have e9 := (H1.out.grow hgx (fun h => h) (fun h => h) (fun _ _ h => h)).cell ix _ HE.out 5 _ rfl
        go_wp2
        exact ⟨_, rfl, GrowC.refl _, rfl⟩
      | (q + 8), hq => exact absurd hq (by omega)
    intro vS lo hi w4 hg hp hd
    obtain ⟨_, _, _, h0⟩ := hp 0 (by decide)
    obtain ⟨_, _, _, h1⟩ := hp 1 (by decide)
    obtain ⟨_, _, _, h2⟩ := hp 2 (by decide)
    obtain ⟨_, _, _, h3⟩ := hp 3 (by decide)
    obtain ⟨_, _, _, h4⟩ := hp 4 (by decide)
    obtain ⟨_, _, _, h5⟩ := hp 5 (by decide)
    obtain ⟨_, _, _, h6⟩ := hp 6 (by decide)
    obtain ⟨_, _, _, h7⟩ := hp 7 (by decide)
    simp only [PCl4] at h0 h1 h2 h3 h4 h5 h6 h7
    clear hp hd
    have hsz := hg.size
    replace bg := bg.grow hg (by intro i _; rintro ⟨j, _, hw⟩; exact False.elim hw)
    replace hB := hB.trans (hg.below (fun k hk => ⟨by omega, fun o => by rintro ⟨j, _, hw⟩; exact False.elim hw⟩))
    have hr : List.range 8 = [0, 1, 2, 3, 4, 5, 6, 7] := rfl
    rw [hr]
    clear hr
    simp only [List.drop_succ_cons, List.drop_zero, List.drop_nil, actsD, List.getD_cons_zero, List.getD_cons_succ, List.foldl_cons, List.foldl_nil, Act.put, List.setIfInBounds_toArray, List.set_cons_succ, List.set_cons_zero, h0, h1, h2, h3, h4, h5, h6, h7]
    clear h0 h1 h2 h3 h4 h5 h6 h7
    have hgr4 : GrowX (fun _ => False) w w4 := grow_below hB
    have hB4 : Below W0.heap.size W0 w4 := H3.out.bel.trans (hB.mono hbs)
    have hans := HF.out.ans s S2 w4 ls (HF.out.grow _ _ _ _ _ H4.out hgr4 (fun _ _ h => h) hB4) hs
    have hent := HEN.out
    rw [HR.out] at hans
    have HANS := Lib.hid hans
    have HGR4 := Lib.hid hgr4
    clear bg hB hg hsz hgr4 hans hB4
    by_cases hre : re = 0
    case neg =>
      have hq1 : (re != 0) = true := by simpa using hre
      have hq2 : decide (re = 0) = false := by simpa using hre
      go_wp2_with fail
      refine HANS.out.mono ?_
      rintro e y2 ⟨S2', rfl, hfi, hft⟩
      have HFT : Hid (Foot S2 S2' w y2) := Lib.hid ((Foot.below HGR4.out).trans hft)
      clear hft
      have hb2' : Below W0.heap.size W0 y2 := HF.out.bel _ _ _ hfi
      have H2 : Hid (PoolAt y2 W0.heap.size g lb n f (.func (.func fn) #[] caps) E p.hand p.wr K) := Lib.hid (H1.out.grow HFT.out.grow (fun hs => H8.out g (.inl rfl) hs) (fun hs => H8.out lb (.inr (.inl rfl)) hs) (fun k hk hs => H8.out k (.inr (.inr hk)) hs))
      have H3y : Hid (FV W0 f d fr pg p.P S1 y2) := Lib.hid (H3.out.grow HFT.out.grow H9.out hb2')
      have H8y : Hid (Disj (own3 g lb K) S2') := Lib.hid (HFT.out.disj H8.out.symm (fun k hk => (HLT.out k (.inl hk)).2)).symm
      have H9y : Hid (Disj S1 S2') := Lib.hid (HFT.out.disj H9.out.symm (fun k hk => (HLT.out k (.inr (.inl hk))).2)).symm
      have HFI := Lib.hid hfi
      clear hfi hb2'
      go_wp2_with fail
      go_ret
      rw [Pl.clean_err HPF.out rfl HR.out hre]
      exact ⟨_, rfl, ⟨lb, E, K, S1, S2', H2.out, H2G.out, H3y.out, HFI.out, H5.out, H6.out, H7.out, H8y.out, H9y.out, rfl⟩, HFT.out.inc (fun k hk => .inr (.inr hk)) (fun k hk => hk.elim (fun h => .inl (.inl h)) (fun h => h.elim (fun h => .inl (.inr (.inl h))) .inr))⟩
    subst hre
    go_wp2_with fail
    refine HANS.out.mono ?_
    rintro e y2 ⟨S2', rfl, hfi, hft⟩
    have HFT : Hid (Foot S2 S2' w y2) := Lib.hid ((Foot.below HGR4.out).trans hft)
    clear hft
    have hb2' : Below W0.heap.size W0 y2 := HF.out.bel _ _ _ hfi
    have H2 : Hid (PoolAt y2 W0.heap.size g lb n f (.func (.func fn) #[] caps) E p.hand p.wr K) := Lib.hid (H1.out.grow HFT.out.grow (fun hs => H8.out g (.inl rfl) hs) (fun hs => H8.out lb (.inr (.inl rfl)) hs) (fun k hk hs => H8.out k (.inr (.inr hk)) hs))
    have H3y : Hid (FV W0 f d fr pg p.P S1 y2) := Lib.hid (H3.out.grow HFT.out.grow H9.out hb2')
    have H8y : Hid (Disj (own3 g lb K) S2') := Lib.hid (HFT.out.disj H8.out.symm (fun k hk => (HLT.out k (.inl hk)).2)).symm
    have H9y : Hid (Disj S1 S2') := Lib.hid (HFT.out.disj H9.out.symm (fun k hk => (HLT.out k (.inr (.inl hk))).2)).symm
    have HFI := Lib.hid hfi
    clear hfi hb2'
    go_upto_region 7 with (fail)
    have bg : Box y2 g [.pointer (some ⟨f, 0, none⟩), .slice (some ⟨lb, 0, none⟩) n n, .func (.func fn) #[] caps, hdv, wrv] := by rw [← HHD.out, ← HWV.out]; exact H2.out.box
    have hB : Below y2.heap.size y2 y2 := Below.refl _ _
    refine wp_region_partsDC (WCl7 g lb n f ix q fn caps hdv wrv vb ls) 12 [[], [0], [0, 1], [0, 1, 2], [], [4], [4, 5], [4, 5, 6], [], [8], [8, 9], [8, 9, 10]] [some 31, some 32, some 33, some 34, some 35, some 36, some 37, some 38, some 39, some 40, some 41, some 42, some 43, some 7] (by kernel_rfl) (by kernel_rfl) rfl (PCl7 g lb n f ix q fn caps hdv wrv vb ls) (PCl7_stable g lb n f ix q fn caps hdv wrv vb ls ) ?pCl7 ?_
    case pCl7 =>
      intro i hi o ho vs lo hx_ w' hg hp
      match i, hi with
      | 0, _ =>
        obtain rfl := Option.some.inj ho
        clear ho
        simp only [actsD, List.getD_cons_zero, List.getD_cons_succ, List.foldl_cons, List.foldl_nil, Act.put, List.setIfInBounds_toArray, List.set_cons_succ, List.set_cons_zero]
        have hsz := hg.size
        have hgB : Below y2.heap.size y2 w' := hg.below (fun k hk => ⟨hk, fun o => by rintro ⟨j, _, _, _, hw⟩; exact False.elim hw⟩)
        go_wp2
        exact ⟨_, rfl, GrowC.refl _, rfl⟩
      | 1, _ =>
        obtain rfl := Option.some.inj ho
        clear ho
        simp only [actsD, List.getD_cons_zero, List.getD_cons_succ, List.foldl_cons, List.foldl_nil, Act.put, List.setIfInBounds_toArray, List.set_cons_succ, List.set_cons_zero]
        obtain ⟨_, _, _, h0⟩ := hp 0 (by simp)
        simp only [PCl7] at h0
        have hsz := hg.size
        have hgB : Below y2.heap.size y2 w' := hg.below (fun k hk => ⟨hk, fun o => by rintro ⟨j, _, _, _, hw⟩; exact False.elim hw⟩)
        rw [h0]
        go_wp2
        exact ⟨_, rfl, GrowC.refl _, rfl⟩
      | 2, _ =>
        obtain rfl := Option.some.inj ho
        clear ho
        simp only [actsD, List.getD_cons_zero, List.getD_cons_succ, List.foldl_cons, List.foldl_nil, Act.put, List.setIfInBounds_toArray, List.set_cons_succ, List.set_cons_zero]
        obtain ⟨_, _, _, h1⟩ := hp 1 (by simp)
        simp only [PCl7] at h1
        have hsz := hg.size
        have hgB : Below y2.heap.size y2 w' := hg.below (fun k hk => ⟨hk, fun o => by rintro ⟨j, _, _, _, hw⟩; exact False.elim hw⟩)
        rw [h1]
        go_wp2
        exact ⟨_, rfl, GrowC.refl _, rfl⟩
      | 3, _ =>
        obtain rfl := Option.some.inj ho
        clear ho
        simp only [actsD, List.getD_cons_zero, List.getD_cons_succ, List.foldl_cons, List.foldl_nil, Act.put, List.setIfInBounds_toArray, List.set_cons_succ, List.set_cons_zero]
        obtain ⟨_, _, _, h2⟩ := hp 2 (by simp)
        simp only [PCl7] at h2
        have hsz := hg.size
        have hgB : Below y2.heap.size y2 w' := hg.below (fun k hk => ⟨hk, fun o => by rintro ⟨j, _, _, _, hw⟩; exact False.elim hw⟩)
        rw [h2]
        have e0 := (hg.cell (g) 0 bg.lt (by rintro ⟨j, _, hne, hb, hw⟩; exact False.elim hw)).trans (bg.cell 0 _ rfl)
        go_wp2
        exact ⟨_, rfl, GrowC.refl _, rfl⟩
      | 4, _ =>
        obtain rfl := Option.some.inj ho
        clear ho
        simp only [actsD, List.getD_cons_zero, List.getD_cons_succ, List.foldl_cons, List.foldl_nil, Act.put, List.setIfInBounds_toArray, List.set_cons_succ, List.set_cons_zero]
        have hsz := hg.size
        have hgB : Below y2.heap.size y2 w' := hg.below (fun k hk => ⟨hk, fun o => by rintro ⟨j, _, _, _, hw⟩; exact False.elim hw⟩)
        go_wp2
        exact ⟨_, rfl, GrowC.refl _, rfl⟩
      | 5, _ =>
        obtain rfl := Option.some.inj ho
        clear ho
        simp only [actsD, List.getD_cons_zero, List.getD_cons_succ, List.foldl_cons, List.foldl_nil, Act.put, List.setIfInBounds_toArray, List.set_cons_succ, List.set_cons_zero]
        obtain ⟨_, _, _, h4⟩ := hp 4 (by simp)
        simp only [PCl7] at h4
        have hsz := hg.size
        have hgB : Below y2.heap.size y2 w' := hg.below (fun k hk => ⟨hk, fun o => by rintro ⟨j, _, _, _, hw⟩; exact False.elim hw⟩)
        rw [h4]
        go_wp2
        exact ⟨_, rfl, GrowC.refl _, rfl⟩
      | 6, _ =>
        obtain rfl := Option.some.inj ho
        clear ho
        simp only [actsD, List.getD_cons_zero, List.getD_cons_succ, List.foldl_cons, List.foldl_nil, Act.put, List.setIfInBounds_toArray, List.set_cons_succ, List.set_cons_zero]
        obtain ⟨_, _, _, h5⟩ := hp 5 (by simp)
        simp only [PCl7] at h5
        have hsz := hg.size
        have hgB : Below y2.heap.size y2 w' := hg.below (fun k hk => ⟨hk, fun o => by rintro ⟨j, _, _, _, hw⟩; exact False.elim hw⟩)
        rw [h5]
        go_wp2
        exact ⟨_, rfl, GrowC.refl _, rfl⟩
      | 7, _ =>
        obtain rfl := Option.some.inj ho
        clear ho
        simp only [actsD, List.getD_cons_zero, List.getD_cons_succ, List.foldl_cons, List.foldl_nil, Act.put, List.setIfInBounds_toArray, List.set_cons_succ, List.set_cons_zero]
        obtain ⟨_, _, _, h6⟩ := hp 6 (by simp)
        simp only [PCl7] at h6
        have hsz := hg.size
        have hgB : Below y2.heap.size y2 w' := hg.below (fun k hk => ⟨hk, fun o => by rintro ⟨j, _, _, _, hw⟩; exact False.elim hw⟩)
        rw [h6]
        have hgx : GrowX (fun _ => False) y2 w' := GrowX.of_growC hg (fun k o ⟨j, _, _, _, hw⟩ => hw)
        have e9 := (H2.out.grow hgx (fun h => h) (fun h => h) (fun _ _ h => h)).cell ix _ HE.out 0 _ rfl
        rw [Nat.add_zero] at e9
        go_wp2
        exact ⟨_, rfl, GrowC.refl _, rfl⟩
      | 8, _ =>
        obtain rfl := Option.some.inj ho
        clear ho
        simp only [actsD, List.getD_cons_zero, List.getD_cons_succ, List.foldl_cons, List.foldl_nil, Act.put, List.setIfInBounds_toArray, List.set_cons_succ, List.set_cons_zero]
        have hsz := hg.size
        have hgB : Below y2.heap.size y2 w' := hg.below (fun k hk => ⟨hk, fun o => by rintro ⟨j, _, _, _, hw⟩; exact False.elim hw⟩)
        go_wp2
        exact ⟨_, rfl, GrowC.refl _, rfl⟩
      | 9, _ =>
        obtain rfl := Option.some.inj ho
        clear ho
        simp only [actsD, List.getD_cons_zero, List.getD_cons_succ, List.foldl_cons, List.foldl_nil, Act.put, List.setIfInBounds_toArray, List.set_cons_succ, List.set_cons_zero]
        obtain ⟨_, _, _, h8⟩ := hp 8 (by simp)
        simp only [PCl7] at h8
        have hsz := hg.size
        have hgB : Below y2.heap.size y2 w' := hg.below (fun k hk => ⟨hk, fun o => by rintro ⟨j, _, _, _, hw⟩; exact False.elim hw⟩)
        rw [h8]
        go_wp2
        exact ⟨_, rfl, GrowC.refl _, rfl⟩
      | 10, _ =>
        obtain rfl := Option.some.inj ho
        clear ho
        simp only [actsD, List.getD_cons_zero, List.getD_cons_succ, List.foldl_cons, List.foldl_nil, Act.put, List.setIfInBounds_toArray, List.set_cons_succ, List.set_cons_zero]
        obtain ⟨_, _, _, h9⟩ := hp 9 (by simp)
        simp only [PCl7] at h9
        have hsz := hg.size
        have hgB : Below y2.heap.size y2 w' := hg.below (fun k hk => ⟨hk, fun o => by rintro ⟨j, _, _, _, hw⟩; exact False.elim hw⟩)
        rw [h9]
        go_wp2
        exact ⟨_, rfl, GrowC.refl _, rfl⟩
      | 11, _ =>
        obtain rfl := Option.some.inj ho
        clear ho
        simp only [actsD, List.getD_cons_zero, List.getD_cons_succ, List.foldl_cons, List.foldl_nil, Act.put, List.setIfInBounds_toArray, List.set_cons_succ, List.set_cons_zero]
        obtain ⟨_, _, _, h10⟩ := hp 10 (by simp)
        simp only [PCl7] at h10
        have hsz := hg.size
        have hgB : Below y2.heap.size y2 w' := hg.below (fun k hk => ⟨hk, fun o => by rintro ⟨j, _, _, _, hw⟩; exact False.elim hw⟩)
        rw [h10]
        have hgx : GrowX (fun _ => False) y2 w' := GrowX.of_growC hg (fun k o ⟨j, _, _, _, hw⟩ => hw)
        have e9 := (H2.out.grow hgx (fun h => h) (fun h => h) (fun _ _ h => h)).cell ix _ HE.out 1 _ rfl
        go_wp2
        exact ⟨_, rfl, GrowC.refl _, rfl⟩
      | (q + 12), hq => exact absurd hq (by omega)
    intro vS lo hi w6 hg hp hd
    obtain ⟨_, _, _, h0⟩ := hp 0 (by decide)
    obtain ⟨_, _, _, h1⟩ := hp 1 (by decide)
    obtain ⟨_, _, _, h2⟩ := hp 2 (by decide)
    obtain ⟨_, _, _, h3⟩ := hp 3 (by decide)
    obtain ⟨_, _, _, h4⟩ := hp 4 (by decide)
    obtain ⟨_, _, _, h5⟩ := hp 5 (by decide)
    obtain ⟨_, _, _, h6⟩ := hp 6 (by decide)
    obtain ⟨_, _, _, h7⟩ := hp 7 (by decide)
    obtain ⟨_, _, _, h8⟩ := hp 8 (by decide)
    obtain ⟨_, _, _, h9⟩ := hp 9 (by decide)
    obtain ⟨_, _, _, h10⟩ := hp 10 (by decide)
    obtain ⟨_, _, _, h11⟩ := hp 11 (by decide)
    simp only [PCl7] at h0 h1 h2 h3 h4 h5 h6 h7 h8 h9 h10 h11
    clear hp hd
    have hsz := hg.size
    replace bg := bg.grow hg (by intro i _; rintro ⟨j, _, hw⟩; exact False.elim hw)
    replace hB := hB.trans (hg.below (fun k hk => ⟨by omega, fun o => by rintro ⟨j, _, hw⟩; exact False.elim hw⟩))
    have hr : List.range 12 = [0, 1, 2, 3, 4, 5, 6, 7, 8, 9, 10, 11] := rfl
    rw [hr]
    clear hr
    simp only [List.drop_succ_cons, List.drop_zero, List.drop_nil, actsD, List.getD_cons_zero, List.getD_cons_succ, List.foldl_cons, List.foldl_nil, Act.put, List.setIfInBounds_toArray, List.set_cons_succ, List.set_cons_zero, h0, h1, h2, h3, h4, h5, h6, h7, h8, h9, h10, h11]
    clear h0 h1 h2 h3 h4 h5 h6 h7 h8 h9 h10 h11
    have hgr6 : GrowX (fun _ => False) y2 w6 := grow_below hB
    have HGR6 := Lib.hid hgr6
    have htx6 : SecAt w6 K bx vb := (H2.out.txt _ (List.mem_of_getElem? HE.out)).grow hgr6 (fun _ _ h => h)
    have hrd : Reads 1 w6 vb 512 (bx.map B) := by have h1 := htx6.1; rw [HB.out] at h1; exact h1
    have hown := htx6.2
    have hwr := fwrite_fv (H3y.out.below hB) q hqpg bx HB.out vb hrd (fun k e hs => H7.out k (.inr (.inr (hown k e))) hs)
    have HWR := Lib.hid hwr
    clear bg hB hg hsz hgr6 hwr htx6 hown hrd
    go_wp2_with fail
    refine HWR.out.mono ?_
    rintro e y3 ⟨S1', rfl, hfv, hft⟩
    have HW : Hid (Foot S1 S1' y2 y3) := Lib.hid ((Foot.below HGR6.out).trans hft)
    have hsz2 : w.heap.size ≤ y2.heap.size := HFT.out.grow.size
    have hb3' : Below W0.heap.size W0 y3 := hfv.bel
    have H3z := Lib.hid hfv
    have H1z : Hid (PoolAt y3 W0.heap.size g lb n f (.func (.func fn) #[] caps) E p.hand p.wr K) := Lib.hid (H2.out.grow HW.out.grow (fun hs => H7.out g (.inl rfl) hs) (fun hs => H7.out lb (.inr (.inl rfl)) hs) (fun k hk hs => H7.out k (.inr (.inr hk)) hs))
    have HFIz : Hid (FI rs S2' y3) := Lib.hid (HF.out.grow _ _ _ _ _ HFI.out HW.out.grow H9y.out.symm hb3')
    have H7z : Hid (Disj (own3 g lb K) S1') := Lib.hid (HW.out.disj H7.out.symm (fun k hk => by have := (HLT.out k (.inl hk)).2; omega)).symm
    have H9z : Hid (Disj S1' S2') := Lib.hid (HW.out.disj H9y.out (fun k hk => (HF.out.lt _ _ _ HFI.out k hk).2))
    have g4 := H1z.out.box.cell 4 _ rfl
    have gfz := H1z.out.box.free
    have glt := H1z.out.box.lt
    have k2 := H1z.out.cell ix _ HE.out 2 _ rfl
    have lfz := H1z.out.fzl
    have llt := H1z.out.ll.2
    have hgl := H1z.out.gl
    have hwp : p.wr + 1 ≤ 1000000000 := by omega
    clear hfv hft hb3'
    simp only at k2
    go_wp2_with fail
    go_ret
    rw [Pl.clean_ok HPF.out rfl HR.out]
    obtain ⟨a1, a2⟩ := H1z.out.setWr (p.wr + 1)
    obtain ⟨b1, b2⟩ := a1.setF ix _ (⟨q, bx, false, ma, rc, ls⟩, vb) HE.out 2 (by omega) (.bool false) rfl (show SecAt _ K bx vb from a1.txt (⟨(q : Int), bx, true, ma, rc, ls⟩, vb) (List.mem_of_getElem? HE.out))
    have hgg : GrowX (own3 g lb K) y3 ((y3.setCell ⟨g, 4, none⟩ (.int .i64 ((p.wr + 1 : Nat) : Int))).setCell ⟨lb, ix * 6 + 2, none⟩ (.bool false)) := (a2.mono (fun k e => .inl e)).step b2 (fun k _ e => .inr (.inl e))
    have hbz := H3z.out.bel.trans (hgg.below (fun k hk => ⟨Nat.lt_of_lt_of_le hk H3z.out.bel.size, fun e => by have := (HLT.out k (.inl e)).1; omega⟩))
    refine ⟨_, rfl, ⟨lb, _, K, S1', S2', b1, H2G.out, H3z.out.grow hgg H7z.out.symm hbz, HF.out.grow _ _ _ _ _ HFIz.out hgg H8y.out.symm hbz, ?_, ?_, H7z.out, H8y.out, H9z.out, rfl⟩, ?_⟩
    · rw [map_set_fst, H5.out]
    · exact ⟨by rw [List.length_set]; exact H6.out.len, H6.out.n1, H6.out.n64, H6.out.hand, H6.out.set ix _ ⟨fun _ => ⟨by show (q : Int) < (pg : Int); omega, HB.out⟩, fun h => by cases h⟩, hwp⟩
    · refine ((HFT.out.inc (S := fun k => own3 g lb K k ∨ S1 k ∨ S2 k) (S' := fun k => own3 g lb K k ∨ S1 k ∨ S2' k) (fun k hk => .inr (.inr hk)) (fun k hk => hk.elim (fun h => .inl (.inl h)) (fun h => h.elim (fun h => .inl (.inr (.inl h))) .inr))).trans (HW.out.inc (S' := fun k => own3 g lb K k ∨ S1' k ∨ S2' k) (fun k hk => .inr (.inl hk)) (fun k hk => hk.elim (fun h => .inl (.inl h)) (fun h => h.elim .inr (fun h => .inl (.inr (.inr h))))))).trans (Foot.same hgg (fun k hk => .inl hk))
end
end Go.Proofs.Ytdnjjdpenfhpeaa

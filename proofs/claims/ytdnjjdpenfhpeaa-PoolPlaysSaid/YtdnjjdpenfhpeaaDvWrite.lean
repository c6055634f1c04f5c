/- The device: Write. Conditions: it lives; at most 2^20 writes wait. -/
import Derived.Test.YtdnjjdpenfhpeaaDvClone
import Derived.Test.YtdnjjdpenfhpeaaPartsK
namespace Go.Proofs.Ytdnjjdpenfhpeaa
set_option linter.unusedSimpArgs false
set_option linter.unusedVariables false
open Go.RowKit

theorem wrsOf : SliceOf Try.prog 69 91 (.agg #[.int .i64 0, .slice none 0 0]) 2 32 := ⟨Try.underlying69, by kernel_rfl, rfl, by decide⟩
def Dv.write (D : Dv) (i : Nat) (l : List UInt8) : Dv := if D.burn.1 then { D.burn.2 with c := D.burn.2.c ++ [(i, l)] } else D.burn.2
theorem SecAt.mono {w : World} {K K' : Nat → Prop} {b : List UInt8} {v : Value} (h : SecAt w K b v) (hK : ∀ k, K k → K' k) : SecAt w K' b v := ⟨h.1, fun q e => hK q (h.2 q e)⟩
theorem SecAt.lt {w : World} {K : Nat → Prop} {b : List UInt8} {g n c : Nat} (h : SecAt w K b (.slice (some ⟨g, 0, none⟩) n c)) (hb : 0 < b.length) : g < w.heap.size ∧ K g := by
  refine ⟨?_, h.2 g rfl⟩
  obtain ⟨a0, c0, e, _, _, hr⟩ := h.1
  obtain ⟨q1, o1, e1, h1, _⟩ := hr hb
  injection e with e2
  rw [e1] at e2
  injection e2 with e3
  injection e3 with e4
  omega
theorem DvAt.wrote {w2 w5 : World} {G d : Nat} {D2 : Dv} {vl vc : Value} {EL : List Se} {EC : List Ce} {K X : Nat → Prop} (h : DvAt w2 G d D2 vl vc EL EC K) (hg : GrowX X w2 w5) (hX : ∀ k, X k → vc.ownBlock = some k) {gh ch g c nc iq : Nat} {l : List UInt8} (hl : l.length = 128) (hi : iq < D2.l.length)
    (hown : w5.ownsRow G 91 2 (.slice (some ⟨gh, 0, none⟩) (nc + 1) ch) (nc + 1) (ccel EC ++ [.int .i64 ((iq : Nat) : Int), .slice (some ⟨g, 0, none⟩) 128 c])) (hn : EC.length = nc) (hor : vc.ownBlock = some gh ∨ w2.heap.size ≤ gh) (hne : gh ≠ g) (hs : SecAt w5 (fun k => w2.heap.size ≤ k) l (.slice (some ⟨g, 0, none⟩) 128 c)) (hG : G ≤ w2.heap.size) :
    DvAt (w5.setCell ⟨d, 1, none⟩ (.slice (some ⟨gh, 0, none⟩) (nc + 1) ch)) G d { D2 with c := D2.c ++ [(iq, l)] } vl (.slice (some ⟨gh, 0, none⟩) (nc + 1) ch) EL (EC ++ [(iq, l, .slice (some ⟨g, 0, none⟩) 128 c)]) (fun k => K k ∨ k = g) := by
  have hd := h.box.lt
  have hbx := h.box.growx hg (fun hx => (h.kc d (hX d hx)).2 rfl)
  obtain ⟨k1, k2⟩ := Box.set1 hbx 1 (.slice (some ⟨gh, 0, none⟩) (nc + 1) ch)
  have k3 : GrowX (fun k => k = d) w5 (w5.setCell ⟨d, 1, none⟩ (.slice (some ⟨gh, 0, none⟩) (nc + 1) ch)) := GrowX.of_growC k2 (fun k o h => h.1)
  obtain ⟨hgl, hgk⟩ := hs.lt (by omega)
  have hgd : gh ≠ d := by
    rintro rfl
    rcases hor with e | e
    · exact (h.kc gh e).2 rfl
    · omega
  refine ⟨k1, own_growx (own_growx h.lrow hg (fun q e hx => (h.kl q e).2.2 (hX q hx))) k3 (fun q e => (h.kl q e).2.1), ?_, h.lis, ?_, ?_, ?_, ?_, ?_, ?_, ?_, ?_⟩
  · have := own_growx hown k3 (fun q e => by have e2 : gh = q := (by simpa [Value.ownBlock] using e); omega)
    rw [List.length_append, hn, ccel_append]
    exact this
  · show D2.c ++ [(iq, l)] = _
    rw [List.map_append, h.cis]; rfl
  · intro e he
    exact (((h.ltx e he).grow hg (fun k hk hx => (h.kc k (hX k hx)).1 hk)).grow k3 (fun k hk e => h.kd (e ▸ hk))).mono (fun k hk => .inl hk)
  · intro e he
    rcases List.mem_append.1 he with he | he
    · exact (((h.ctx e he).grow hg (fun k hk hx => (h.kc k (hX k hx)).1 hk)).grow k3 (fun k hk e => h.kd (e ▸ hk))).mono (fun k hk => .inl hk)
    · rw [List.mem_singleton.1 he]
      have h5 := hs.grow k3 (fun k hk e => by have hk : w2.heap.size ≤ k := hk; omega)
      exact ⟨h5.1, fun q e => .inr (by have e2 : g = q := (by simpa [Value.ownBlock] using e); exact e2.symm)⟩
  · rintro k (hk | rfl)
    · exact ⟨(h.kin k hk).1, Nat.lt_of_lt_of_le (h.kin k hk).2 (Nat.le_trans hg.size k3.size)⟩
    · exact ⟨Nat.le_trans hG hgk, Nat.lt_of_lt_of_le hgl k3.size⟩
  · rintro (hk | rfl)
    · exact h.kd hk
    · have hgk : w2.heap.size ≤ d := hgk; omega
  · intro q e
    have hq := (h.lrow.lt q e).2
    refine ⟨?_, (h.kl q e).2.1, fun e2 => ?_⟩
    · rintro (hk | rfl)
      · exact (h.kl q e).1 hk
      · have hgk : w2.heap.size ≤ q := hgk; omega
    · have e2 : gh = q := (by simpa [Value.ownBlock] using e2)
      rcases hor with e3 | e3
      · exact (h.kl q e).2.2 (e2 ▸ e3)
      · omega
  · intro q e
    have e2 : gh = q := (by simpa [Value.ownBlock] using e)
    subst e2
    refine ⟨?_, hgd⟩
    rintro (hk | hk)
    · rcases hor with e3 | e3
      · exact (h.kc gh e3).1 hk
      · have := (h.kin gh hk).2; omega
    · exact hne hk
  · refine ⟨h.ok.l, fun x hx => ?_, h.ok.n, h.ok.f1, h.ok.f2⟩
    rcases List.mem_append.1 hx with hx | hx
    · exact h.ok.c x hx
    · rw [List.mem_singleton.1 hx]; exact ⟨hi, hl⟩
def WDw (vc : Value) (j b : Nat) : Prop := j = 10 ∧ vc.ownBlock = some b
def PDw (G d HZ nc cc iq : Nat) (ac : Option Addr) (bq oq cv : Nat) (l : List UInt8) (EC : List Ce) (vc : Value) (i : Nat) (v : Value) (lo hi : Nat) (w : World) : Prop :=
  match i with
  | 0 => v = .pointer (some ⟨d, 0, none⟩)
  | 1 => v = .pointer (some ⟨d, 0, none⟩)
  | 2 => v = .pointer (some ⟨d, 0, none⟩)
  | 3 => v = .pointer (some ⟨d, 1, none⟩)
  | 4 => v = .slice ac nc cc
  | 5 => v = .int .i64 ((iq : Nat) : Int)
  | 6 => v = .slice (some ⟨bq, oq, none⟩) 128 cv
  | 7 => ∃ g c, v = .slice (some ⟨g, 0, none⟩) 128 c ∧ SecAt w (fun k => HZ ≤ k) l (.slice (some ⟨g, 0, none⟩) 128 c)
  | 8 => ∃ g c, v = .agg #[.int .i64 ((iq : Nat) : Int), .slice (some ⟨g, 0, none⟩) 128 c] ∧ SecAt w (fun k => HZ ≤ k) l (.slice (some ⟨g, 0, none⟩) 128 c)
  | 9 => ∃ h g c, v = .slice (some ⟨h, 0, none⟩) 1 1 ∧ HZ ≤ h ∧ h < w.heap.size ∧ w.cell? ⟨h, 0, none⟩ = some (.int .i64 ((iq : Nat) : Int)) ∧ w.cell? ⟨h, 1, none⟩ = some (.slice (some ⟨g, 0, none⟩) 128 c) ∧ SecAt w (fun k => HZ ≤ k) l (.slice (some ⟨g, 0, none⟩) 128 c)
  | 10 => ∃ gh ch g c, v = .slice (some ⟨gh, 0, none⟩) (nc + 1) ch ∧ w.ownsRow G 91 2 (.slice (some ⟨gh, 0, none⟩) (nc + 1) ch) (nc + 1) (ccel EC ++ [.int .i64 ((iq : Nat) : Int), .slice (some ⟨g, 0, none⟩) 128 c]) ∧ (vc.ownBlock = some gh ∨ HZ ≤ gh) ∧ gh ≠ g ∧ SecAt w (fun k => HZ ≤ k) l (.slice (some ⟨g, 0, none⟩) 128 c)
  | 11 => v = .pointer (some ⟨d, 0, none⟩)
  | 12 => v = .pointer (some ⟨d, 1, none⟩)
  | _ => True
theorem PDw_stable (G d HZ nc cc iq : Nat) (ac : Option Addr) (bq oq cv : Nat) (l : List UInt8) (EC : List Ce) (vc : Value) (hvc : ∀ q, vc.ownBlock = some q → q < HZ) : ∀ i j, i < 13 → j < 13 → j ≠ i → j ∉ ([[], [], [1], [1, 2], [1, 2, 3], [], [], [6], [5, 6, 7], [5, 6, 7, 8], [1, 2, 3, 4, 5, 6, 7, 8, 9], [0, 1, 2, 3, 4, 5, 6, 7, 8, 9, 10], [0, 1, 2, 3, 4, 5, 6, 7, 8, 9, 10, 11]] : List (List Nat)).getD i [] → (i, j) ∉ ([] : List (Nat × Nat)) → ∀ v lo hi wv wv', PDw G d HZ nc cc iq ac bq oq cv l EC vc i v lo hi wv → GrowX (WDw vc j) wv wv' → PDw G d HZ nc cc iq ac bq oq cv l EC vc i v lo hi wv' := by
  intro i j hi hj hne hbs _ v lo hj2 wv wv' h hg
  match i, hi with
  | 0, _ =>
    simp only [PDw] at h ⊢
    exact h
  | 1, _ =>
    simp only [PDw] at h ⊢
    exact h
  | 2, _ =>
    simp only [PDw] at h ⊢
    exact h
  | 3, _ =>
    simp only [PDw] at h ⊢
    exact h
  | 4, _ =>
    simp only [PDw] at h ⊢
    exact h
  | 5, _ =>
    simp only [PDw] at h ⊢
    exact h
  | 6, _ =>
    simp only [PDw] at h ⊢
    exact h
  | 7, _ =>
    simp only [PDw] at h ⊢
    obtain ⟨g, c, h1, h2⟩ := h
    exact ⟨g, c, h1, h2.grow hg (fun k hk hw => by have := hvc k hw.2; omega)⟩
  | 8, _ =>
    simp only [PDw] at h ⊢
    obtain ⟨g, c, h1, h2⟩ := h
    exact ⟨g, c, h1, h2.grow hg (fun k hk hw => by have := hvc k hw.2; omega)⟩
  | 9, _ =>
    simp only [PDw] at h ⊢
    obtain ⟨hh, g, c, h1, h2, h3, h4, h5, h6⟩ := h
    have hbk := hg.block hh h3 (fun hw => by have := hvc hh hw.2; omega)
    exact ⟨hh, g, c, h1, h2, Nat.lt_of_lt_of_le h3 hg.size, (World.cell?_of_block (w := wv) hbk).trans h4, (World.cell?_of_block (w := wv) hbk).trans h5, h6.grow hg (fun k hk hw => by have := hvc k hw.2; omega)⟩
  | 10, _ =>
    simp only [PDw] at h ⊢
    obtain ⟨gh, ch, g, c, h1, h2, h3, h4, h5⟩ := h
    exact ⟨gh, ch, g, c, h1, own_growx h2 hg (fun q e hw => hne hw.1), h3, h4, h5.grow hg (fun k hk hw => by have := hvc k hw.2; omega)⟩
  | 11, _ =>
    simp only [PDw] at h ⊢
    exact h
  | 12, _ =>
    simp only [PDw] at h ⊢
    exact h
  | (q + 13), hq => exact absurd hq (by omega)

set_option maxRecDepth 100000 in
set_option maxHeartbeats 3200000 in
theorem dwrite_dv {W0 w : World} {d : Nat} {D : Dv} {S : Nat → Prop} (h : DV W0 d D S w) (hdead : D.dead = false) (hcl : D.c.length ≤ 1048576) (iq : Nat) (hi : iq < D.l.length) (l : List UInt8) (hl : l.length = 128) (v : Value) (hv : Reads 1 w v 128 (l.map B)) (hsl : ∀ b, v.ownBlock = some b → ¬ S b) :
    Calls Try.prog 44 #[.pointer (some ⟨d, 0, none⟩), .int .i64 (iq : Nat), v] w fun e w' => ∃ S', e = .returned (.int .i64 (eDead D.burn.1)) ∧ DV W0 d (D.write iq l) S' w' ∧ Foot S S' w w' := by
  obtain ⟨vl, vc, EL, EC, K, h1, h2, h3, rfl⟩ := h
  have hln : D.l.length = EL.length := by rw [h1.lis, List.length_map]
  obtain ⟨nl, hnl⟩ : ∃ n, EL.length = n := ⟨_, rfl⟩
  obtain ⟨nc, hnc⟩ : ∃ n, EC.length = n := ⟨_, rfl⟩
  have hinl : iq < nl := by omega
  have hncm : nc ≤ 1048576 := by rw [h1.cis, List.length_map, hnc] at hcl; exact hcl
  obtain ⟨al, ll, evl⟩ := own_shape h1.lrow
  obtain ⟨ac, cc, evc⟩ := own_shape h1.crow
  obtain ⟨av, cv, rfl, hlm, hvc, hvr⟩ := hv
  obtain ⟨bq, oq, rfl, hbq, hcell⟩ := hvr (by omega)
  have c0 := h1.box.cell 0 _ rfl
  have c3 := h1.box.cell 3 _ rfl
  rw [evl, hnl] at c0
  clear evl
  rw [hdead] at c3
  have hlt := h1.box.lt
  have hnv := hsl bq rfl
  have hvs : SecAt w (fun k => k = bq) l (.slice (some ⟨bq, oq, none⟩) 128 cv) := ⟨by rw [hl]; exact ⟨_, _, rfl, hlm, hvc, fun _ => ⟨bq, oq, rfl, hbq, hcell⟩⟩, fun q e => (show bq = q from by simpa [Value.ownBlock] using e).symm⟩
  have HVS0 := Lib.hid hvs
  have HNV0 := Lib.hid hnv
  have HLN := Lib.hid hl
  have HNC := Lib.hid hnc
  rw [hnc] at evc
  have HEC := Lib.hid evc
  have H1 := Lib.hid h1
  have H3 := Lib.hid h3
  have hb1 : decide ((iq : Int) < 0) = false := by simp
  have hb2 : decide ((nl : Int) ≤ (iq : Int)) = false := by simp; omega
  have hb3 : decide ((iq : Int) ≥ (nl : Int)) = false := by simp; omega
  have hb4 : decide (nl ≤ iq) = false := by simp; omega
  have hcall := burn_at h1
  have HI : Hid (iq < D.burn.2.l.length) := Lib.hid (by rw [(Dv.burn_l D).1]; exact hi)
  unfold Dv.write
  clear h1 h3 hvs hl hnc evc hlm hvc hvr hcell hsl hnv hdead hln hcl hi hnl
  cases hbn : D.burn.1 with
  | false =>
    rw [hbn] at hcall
    have HC := Lib.hid hcall
    clear hcall
    go_enter Try.func44, Try.ntmps44
    go_wp2_with fail
    refine HC.out.mono ?_
    rintro e w2 ⟨rfl, hat, hgr⟩
    have HA := Lib.hid hat
    have HG := Lib.hid hgr
    clear hat hgr
    simp only [eDead]
    go_wp2_with fail
    go_ret
    refine ⟨rfl, _, ⟨_, _, EL, EC, K, HA.out, h2, H3.out.trans (HG.out.below (fun k hk => ⟨Nat.lt_of_lt_of_le hk H3.out.size, fun e => by omega⟩)), rfl⟩, ⟨HG.out.mono (fun k e => .inl e), fun k h => .inl h⟩⟩
  | true =>
    rw [hbn] at hcall
    have HC := Lib.hid hcall
    clear hcall
    go_enter Try.func44, Try.ntmps44
    go_wp2_with fail
    refine HC.out.mono ?_
    rintro e w2 ⟨rfl, hat, hgr⟩
    have HVS : Hid (SecAt w2 (fun k => k = bq) l (.slice (some ⟨bq, oq, none⟩) 128 cv)) := Lib.hid (HVS0.out.grow hgr (fun k hk e => HNV0.out (.inl (hk.symm.trans e))))
    have HNV : Hid (¬ vc.ownBlock = some bq) := Lib.hid (fun e => HNV0.out (.inr (.inr (.inl e))))
    have HAT := Lib.hid hat
    have HG := Lib.hid hgr
    obtain ⟨HZ, hHZ⟩ : ∃ g, w2.heap.size = g := ⟨_, rfl⟩
    have hcz : ∀ q, vc.ownBlock = some q → q < HZ := fun q e => by rw [← hHZ]; exact (hat.crow.lt q e).2
    have hlt2 := hat.box.lt
    have HGS : Hid (W0.heap.size ≤ w2.heap.size) := Lib.hid (Nat.le_trans H3.out.size hgr.size)
    clear hat hgr
    simp only [eDead]
    go_wp2_with fail
    refine wp_region_partsDK (WDw vc) 13 [[], [], [1], [1, 2], [1, 2, 3], [], [], [6], [5, 6, 7], [5, 6, 7, 8], [1, 2, 3, 4, 5, 6, 7, 8, 9], [0, 1, 2, 3, 4, 5, 6, 7, 8, 9, 10], [0, 1, 2, 3, 4, 5, 6, 7, 8, 9, 10, 11]] [some 33, some 34, some 35, some 36, some 37, some 38, some 39, some 40, some 41, some 42, some 43, some 44, some 45, none] [[], [], [1], [2], [3], [], [], [6], [5, 7], [8], [4, 9], [0], [11]] [0, 10, 12] [] (by decide) (by kernel_rfl) (by kernel_rfl) rfl (PDw W0.heap.size d HZ nc cc iq ac bq oq cv l EC vc) (PDw_stable W0.heap.size d HZ nc cc iq ac bq oq cv l EC vc hcz) ?pDw ?_
    case pDw =>
      intro i hi o ho vs lo hx_ w' hg hp
      match i, hi with
      | 0, _ =>
        obtain rfl := Option.some.inj ho
        clear ho
        simp only [actsD, List.getD_cons_zero, List.getD_cons_succ, List.foldl_cons, List.foldl_nil, Act.put, List.setIfInBounds_toArray, List.set_cons_succ, List.set_cons_zero]
        go_wp2
        exact ⟨_, rfl, grow_below (Below.refl _ _), rfl⟩
      | 1, _ =>
        obtain rfl := Option.some.inj ho
        clear ho
        simp only [actsD, List.getD_cons_zero, List.getD_cons_succ, List.foldl_cons, List.foldl_nil, Act.put, List.setIfInBounds_toArray, List.set_cons_succ, List.set_cons_zero]
        go_wp2
        exact ⟨_, rfl, grow_below (Below.refl _ _), rfl⟩
      | 2, _ =>
        obtain rfl := Option.some.inj ho
        clear ho
        simp only [actsD, List.getD_cons_zero, List.getD_cons_succ, List.foldl_cons, List.foldl_nil, Act.put, List.setIfInBounds_toArray, List.set_cons_succ, List.set_cons_zero]
        obtain ⟨_, _, _, h1⟩ := hp 1 (by simp)
        simp only [PDw] at h1
        rw [h1]
        go_wp2
        exact ⟨_, rfl, grow_below (Below.refl _ _), rfl⟩
      | 3, _ =>
        obtain rfl := Option.some.inj ho
        clear ho
        simp only [actsD, List.getD_cons_zero, List.getD_cons_succ, List.foldl_cons, List.foldl_nil, Act.put, List.setIfInBounds_toArray, List.set_cons_succ, List.set_cons_zero]
        obtain ⟨_, _, _, h2⟩ := hp 2 (by simp)
        simp only [PDw] at h2
        rw [h2]
        go_wp2
        exact ⟨_, rfl, grow_below (Below.refl _ _), rfl⟩
      | 4, _ =>
        obtain rfl := Option.some.inj ho
        clear ho
        simp only [actsD, List.getD_cons_zero, List.getD_cons_succ, List.foldl_cons, List.foldl_nil, Act.put, List.setIfInBounds_toArray, List.set_cons_succ, List.set_cons_zero]
        obtain ⟨_, _, _, h3⟩ := hp 3 (by simp)
        simp only [PDw] at h3
        rw [h3]
        have e0 := (HAT.out.box.growx hg (by rintro ⟨j, _, _, _, hw⟩; exact (HAT.out.kc d hw.2).2 rfl)).cell 1 _ rfl
        rw [HEC.out] at e0
        go_wp2
        exact ⟨_, rfl, grow_below (Below.refl _ _), rfl⟩
      | 5, _ =>
        obtain rfl := Option.some.inj ho
        clear ho
        simp only [actsD, List.getD_cons_zero, List.getD_cons_succ, List.foldl_cons, List.foldl_nil, Act.put, List.setIfInBounds_toArray, List.set_cons_succ, List.set_cons_zero]
        go_wp2
        exact ⟨_, rfl, grow_below (Below.refl _ _), rfl⟩
      | 6, _ =>
        obtain rfl := Option.some.inj ho
        clear ho
        simp only [actsD, List.getD_cons_zero, List.getD_cons_succ, List.foldl_cons, List.foldl_nil, Act.put, List.setIfInBounds_toArray, List.set_cons_succ, List.set_cons_zero]
        go_wp2
        exact ⟨_, rfl, grow_below (Below.refl _ _), rfl⟩
      | 7, _ =>
        obtain rfl := Option.some.inj ho
        clear ho
        simp only [actsD, List.getD_cons_zero, List.getD_cons_succ, List.foldl_cons, List.foldl_nil, Act.put, List.setIfInBounds_toArray, List.set_cons_succ, List.set_cons_zero]
        obtain ⟨_, _, _, h6⟩ := hp 6 (by simp)
        simp only [PDw] at h6
        rw [h6]
        have hv2 : SecAt w' (fun k => k = bq) l (.slice (some ⟨bq, oq, none⟩) 128 cv) := HVS.out.grow hg (by rintro k rfl ⟨j, _, _, _, hw⟩; exact HNV.out hw.2)
        have hv3 := hv2.1
        rw [HLN.out] at hv3
        have hz := hg.size
        go_wp2_with fail
        refine (clone_any l 128 HLN.out (by omega) (by omega) _ _ hv3).mono ?_
        rintro e wc ⟨g, c, rfl, g1, g2, g3, g4⟩
        go_wp2
        exact ⟨_, rfl, grow_below g4, g, c, rfl, by rw [HLN.out]; exact g1, fun q e => by have e2 : g = q := (by simpa [Value.ownBlock] using e); have := hHZ; show HZ ≤ q; omega⟩
      | 8, _ =>
        obtain rfl := Option.some.inj ho
        clear ho
        simp only [actsD, List.getD_cons_zero, List.getD_cons_succ, List.foldl_cons, List.foldl_nil, Act.put, List.setIfInBounds_toArray, List.set_cons_succ, List.set_cons_zero]
        obtain ⟨_, _, _, h5⟩ := hp 5 (by simp)
        simp only [PDw] at h5
        obtain ⟨_, _, _, h7⟩ := hp 7 (by simp)
        simp only [PDw] at h7
        rw [h5]
        obtain ⟨g, c, e7, s7⟩ := h7
        rw [e7]
        go_wp2
        exact ⟨_, rfl, grow_below (Below.refl _ _), g, c, rfl, s7⟩
      | 9, _ =>
        obtain rfl := Option.some.inj ho
        clear ho
        simp only [actsD, List.getD_cons_zero, List.getD_cons_succ, List.foldl_cons, List.foldl_nil, Act.put, List.setIfInBounds_toArray, List.set_cons_succ, List.set_cons_zero]
        obtain ⟨_, _, _, h8⟩ := hp 8 (by simp)
        simp only [PDw] at h8
        obtain ⟨g, c, e8, s8⟩ := h8
        rw [e8]
        have hz := hg.size
        have HS8 := Lib.hid s8
        clear s8
        go_wp2
        have hbz := Box.new w' #[.int .i64 (iq : Nat), .slice (some ⟨g, 0, none⟩) 128 c] 91 rfl
        have hal : GrowX (fun _ => False) w' (w'.alloc (.cells #[.int .i64 (iq : Nat), .slice (some ⟨g, 0, none⟩) 128 c] 91)) := grow_below ((Below.refl _ _).alloc (Nat.le_refl _) _)
        exact ⟨_, rfl, hal.mono (fun _ h => h.elim), w'.heap.size, g, c, rfl, by have := hHZ; omega, hbz.lt, hbz.cell 0 _ rfl, hbz.cell 1 _ rfl, HS8.out.grow hal (fun _ _ h => h)⟩
      | 10, _ =>
        obtain rfl := Option.some.inj ho
        clear ho
        simp only [actsD, List.getD_cons_zero, List.getD_cons_succ, List.foldl_cons, List.foldl_nil, Act.put, List.setIfInBounds_toArray, List.set_cons_succ, List.set_cons_zero]
        obtain ⟨_, _, _, h4⟩ := hp 4 (by simp)
        simp only [PDw] at h4
        obtain ⟨_, _, _, h9⟩ := hp 9 (by simp)
        simp only [PDw] at h9
        rw [h4]
        obtain ⟨hh, g, c, e9, p1, p2, p3, p4, p5⟩ := h9
        rw [e9]
        have hz := hg.size
        have HS9 := Lib.hid p5
        have HP3 := Lib.hid p3
        have HP4 := Lib.hid p4
        clear p3 p4 p5
        have HOw : Hid (w'.ownsRow W0.heap.size 91 2 (.slice ac nc cc) nc (ccel EC)) := Lib.hid (by
          have := own_growx HAT.out.crow hg (by rintro q e ⟨j, _, hne, _, hw⟩; exact hne hw.1)
          rw [HNC.out] at this; rw [← HEC.out]; exact this)
        have hG : W0.heap.size ≤ w'.heap.size := by have := HGS.out; omega
        go_wp2_with (at_builtin; refine wpList_append_k wrsOf (.tmp 37) (.tmp 42) rfl rfl (base := W0.heap.size) rfl HOw.out rfl rfl (news := [.int .i64 ((iq : Nat) : Int), .slice (some ⟨g, 0, none⟩) 128 c]) (by intro j u hu; rw [Addr.add_lit]; match j, hu with | 0, hu => (simp at hu; subst hu; exact HP3.out) | 1, hu => (simp at hu; subst hu; exact HP4.out) | (q + 2), hu => (simp at hu)) (by intro u hu; simp at hu; rcases hu with rfl | rfl <;> rfl) (by omega) (by omega) (by omega) (by omega) ?_; intro ob cp wq hownq hgrq horq)
        have hgx : GrowX (WDw vc 10) w' wq := GrowX.of_growC hgrq (fun k o h => ⟨rfl, by rw [HEC.out]; exact h.1⟩)
        have hob : vc.ownBlock = some ob ∨ HZ ≤ ob := horq.elim (fun h => .inl (by rw [HEC.out]; exact h)) (fun h => .inr (by have := hHZ; omega))
        have hbg : g < w'.heap.size := (HS9.out.lt (by have := HLN.out; omega)).1
        have hgz : HZ ≤ g := HS9.out.2 g rfl
        exact ⟨_, rfl, hgx, ob, cp, g, c, rfl, hownq, hob, (by rintro rfl; rcases horq with h | h; exact absurd (hcz ob (by rw [HEC.out]; exact h)) (by omega); omega), HS9.out.grow hgx (fun k hk hw => by have := hcz k hw.2; omega)⟩
      | 11, _ =>
        obtain rfl := Option.some.inj ho
        clear ho
        simp only [actsD, List.getD_cons_zero, List.getD_cons_succ, List.foldl_cons, List.foldl_nil, Act.put, List.setIfInBounds_toArray, List.set_cons_succ, List.set_cons_zero]
        obtain ⟨_, _, _, h0⟩ := hp 0 (by simp)
        simp only [PDw] at h0
        rw [h0]
        go_wp2
        exact ⟨_, rfl, grow_below (Below.refl _ _), rfl⟩
      | 12, _ =>
        obtain rfl := Option.some.inj ho
        clear ho
        simp only [actsD, List.getD_cons_zero, List.getD_cons_succ, List.foldl_cons, List.foldl_nil, Act.put, List.setIfInBounds_toArray, List.set_cons_succ, List.set_cons_zero]
        obtain ⟨_, _, _, h11⟩ := hp 11 (by simp)
        simp only [PDw] at h11
        rw [h11]
        go_wp2
        exact ⟨_, rfl, grow_below (Below.refl _ _), rfl⟩
      | (q + 13), hq => exact absurd hq (by omega)
    intro vS lo hi w5 hg hp hd
    obtain ⟨_, _, _, h10⟩ := hp 10 (by decide)
    obtain ⟨_, _, _, h12⟩ := hp 12 (by decide)
    replace h10 := h10 (by decide)
    replace h12 := h12 (by decide)
    simp only [PDw] at h10 h12
    obtain ⟨gh, ch, g, c, e10, hown, hor, hne, hs⟩ := h10
    clear hp hd
    subst hHZ
    have hbx5 := HAT.out.box.growx hg (by rintro ⟨j, _, hw⟩; exact (HAT.out.kc d hw.2).2 rfl)
    have cx1 := hbx5.cell 1 _ rfl
    have cxf := hbx5.free
    have hlt5 := hbx5.lt
    have HW5 := Lib.hid (HAT.out.wrote hg (fun k ⟨j, _, hw⟩ => hw.2) HLN.out HI.out hown HNC.out hor hne hs HGS.out)
    have HK3 : Hid (GrowX (fun k => k = d) w5 (w5.setCell ⟨d, 1, none⟩ (.slice (some ⟨gh, 0, none⟩) (nc + 1) ch))) := Lib.hid (GrowX.of_growC (Box.set1 hbx5 1 (.slice (some ⟨gh, 0, none⟩) (nc + 1) ch)).2 (fun k o h => h.1))
    have HGG : Hid (GrowX (fun k => vc.ownBlock = some k) w2 w5) := Lib.hid (hg.mono (fun k ⟨j, _, hw⟩ => hw.2))
    have HOR := Lib.hid hor
    have hgl : w2.heap.size ≤ g := (hs.lt (by have := HLN.out; omega)).2
    have HGL := Lib.hid hgl
    clear hbx5 hown hor hne hs hg hgl
    have hr : List.range 13 = [0, 1, 2, 3, 4, 5, 6, 7, 8, 9, 10, 11, 12] := rfl
    rw [hr]
    clear hr
    simp only [List.drop_succ_cons, List.drop_zero, List.drop_nil, actsD, List.getD_cons_zero, List.getD_cons_succ, List.foldl_cons, List.foldl_nil, Act.put, List.setIfInBounds_toArray, List.set_cons_succ, List.set_cons_zero, e10, h12]
    go_wp2_with fail
    go_ret
    have hws := HG.out.size
    refine ⟨rfl, _, ⟨_, _, _, _, _, HW5.out, h2, ?_, rfl⟩, ⟨((HG.out.mono (fun k e => .inl e)).step HGG.out (fun q _ e => .inr (.inr (.inl e)))).step HK3.out (fun q _ e => .inl e), ?_⟩⟩
    · refine H3.out.trans (Below.trans (HG.out.below (fun k hk => ⟨Nat.lt_of_lt_of_le hk H3.out.size, fun e => by omega⟩)) (Below.trans (HGG.out.below (fun k hk => ⟨Nat.lt_of_lt_of_le hk HGS.out, fun e => by have := (HAT.out.crow.lt k e).1; omega⟩)) (HK3.out.below (fun k hk => ⟨by have := HGG.out.size; have := HGS.out; omega, fun e => by omega⟩))))
    · rintro k (e | e | e | e | e)
      · exact .inl (.inl e)
      · exact .inl (.inr (.inl e))
      · have e2 : gh = k := (by simpa [Value.ownBlock] using e)
        subst e2
        exact HOR.out.elim (fun h => .inl (.inr (.inr (.inl h)))) (fun h => .inr (by omega))
      · exact .inl (.inr (.inr (.inr e)))
      · exact .inr (by have := HGL.out; omega)
end Go.Proofs.Ytdnjjdpenfhpeaa

/- The program's reader of a text. Conditions: short lists. -/
import Derived.Test.YtfbblgcdggpehaaNRt
namespace Go.Proofs.Ytfbblgcdggpehaa
set_option linter.unusedSimpArgs false
set_option linter.unusedVariables false
open Go.RowKit

theorem Reads.tight {w : World} {ao : Option Addr} {n cap K : Nat} {xs : List Value} (h : Reads K w (.slice ao n cap) n xs) : Reads K w (.slice ao n n) n xs := by
  obtain ⟨a, c, e, h1, h2, h3⟩ := h
  obtain ⟨rfl, -, -⟩ := Value.slice.inj e
  exact ⟨ao, n, rfl, h1, Nat.le_refl _, h3⟩

theorem own_cap {w : World} {base e K n cap : Nat} {ao : Option Addr} {xs : List Value} (h : w.ownsRow base e K (.slice ao n cap) n xs) : n ≤ cap := by
  obtain ⟨a, c, e, h1, h2, h3⟩ := Reads.of_own h
  obtain ⟨-, -, rfl⟩ := Value.slice.inj e
  exact h2

set_option maxRecDepth 100000 in
set_option maxHeartbeats 3200000 in
theorem prlong_any (g b o : Nat) (L : List UInt8) (r : Rd) (w : World) (hr : RAt w g b o L r) (hl : LAt w b o L) (hne : b ≠ g) (hL : L.length ≤ 1048576) :
    Calls Try.prog 39 #[.pointer (some ⟨g, 0, none⟩)] w fun e w' => ∃ v, e = .returned v ∧ (∃ ao, v = .slice ao (rlong L r).1.length (rlong L r).1.length) ∧
      Kept (fun k => k < w.heap.size) w' (fun w2 => Reads 1 w2 v (rlong L r).1.length ((rlong L r).1.map B)) ∧ RAt w' g b o L (rlong L r).2 ∧ GrowC (fun b' _ => b' = g) w w' := by
  have hnum := pnum_any g b o L r w 2 (by omega) (by omega) hr hl hne
  have hn2 := rnum_lt L r 2
  have hgw : g < w.heap.size := by obtain ⟨_, _, _, hb, _⟩ := hr; exact hb.lt
  unfold rlong
  obtain ⟨⟨n, r1⟩, hp⟩ : ∃ p, rnum L r 2 = p := ⟨_, rfl⟩
  rw [hp] at hnum hn2 ⊢
  simp only [] at hnum hn2 ⊢
  have HT := Lib.hid hnum
  have HL := Lib.hid hl
  have HN := Lib.hid hne
  clear hnum hl hne hp hr
  go_enter Try.func39, Try.ntmps39
  go_wp2_with fail
  refine HT.out.mono ?_
  rintro e w1 ⟨rfl, hr1, hg⟩
  have hl1 := HL.out.growC hg (fun _ => HN.out)
  have hsz := hg.size
  have HG := Lib.hid hg
  have HL1 := Lib.hid hl1
  clear HT HL hg hl1
  obtain ⟨q, m, cc, hb, hm, hcc, hq⟩ := hr1
  obtain ⟨i, bad⟩ := r1
  simp only [] at hm hq hb ⊢
  cases bad with
  | true =>
    have h1 := hb.set1 1 (.bool true)
    have hR := Lib.hid (show RAt (w1.setCell ⟨g, 1, none⟩ (.bool true)) g b o L ⟨i, true⟩ ∧ GrowC (fun b' _ => b' = g) w1 (w1.setCell ⟨g, 1, none⟩ (.bool true)) from ⟨⟨q, m, cc, h1.1, hm, hcc, hq⟩, h1.2.mono (fun _ _ h => h.1)⟩)
    have c0 := hb.cell 0 _ rfl
    have c1 := hb.cell 1 _ rfl
    have f := hb.free
    have hE := Lib.hid (show rtake L ⟨i, true⟩ n = ([], ⟨i, true⟩) by unfold rtake; rw [if_pos (.inl rfl)])
    clear h1 hb hm hq
    go_wp2
    go_ret
    rw [hE.out]
    exact ⟨_, rfl, ⟨none, rfl⟩, fun _ _ => Reads.empty, hR.out.1, HG.out.trans hR.out.2⟩
  | false =>
    by_cases hs : m < n
    · have h1 := hb.set1 1 (.bool true)
      have hR := Lib.hid (show RAt (w1.setCell ⟨g, 1, none⟩ (.bool true)) g b o L ⟨i, true⟩ ∧ GrowC (fun b' _ => b' = g) w1 (w1.setCell ⟨g, 1, none⟩ (.bool true)) from ⟨⟨q, m, cc, h1.1, hm, hcc, hq⟩, h1.2.mono (fun _ _ h => h.1)⟩)
      have hE := Lib.hid (show rtake L ⟨i, false⟩ n = ([], ⟨i, true⟩) by unfold rtake; rw [if_pos (.inr (by show L.length < i + n; omega))])
      have c0 := hb.cell 0 _ rfl
      have c1 := hb.cell 1 _ rfl
      have f := hb.free
      clear h1 hb hm hq
      go_wp2
      go_ret
      rw [hE.out]
      exact ⟨_, rfl, ⟨none, rfl⟩, fun _ _ => Reads.empty, hR.out.1, HG.out.trans hR.out.2⟩
    · have hE := Lib.hid (show rtake L ⟨i, false⟩ n = ((L.drop i).take n, ⟨i + n, false⟩) by unfold rtake; rw [if_neg (by rintro (h | h); cases h; exact absurd h (by show ¬ L.length < i + n; omega))])
      have c0 := hb.cell 0 _ rfl
      have c1 := hb.cell 1 _ rfl
      have f := hb.free
      have hgl := hb.lt
      have hP := Part.mk' (b := b) (o := o) (q := q) (k := n) (c := cc) (i := i) (L := L) (by omega) (by omega) (fun h => hq (by omega))
      obtain ⟨l, hl⟩ : ∃ l, (L.drop i).take n = l := ⟨_, rfl⟩
      have hll : l.length = n := by rw [← hl]; simp; omega
      have HE := Lib.hid (hl ▸ hE.out)
      rw [hl] at hP
      clear hE
      obtain ⟨_, _, _, _, hrd⟩ := hP
      have hrd1 := hrd w1 HL1.out
      rw [hll] at hrd1
      have HM := Lib.hid hm
      have HQ := Lib.hid hq
      have HB := Lib.hid hb
      have HRD := Lib.hid hrd1
      have HLL := Lib.hid hll
      have hoc : ∀ u ∈ l.map B, u.oneCell' = true := by intro u hu; obtain ⟨c, _, rfl⟩ := List.mem_map.1 hu; rfl
      have HOC := Lib.hid hoc
      clear hm hb hq hrd1 hrd hl hll hoc
      have hkm : n ≤ m := by omega
      have hkc : n ≤ cc := by omega
      by_cases hct : cc = l.length
      · subst hct
        go_wp2_with (first
          | (at_builtin; refine wpList_append_reads sl_bytes _ (.tmp 28) rfl rfl (base := w1.heap.size) (W0 := w1) (n := 0) (xs := []) rfl (World.ownsRow_nil _ _ _ _) (Below.refl _ _) rfl HRD.out HOC.out (by omega) (by omega) (Nat.le_refl _) ?_; intro ao2 cap2 w2 hown2 hbel2; have hb2 := HB.out.below hbel2 (Nat.le_refl _); have d0 := hb2.cell 0 _ rfl; have d1 := hb2.cell 1 _ rfl; have f2 := hb2.free; have hgl2 := hb2.lt; have HB2 := Lib.hid hb2; clear hb2; have hcp2 : l.length ≤ cap2 := Nat.le_trans (Nat.le_of_eq (Nat.zero_add _).symm) (own_cap hown2); have HOW := Lib.hid hown2; have HBE := Lib.hid hbel2; clear hown2 hbel2))
        go_ret
        have hk := (own_kept HOW.out).imp (fun _ h => h.tight)
        simp only [Nat.zero_add, List.nil_append] at hk
        have hst := HB2.out.set1 0 (.slice (some ⟨b, q, none⟩) (m - l.length) (l.length - l.length))
        have hgx : GrowX (fun k => k < w1.heap.size) w2 (w2.setCell ⟨g, 0, none⟩ (.slice (some ⟨b, q, none⟩) (m - l.length) (l.length - l.length))) := GrowX.of_growC hst.2 (fun k o h => by have := h.1; omega)
        have hgc : GrowC (fun b' _ => b' = g) w (w2.setCell ⟨g, 0, none⟩ (.slice (some ⟨b, q, none⟩) (m - l.length) (l.length - l.length))) := (HG.out.trans (GrowC.of_grow HBE.out)).trans (hst.2.mono (fun _ _ h => h.1))
        have hrt : RAt (w2.setCell ⟨g, 0, none⟩ (.slice (some ⟨b, q, none⟩) (m - l.length) (l.length - l.length))) g b o L ⟨i + l.length, false⟩ := ⟨_, m - l.length, l.length - l.length, hst.1, by have := HM.out; simp only; omega, by omega, by intro h; have := HQ.out (by omega); simp only; omega⟩
        have hkk := (hk.grow hgx).mono (Y := fun k => k < w.heap.size) (fun k _ h => by omega)
        have hm0 : m - l.length = 0 := by omega
        simp only [hm0, Nat.sub_self] at hkk hrt hgc
        rw [HE.out]
        exact ⟨_, rfl, ⟨ao2, by simp⟩, by simpa using hkk, by simpa using hrt, by simpa using hgc⟩
      · go_wp2_with (first
          | (at_builtin; refine wpList_append_reads sl_bytes _ (.tmp 28) rfl rfl (base := w1.heap.size) (W0 := w1) (n := 0) (xs := []) rfl (World.ownsRow_nil _ _ _ _) (Below.refl _ _) rfl HRD.out HOC.out (by omega) (by omega) (Nat.le_refl _) ?_; intro ao2 cap2 w2 hown2 hbel2; have hb2 := HB.out.below hbel2 (Nat.le_refl _); have d0 := hb2.cell 0 _ rfl; have d1 := hb2.cell 1 _ rfl; have f2 := hb2.free; have hgl2 := hb2.lt; have HB2 := Lib.hid hb2; clear hb2; have hcp2 : l.length ≤ cap2 := Nat.le_trans (Nat.le_of_eq (Nat.zero_add _).symm) (own_cap hown2); have HOW := Lib.hid hown2; have HBE := Lib.hid hbel2; clear hown2 hbel2))
        go_ret
        have hk := (own_kept HOW.out).imp (fun _ h => h.tight)
        simp only [Nat.zero_add, List.nil_append] at hk
        have hst := HB2.out.set1 0 (.slice (some ⟨b, q + l.length, none⟩) (m - l.length) (cc - l.length))
        have hgx : GrowX (fun k => k < w1.heap.size) w2 (w2.setCell ⟨g, 0, none⟩ (.slice (some ⟨b, q + l.length, none⟩) (m - l.length) (cc - l.length))) := GrowX.of_growC hst.2 (fun k o h => by have := h.1; omega)
        have hgc : GrowC (fun b' _ => b' = g) w (w2.setCell ⟨g, 0, none⟩ (.slice (some ⟨b, q + l.length, none⟩) (m - l.length) (cc - l.length))) := (HG.out.trans (GrowC.of_grow HBE.out)).trans (hst.2.mono (fun _ _ h => h.1))
        have hrt : RAt (w2.setCell ⟨g, 0, none⟩ (.slice (some ⟨b, q + l.length, none⟩) (m - l.length) (cc - l.length))) g b o L ⟨i + l.length, false⟩ := ⟨_, m - l.length, cc - l.length, hst.1, by have := HM.out; simp only; omega, by omega, by intro h; have := HQ.out (by omega); simp only; omega⟩
        rw [HE.out]
        exact ⟨_, rfl, ⟨ao2, by simp⟩, by simpa using (hk.grow hgx).mono (fun k _ h => by omega), hrt, hgc⟩

end Go.Proofs.Ytfbblgcdggpehaa

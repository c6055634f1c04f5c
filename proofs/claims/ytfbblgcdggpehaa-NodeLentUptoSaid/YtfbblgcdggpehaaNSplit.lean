/- What node.Cut and node.Split answer. Conditions: short lists. -/
import Derived.Test.YtfbblgcdggpehaaNCut
import Derived.Test.YtfbblgcdggpehaaNCutI
namespace Go.Proofs.Ytfbblgcdggpehaa
set_option linter.unusedSimpArgs false
set_option linter.unusedVariables false
open Go.RowKit

theorem fits_sl' (x : Nd) (ks vs ds : Value) (w : World) (hx : NodeAt w ks vs ds x) (hok : x.ok) (b : Bool) (n : Int) (hb : x.leaf = b) (hn : x.next = n) (r : Bool) (hr : x.fits = r) :
    Calls Try.prog 26 #[.agg #[.bool b, ks, vs, ds, .int .i64 n]] w fun e w' => e = .returned (.bool r) ∧ Below w.heap.size w w' := by
  subst hb hn hr
  exact fits_any x ks vs ds w hx hok

theorem NodeAt.one {w : World} {ks vs ds : Value} {x : Nd} (h : NodeAt w ks vs ds x) : ks.oneCell' = true ∧ vs.oneCell' = true ∧ ds.oneCell' = true := by
  obtain ⟨_, ⟨_, _, e1, _⟩, _⟩ := h.keys
  obtain ⟨_, ⟨_, _, e2, _⟩, _⟩ := h.vals
  obtain ⟨_, _, e3, _⟩ := h.kids
  rw [e1, e2, e3]; exact ⟨rfl, rfl, rfl⟩

theorem NodeAt.shape {w : World} {ks vs ds : Value} {x : Nd} (h : NodeAt w ks vs ds x) : (∃ a n c, ks = .slice a n c) ∧ (∃ a n c, vs = .slice a n c) ∧ ∃ a n c, ds = .slice a n c := by
  obtain ⟨_, ⟨_, _, e1, _⟩, _⟩ := h.keys
  obtain ⟨_, ⟨_, _, e2, _⟩, _⟩ := h.vals
  obtain ⟨_, _, e3, _⟩ := h.kids
  exact ⟨⟨_, _, _, e1⟩, ⟨_, _, _, e2⟩, _, _, _, e3⟩

theorem cut_any (x : Nd) (ks vs ds : Value) (h : Nat) (w : World) (hx : NodeAt w ks vs ds x) (hok : x.ok) (hf : x.fits = true) (hh : h < x.keys.length) (h0 : 0 < h) (b : Bool) (n hi : Int) (hb : x.leaf = b) (hn : x.next = n) (he : hi = (h : Int)) :
    Calls Try.prog 28 #[.agg #[.bool b, ks, vs, ds, .int .i64 n], .int .i64 hi] w fun e w' => CutEnd x h w e w' := by
  subst hb hn he
  obtain ⟨lf, K, V, D, n⟩ := x
  cases lf with
  | true =>
    simp only [Nd.fits, fitsB, if_true, Bool.and_eq_true, beq_iff_eq] at hf
    obtain ⟨h1, h2⟩ := hf
    have : D = [] := List.eq_nil_of_length_eq_zero h2
    subst this
    exact cut_leaf K V n ks vs ds h w hx hok h1 hh h0
  | false =>
    simp only [Nd.fits, fitsB, Bool.false_eq_true, if_false, Bool.and_eq_true, beq_iff_eq] at hf
    obtain ⟨h1, h2⟩ := hf
    have : V = [] := List.eq_nil_of_length_eq_zero h2
    subst this
    exact cut_inner K D n ks vs ds h w hx hok h1 hh

set_option maxRecDepth 100000 in
set_option maxHeartbeats 1600000 in
theorem split_many (x : Nd) (ks vs ds : Value) (w : World) (hx : NodeAt w ks vs ds x) (hok : x.ok) (hf : x.fits = true) (hl : 2 ≤ x.keys.length) (b : Bool) (n : Int) (hb : x.leaf = b) (hn : x.next = n) :
    Calls Try.prog 11 #[.agg #[.bool b, ks, vs, ds, .int .i64 n]] w fun e w' => CutEnd x (x.keys.length / 2) w e w' := by
  obtain ⟨_, ⟨ak, ck, rfl, _⟩, _⟩ := id hx.keys
  obtain ⟨g, hg0⟩ : ∃ g, w.heap.size = g := ⟨_, rfl⟩
  obtain ⟨nk, hnk⟩ : ∃ nk, x.keys.length = nk := ⟨_, rfl⟩
  have hkb : nk ≤ 1099511627776 := hnk ▸ hok.keys
  rw [hnk] at hl hx ⊢
  have ba := ((Box.new w #[.bool b, .slice ak nk ck, vs, ds, .int .i64 n] 25 hg0.symm).alloc (.cells #[.bool false, .slice none 0 0, .slice none 0 0, .slice none 0 0, .int .i64 0] 25)).alloc (.cells #[.bool false, .slice none 0 0, .slice none 0 0, .slice none 0 0, .int .i64 0] 25)
  have bb := (Box.new (w.alloc (.cells #[.bool b, .slice ak nk ck, vs, ds, .int .i64 n] 25)) #[.bool false, .slice none 0 0, .slice none 0 0, .slice none 0 0, .int .i64 0] 25 (g := g + 1) (by simp; omega)).alloc (.cells #[.bool false, .slice none 0 0, .slice none 0 0, .slice none 0 0, .int .i64 0] 25)
  have bc := Box.new ((w.alloc (.cells #[.bool b, .slice ak nk ck, vs, ds, .int .i64 n] 25)).alloc (.cells #[.bool false, .slice none 0 0, .slice none 0 0, .slice none 0 0, .int .i64 0] 25)) #[.bool false, .slice none 0 0, .slice none 0 0, .slice none 0 0, .int .i64 0] 25 (g := g + 1 + 1) (by simp; omega)
  have hB := (((Below.refl w.heap.size w).alloc (Nat.le_refl _) (.cells #[.bool b, .slice ak nk ck, vs, ds, .int .i64 n] 25)).alloc (by simp) (.cells #[.bool false, .slice none 0 0, .slice none 0 0, .slice none 0 0, .int .i64 0] 25)).alloc (by simp; omega) (.cells #[.bool false, .slice none 0 0, .slice none 0 0, .slice none 0 0, .int .i64 0] 25)
  have HX := Lib.hid (hx.below hB (Nat.le_refl _))
  have HG := Lib.hid hg0
  have HNK := Lib.hid hnk
  have HB := Lib.hid hb
  have HN := Lib.hid hn
  have HF := Lib.hid hf
  simp only [] at ba bb bc
  clear hx hnk hb hn hf
  have hlt : decide ((nk : Int) < 2) = false := by simp; omega
  have ca0 := ba.cell 0 _ rfl
  have ca1 := ba.cell 1 _ rfl
  have ca2 := ba.cell 2 _ rfl
  have ca3 := ba.cell 3 _ rfl
  have ca4 := ba.cell 4 _ rfl
  have fa := ba.free
  go_enter Try.func11, Try.ntmps11
  go_wp2_with fail
  refine (fits_sl' x _ vs ds _ HX.out hok b n HB.out HN.out true HF.out).mono ?_
  rintro e w1 ⟨rfl, hb1⟩
  clear ca0 ca1 ca2 ca3 ca4 fa
  replace ba := ba.below hb1 (Nat.le_refl _)
  replace bb := bb.below hb1 (Nat.le_refl _)
  replace bc := bc.below hb1 (Nat.le_refl _)
  have HX1 := Lib.hid (HX.out.below hb1 (Nat.le_refl _))
  replace hB := hB.trans (Below.mono hb1 (by simp; omega))
  have hb2 : g + 3 ≤ w1.heap.size := by have := hb1.size; simp at this; omega
  clear hb1 HX
  have ca0 := ba.cell 0 _ rfl
  have ca1 := ba.cell 1 _ rfl
  have ca2 := ba.cell 2 _ rfl
  have ca3 := ba.cell 3 _ rfl
  have ca4 := ba.cell 4 _ rfl
  have fa := ba.free
  have hdiv : ((nk : Int) / 2) = ((nk / 2 : Nat) : Int) := by omega
  have HD := Lib.hid hdiv
  clear hdiv
  go_wp2_with fail
  refine (cut_any x _ vs ds (nk / 2) _ HX1.out hok HF.out (by rw [HNK.out]; omega) (by omega) b n _ HB.out HN.out HD.out).mono ?_
  rintro e w2 ⟨lk, lv, ld, rk, rv, rd, s, rfl, hk, hb3⟩
  obtain ⟨⟨i1, i2, i3, rfl⟩, ⟨i4, i5, i6, rfl⟩, i7, i8, i9, rfl⟩ := hk.now.1.shape
  obtain ⟨⟨j1, j2, j3, rfl⟩, ⟨j4, j5, j6, rfl⟩, j7, j8, j9, rfl⟩ := hk.now.2.1.shape
  replace ba := ba.below hb3 (Nat.le_refl _)
  replace bb := bb.below hb3 (Nat.le_refl _)
  replace bc := bc.below hb3 (Nat.le_refl _)
  clear ca0 ca1 ca2 ca3 ca4 fa
  obtain ⟨bb2, hgb⟩ := bb.set5 (.bool (x.cutL (nk / 2)).leaf) (.slice i1 i2 i3) (.slice i4 i5 i6) (.slice i7 i8 i9) (.int .i64 (x.cutL (nk / 2)).next)
  obtain ⟨bc2, hgc⟩ := (bc.grow hgb (by intros; omega)).set5 (.bool (x.cutR (nk / 2)).leaf) (.slice j1 j2 j3) (.slice j4 j5 j6) (.slice j7 j8 j9) (.int .i64 (x.cutR (nk / 2)).next)
  have hgw : w.heap.size ≤ g := Nat.le_of_eq HG.out
  have hs2 := hb3.size
  have hKK := hk.grow ((GrowX.of_growC hgb (by rintro k o rfl; omega)).trans (GrowX.of_growC hgc (by rintro k o rfl; omega)))
  have hBB := ((hB.trans (hb3.mono (by omega))).trans (hgb.below (fun k hk => ⟨by omega, fun _ => by omega⟩))).trans (hgc.below (fun k hk => ⟨by have := hgb.size; omega, fun _ => by omega⟩))
  clear bb2 bc2 hgb hgc hB hb3 hk
  have cb0 := bb.cell 0 _ rfl
  have cb1 := bb.cell 1 _ rfl
  have cb2 := bb.cell 2 _ rfl
  have cb3 := bb.cell 3 _ rfl
  have cb4 := bb.cell 4 _ rfl
  have fb := bb.free
  have cc0 := bc.cell 0 _ rfl
  have cc1 := bc.cell 1 _ rfl
  have cc2 := bc.cell 2 _ rfl
  have cc3 := bc.cell 3 _ rfl
  have cc4 := bc.cell 4 _ rfl
  have fc := bc.free
  simp only [nodeV]
  go_wp2
  refine bodyPost_ret (v := .tuple #[nodeV (x.cutL (nk / 2)) (.slice i1 i2 i3) (.slice i4 i5 i6) (.slice i7 i8 i9), s, nodeV (x.cutR (nk / 2)) (.slice j1 j2 j3) (.slice j4 j5 j6) (.slice j7 j8 j9)]) (by simp [results, Try.results11, go_sem, nodeV, cb0, cb1, cb2, cb3, cb4, cc0, cc1, cc2, cc3, cc4]) rfl ?_
  exact ⟨_, _, _, _, _, _, s, rfl, hKK.mono (fun k _ h => by omega), hBB⟩
/-- the answer of Split where nothing is cut -/
def FewEnd (x : Nd) (w : World) (e : Ending) (w' : World) : Prop :=
  ∃ lk lv ld, e = .returned (.tuple #[nodeV x lk lv ld, .slice none 0 0, .agg #[.bool true, .slice none 0 0, .slice none 0 0, .slice none 0 0, .int .i64 0]]) ∧
    Kept (fun k => k < w.heap.size) w' (fun w2 => NodeAt w2 lk lv ld x) ∧ Below w.heap.size w w'

set_option maxRecDepth 100000 in
set_option maxHeartbeats 1600000 in
theorem split_few (x : Nd) (ks vs ds : Value) (w : World) (hx : NodeAt w ks vs ds x) (hok : x.ok) (hf : x.keys.length < 2 ∨ x.fits = false) (b : Bool) (n : Int) (hb : x.leaf = b) (hn : x.next = n) :
    Calls Try.prog 11 #[.agg #[.bool b, ks, vs, ds, .int .i64 n]] w fun e w' => FewEnd x w e w' := by
  obtain ⟨_, ⟨ak, ck, rfl, _⟩, _⟩ := id hx.keys
  obtain ⟨g, hg0⟩ : ∃ g, w.heap.size = g := ⟨_, rfl⟩
  obtain ⟨nk, hnk⟩ : ∃ nk, x.keys.length = nk := ⟨_, rfl⟩
  have hkb : nk ≤ 1099511627776 := hnk ▸ hok.keys
  rw [hnk] at hf hx ⊢
  have ba := ((Box.new w #[.bool b, .slice ak nk ck, vs, ds, .int .i64 n] 25 hg0.symm).alloc (.cells #[.bool false, .slice none 0 0, .slice none 0 0, .slice none 0 0, .int .i64 0] 25)).alloc (.cells #[.bool false, .slice none 0 0, .slice none 0 0, .slice none 0 0, .int .i64 0] 25)
  have bb := (Box.new (w.alloc (.cells #[.bool b, .slice ak nk ck, vs, ds, .int .i64 n] 25)) #[.bool false, .slice none 0 0, .slice none 0 0, .slice none 0 0, .int .i64 0] 25 (g := g + 1) (by simp; omega)).alloc (.cells #[.bool false, .slice none 0 0, .slice none 0 0, .slice none 0 0, .int .i64 0] 25)
  have bc := Box.new ((w.alloc (.cells #[.bool b, .slice ak nk ck, vs, ds, .int .i64 n] 25)).alloc (.cells #[.bool false, .slice none 0 0, .slice none 0 0, .slice none 0 0, .int .i64 0] 25)) #[.bool false, .slice none 0 0, .slice none 0 0, .slice none 0 0, .int .i64 0] 25 (g := g + 1 + 1) (by simp; omega)
  have hB := (((Below.refl w.heap.size w).alloc (Nat.le_refl _) (.cells #[.bool b, .slice ak nk ck, vs, ds, .int .i64 n] 25)).alloc (by simp) (.cells #[.bool false, .slice none 0 0, .slice none 0 0, .slice none 0 0, .int .i64 0] 25)).alloc (by simp; omega) (.cells #[.bool false, .slice none 0 0, .slice none 0 0, .slice none 0 0, .int .i64 0] 25)
  have HX := Lib.hid (hx.below hB (Nat.le_refl _))
  have HG := Lib.hid hg0
  have HNK := Lib.hid hnk
  have HB := Lib.hid hb
  have HN := Lib.hid hn
  have HF := Lib.hid hf
  simp only [] at ba bb bc
  clear hx hnk hb hn hf
  have ca0 := ba.cell 0 _ rfl
  have ca1 := ba.cell 1 _ rfl
  have ca2 := ba.cell 2 _ rfl
  have ca3 := ba.cell 3 _ rfl
  have ca4 := ba.cell 4 _ rfl
  have fa := ba.free
  have hgw : w.heap.size ≤ g := Nat.le_of_eq HG.out
  by_cases hl : nk < 2
  · have hlt : decide ((nk : Int) < 2) = true := by simp; omega
    go_enter Try.func11, Try.ntmps11
    go_wp2_with fail
    refine (copied_sl x _ vs ds _ HX.out hok b n nk _ _ HB.out HN.out HNK.out rfl rfl).mono ?_
    rintro e w2 ⟨lk, lv, ld, rfl, hk, hb3⟩
    clear ca0 ca1 ca2 ca3 ca4 fa
    have hbl := ba.lt
    have hcl := bc.lt
    replace bb := bb.below hb3 (Nat.le_refl _)
    replace bc := bc.below hb3 (Nat.le_refl _)
    obtain ⟨bb2, hgb⟩ := bb.set5 (.bool b) (.slice lk nk nk) (.slice lv x.vals.length x.vals.length) (.slice ld x.kids.length x.kids.length) (.int .i64 n)
    obtain ⟨bc2, hgc⟩ := (bc.grow hgb (by intros; omega)).set5 (.bool true) (.slice none 0 0) (.slice none 0 0) (.slice none 0 0) (.int .i64 0)
    have hs2 := hb3.size
    have hKK := hk.grow ((GrowX.of_growC hgb (by rintro k o rfl; omega)).trans (GrowX.of_growC hgc (by rintro k o rfl; omega)))
    have hBB := ((hB.trans (hb3.mono (by omega))).trans (hgb.below (fun k hk => ⟨by omega, fun _ => by omega⟩))).trans (hgc.below (fun k hk => ⟨by have := hgb.size; omega, fun _ => by omega⟩))
    have hKK2 : Kept (fun k => k < w.heap.size) _ _ := hKK.mono (fun k _ h => by omega)
    clear bb2 bc2 hgb hgc hB hb3 hk hKK
    have cb0 := bb.cell 0 _ rfl
    have cb1 := bb.cell 1 _ rfl
    have cb2 := bb.cell 2 _ rfl
    have cb3 := bb.cell 3 _ rfl
    have cb4 := bb.cell 4 _ rfl
    have fb := bb.free
    have cc0 := bc.cell 0 _ rfl
    have cc1 := bc.cell 1 _ rfl
    have cc2 := bc.cell 2 _ rfl
    have cc3 := bc.cell 3 _ rfl
    have cc4 := bc.cell 4 _ rfl
    have fc := bc.free
    go_wp2
    refine bodyPost_ret (v := .tuple #[.agg #[.bool b, .slice lk nk nk, .slice lv x.vals.length x.vals.length, .slice ld x.kids.length x.kids.length, .int .i64 n], .slice none 0 0, .agg #[.bool true, .slice none 0 0, .slice none 0 0, .slice none 0 0, .int .i64 0]]) (by simp [results, Try.results11, go_sem, nodeV, cb0, cb1, cb2, cb3, cb4, cc0, cc1, cc2, cc3, cc4]) rfl ?_
    refine ⟨_, _, _, ?_, hKK2, hBB⟩
    simp only [nodeV]
    rw [HB.out, HN.out]
  · have hlt : decide ((nk : Int) < 2) = false := by simp; omega
    have HF2 := Lib.hid (HF.out.elim (fun h => absurd h hl) id)
    go_enter Try.func11, Try.ntmps11
    go_wp2_with fail
    refine (fits_sl' x _ vs ds _ HX.out hok b n HB.out HN.out false HF2.out).mono ?_
    rintro e w1 ⟨rfl, hb1⟩
    clear ca0 ca1 ca2 ca3 ca4 fa
    replace ba := ba.below hb1 (Nat.le_refl _)
    replace bb := bb.below hb1 (Nat.le_refl _)
    replace bc := bc.below hb1 (Nat.le_refl _)
    have HX1 := Lib.hid (HX.out.below hb1 (Nat.le_refl _))
    replace hB := hB.trans (Below.mono hb1 (by simp; omega))
    clear hb1 HX
    have ca0 := ba.cell 0 _ rfl
    have ca1 := ba.cell 1 _ rfl
    have ca2 := ba.cell 2 _ rfl
    have ca3 := ba.cell 3 _ rfl
    have ca4 := ba.cell 4 _ rfl
    have fa := ba.free
    have HX := HX1
    go_wp2_with fail
    refine (copied_sl x _ vs ds _ HX.out hok b n nk _ _ HB.out HN.out HNK.out rfl rfl).mono ?_
    rintro e w2 ⟨lk, lv, ld, rfl, hk, hb3⟩
    clear ca0 ca1 ca2 ca3 ca4 fa
    have hbl := ba.lt
    have hcl := bc.lt
    replace bb := bb.below hb3 (Nat.le_refl _)
    replace bc := bc.below hb3 (Nat.le_refl _)
    obtain ⟨bb2, hgb⟩ := bb.set5 (.bool b) (.slice lk nk nk) (.slice lv x.vals.length x.vals.length) (.slice ld x.kids.length x.kids.length) (.int .i64 n)
    obtain ⟨bc2, hgc⟩ := (bc.grow hgb (by intros; omega)).set5 (.bool true) (.slice none 0 0) (.slice none 0 0) (.slice none 0 0) (.int .i64 0)
    have hs2 := hb3.size
    have hKK := hk.grow ((GrowX.of_growC hgb (by rintro k o rfl; omega)).trans (GrowX.of_growC hgc (by rintro k o rfl; omega)))
    have hBB := ((hB.trans (hb3.mono (by omega))).trans (hgb.below (fun k hk => ⟨by omega, fun _ => by omega⟩))).trans (hgc.below (fun k hk => ⟨by have := hgb.size; omega, fun _ => by omega⟩))
    have hKK2 : Kept (fun k => k < w.heap.size) _ _ := hKK.mono (fun k _ h => by omega)
    clear bb2 bc2 hgb hgc hB hb3 hk hKK
    have cb0 := bb.cell 0 _ rfl
    have cb1 := bb.cell 1 _ rfl
    have cb2 := bb.cell 2 _ rfl
    have cb3 := bb.cell 3 _ rfl
    have cb4 := bb.cell 4 _ rfl
    have fb := bb.free
    have cc0 := bc.cell 0 _ rfl
    have cc1 := bc.cell 1 _ rfl
    have cc2 := bc.cell 2 _ rfl
    have cc3 := bc.cell 3 _ rfl
    have cc4 := bc.cell 4 _ rfl
    have fc := bc.free
    go_wp2
    refine bodyPost_ret (v := .tuple #[.agg #[.bool b, .slice lk nk nk, .slice lv x.vals.length x.vals.length, .slice ld x.kids.length x.kids.length, .int .i64 n], .slice none 0 0, .agg #[.bool true, .slice none 0 0, .slice none 0 0, .slice none 0 0, .int .i64 0]]) (by simp [results, Try.results11, go_sem, nodeV, cb0, cb1, cb2, cb3, cb4, cc0, cc1, cc2, cc3, cc4]) rfl ?_
    refine ⟨_, _, _, ?_, hKK2, hBB⟩
    simp only [nodeV]
    rw [HB.out, HN.out]
end Go.Proofs.Ytfbblgcdggpehaa

/- Cutting and merging, in plain words, and the contracts in one form. Conditions: short lists. -/
import Derived.Test.YtfbblgcdggpehaaNAwake
namespace Go.Proofs.Ytfbblgcdggpehaa
set_option linter.unusedSimpArgs false
set_option linter.unusedVariables false
open Go.RowKit

/-- two nodes as one -/
def mergeN (x : Nd) (l : List UInt8) (y : Nd) : Nd := ⟨x.leaf, if x.leaf then x.keys ++ y.keys else x.keys ++ [l] ++ y.keys, x.vals ++ y.vals, x.kids ++ y.kids, y.next⟩

theorem merge_any (x y : Nd) (ks vs ds k ks2 vs2 ds2 : Value) (w : World) (hx : NodeAt w ks vs ds x) (hokx : x.ok) (hy : NodeAt w ks2 vs2 ds2 y) (hoky : y.ok) (hfx : x.fits = true) (hfy : y.fits = true) (hl : y.leaf = x.leaf)
    (l : List UInt8) (hk : Reads 1 w k l.length (l.map B)) (hm : l.length ≤ 1099511627776) (b : Bool) (ln rn : Int) (hxb : x.leaf = b) (hxn : x.next = ln) (hyn : y.next = rn) :
    Calls Try.prog 12 #[.agg #[.bool b, ks, vs, ds, .int .i64 ln], k, .agg #[.bool b, ks2, vs2, ds2, .int .i64 rn]] w fun e w' => NewEnd (mergeN x l y) w e w' := by
  cases b with
  | true =>
    have := merge_leaf x y ks vs ds k ks2 vs2 ds2 w hx hokx hy hoky ln rn hfx hfy hxb hxn (hl.trans hxb) hyn
    simpa [mergeN, hxb, hyn] using this
  | false =>
    have := merge_inner x y ks vs ds k ks2 vs2 ds2 w hx hokx hy hoky ln rn hfx hfy l l.length hk hm hxb hxn (hl.trans hxb) hyn
    simpa [mergeN, hxb, hyn] using this

theorem cut_merge {x : Nd} (hf : x.fits = true) {h : Nat} (hh : h < x.keys.length) : mergeN (x.cutL h) (x.keys.getD h []) (x.cutR h) = x := by
  obtain ⟨lf, K, V, D, n⟩ := x
  cases lf with
  | true =>
    simp only [Nd.fits, fitsB, if_true, Bool.and_eq_true, beq_iff_eq] at hf
    have : D = [] := List.eq_nil_of_length_eq_zero hf.2
    subst this
    simp [mergeN, Nd.cutL, Nd.cutR]
  | false =>
    simp only [Nd.fits, fitsB, Bool.false_eq_true, if_false, Bool.and_eq_true, beq_iff_eq] at hf
    have : V = [] := List.eq_nil_of_length_eq_zero hf.2
    subst this
    have hk : K.take h ++ (K.getD h [] :: K.drop (h + 1)) = K := by
      rw [List.getD_eq_getElem?_getD, List.getElem?_eq_getElem hh]
      simp only [Option.getD_some]
      rw [← List.drop_eq_getElem_cons hh, List.take_append_drop]
    simp [mergeN, Nd.cutL, Nd.cutR] at hk ⊢
    exact hk

theorem cutL_leaf (x : Nd) (h : Nat) : (x.cutL h).leaf = x.leaf := by
  unfold Nd.cutL; split <;> simp_all
theorem cutR_leaf (x : Nd) (h : Nat) : (x.cutR h).leaf = x.leaf := by
  unfold Nd.cutR; split <;> simp_all
theorem cutL_next (x : Nd) (h : Nat) : (x.cutL h).next = 0 := by
  unfold Nd.cutL; split <;> rfl
theorem cutR_next (x : Nd) (h : Nat) : (x.cutR h).next = x.next := by
  unfold Nd.cutR; split <;> rfl
theorem cutL_keys (x : Nd) (h : Nat) : (x.cutL h).keys = x.keys.take h := by
  unfold Nd.cutL; split <;> rfl
theorem cutR_keys (x : Nd) (h : Nat) : (x.cutR h).keys = if x.leaf then x.keys.drop h else x.keys.drop (h + 1) := by
  unfold Nd.cutR; split <;> rfl
theorem cutL_fits {x : Nd} (hf : x.fits = true) {h : Nat} (hh : h < x.keys.length) : (x.cutL h).fits = true := by
  unfold Nd.fits fitsB at *
  unfold Nd.cutL
  split at hf
  · rename_i hl
    simp only [Bool.and_eq_true, beq_iff_eq] at hf
    simp [hl]; omega
  · rename_i hl
    simp only [Bool.and_eq_true, beq_iff_eq] at hf
    simp [hl]; omega
theorem cutR_fits {x : Nd} (hf : x.fits = true) {h : Nat} (hh : h < x.keys.length) : (x.cutR h).fits = true := by
  unfold Nd.fits fitsB at *
  unfold Nd.cutR
  split at hf
  · rename_i hl
    simp only [Bool.and_eq_true, beq_iff_eq] at hf
    simp [hl]; omega
  · rename_i hl
    simp only [Bool.and_eq_true, beq_iff_eq] at hf
    simp [hl]; omega
theorem Nd.small.cutL {x : Nd} (h : x.small) (k : Nat) : (x.cutL k).small := by
  unfold Nd.cutL
  split
  · exact ⟨by have := h.keys; simp; omega, by have := h.vals; simp; omega, by simp, fun l hl => h.keys2 l (List.mem_of_mem_take hl), fun l hl => h.vals2 l (List.mem_of_mem_take hl)⟩
  · exact ⟨by have := h.keys; simp; omega, by simp, by have := h.kids; simp; omega, fun l hl => h.keys2 l (List.mem_of_mem_take hl), fun l hl => by cases hl⟩
theorem Nd.small.cutR {x : Nd} (h : x.small) (k : Nat) : (x.cutR k).small := by
  unfold Nd.cutR
  split
  · exact ⟨by have := h.keys; simp; omega, by have := h.vals; simp; omega, by simp, fun l hl => h.keys2 l (List.mem_of_mem_drop hl), fun l hl => h.vals2 l (List.mem_of_mem_drop hl)⟩
  · exact ⟨by have := h.keys; simp; omega, by simp, by have := h.kids; simp; omega, fun l hl => h.keys2 l (List.mem_of_mem_drop hl), fun l hl => by cases hl⟩

theorem same_small (x : Nd) (hsm : x.small) (ks vs ds ks2 vs2 ds2 : Value) (w : World) (hx : RefAt w ks vs ds x) (hy : RefAt w ks2 vs2 ds2 x) (b : Bool) (n : Int) :
    Calls Try.prog 14 #[.agg #[.bool b, ks, vs, ds, .int .i64 n], .agg #[.bool b, ks2, vs2, ds2, .int .i64 n]] w fun e w' => e = .returned (.bool true) ∧ Below w.heap.size w w' :=
  same_eq x ks vs ds ks2 vs2 ds2 w hx hy (Nat.le_trans hsm.keys (by decide)) (Nat.le_trans hsm.vals (by decide)) (Nat.le_trans hsm.kids (by decide)) b n

theorem to_small (x : Nd) (ks vs ds : Value) (w : World) (hx : NodeAt w ks vs ds x) (hsm : x.small) (b : Bool) (n : Int) (hb : x.leaf = b) (hn : x.next = n) :
    Calls Try.prog 15 #[.agg #[.bool b, ks, vs, ds, .int .i64 n]] w fun e w' => ∃ r1 r2, e = .returned (.agg #[.bool b, r1, r2, ds, .int .i64 n]) ∧ RefAt w' r1 r2 ds x ∧ Below w.heap.size w w' := by
  refine (to_any x ks vs ds w hx hsm.ok b n hb hn).mono ?_
  rintro e w' ⟨r1, r2, rfl, h1, h2⟩
  exact ⟨r1, r2, by rw [nodeV, hb, hn], h1, h2⟩

/-- what Split leaves, in the caller's words -/
theorem split_small (x : Nd) (ks vs ds : Value) (w : World) (hx : NodeAt w ks vs ds x) (hsm : x.small) (hf : x.fits = true) (hl : 2 ≤ x.keys.length) (b : Bool) (n : Int) (hb : x.leaf = b) (hn : x.next = n) :
    Calls Try.prog 11 #[.agg #[.bool b, ks, vs, ds, .int .i64 n]] w fun e w' =>
      ∃ i1 i2 i3 i4 i5 i6 i7 i8 i9 j1 j2 j3 j4 j5 j6 j7 j8 j9 s1 s2 s3, e = .returned (.tuple #[.agg #[.bool b, .slice i1 i2 i3, .slice i4 i5 i6, .slice i7 i8 i9, .int .i64 0], .slice s1 s2 s3, .agg #[.bool b, .slice j1 j2 j3, .slice j4 j5 j6, .slice j7 j8 j9, .int .i64 n]]) ∧
        NodeAt w' (.slice i1 i2 i3) (.slice i4 i5 i6) (.slice i7 i8 i9) (x.cutL (x.keys.length / 2)) ∧ NodeAt w' (.slice j1 j2 j3) (.slice j4 j5 j6) (.slice j7 j8 j9) (x.cutR (x.keys.length / 2)) ∧
        Reads 1 w' (.slice s1 s2 s3) (x.keys.getD (x.keys.length / 2) []).length ((x.keys.getD (x.keys.length / 2) []).map B) ∧ i2 = (x.cutL (x.keys.length / 2)).keys.length ∧ j2 = (x.cutR (x.keys.length / 2)).keys.length ∧ Below w.heap.size w w' := by
  refine (split_many x ks vs ds w hx hsm.ok hf hl b n hb hn).mono ?_
  rintro e w' ⟨lk, lv, ld, rk, rv, rd, s, rfl, hk, hB⟩
  obtain ⟨h1, h2, h3⟩ := hk.now
  obtain ⟨⟨_, ⟨i1, i3, rfl, _⟩, _⟩, _⟩ := id h1
  obtain ⟨_, ⟨i4, i5, i6, rfl⟩, i7, i8, i9, rfl⟩ := h1.shape
  obtain ⟨⟨_, ⟨j1, j3, rfl, _⟩, _⟩, _⟩ := id h2
  obtain ⟨_, ⟨j4, j5, j6, rfl⟩, j7, j8, j9, rfl⟩ := h2.shape
  obtain ⟨s1, s3, rfl⟩ := h3.shape
  exact ⟨_, _, _, _, _, _, _, _, _, _, _, _, _, _, _, _, _, _, _, _, _, by simp only [nodeV, cutL_leaf, cutR_leaf, cutL_next, cutR_next, hb, hn], h1, h2, h3, rfl, rfl, hB⟩

end Go.Proofs.Ytfbblgcdggpehaa

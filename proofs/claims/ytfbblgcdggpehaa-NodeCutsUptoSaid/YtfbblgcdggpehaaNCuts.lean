/- The walk of NodeCuts: true at every node. Conditions: short lists. -/
import Derived.Test.YtfbblgcdggpehaaNLawK
namespace Go.Proofs.Ytfbblgcdggpehaa
set_option linter.unusedSimpArgs false
set_option linter.unusedVariables false
open Go.RowKit

theorem keys_lt {K : List (List UInt8)} (h : ∀ (i : Nat) (a b : List UInt8), K[i]? = some a → K[i + 1]? = some b → lessB a b = true) : ∀ (d i : Nat) (a b : List UInt8), K[i]? = some a → K[i + 1 + d]? = some b → lessB a b = true
  | 0, i, a, b, h1, h2 => h i a b h1 h2
  | d + 1, i, a, b, h1, h2 => by
    have hl := (List.getElem?_eq_some_iff.1 h2).1
    have hc : K[i + 1 + d]? = some (K[i + 1 + d]'(by omega)) := List.getElem?_eq_getElem (by omega)
    exact less_trans _ _ _ (keys_lt h d i a _ h1 hc) (h (i + 1 + d) _ b hc (by rw [← h2]; rfl))

theorem getD_lt {K : List (List UInt8)} (h : keysOk K) {i j : Nat} (hij : i < j) (hj : j < K.length) : lessB (K.getD i []) (K.getD j []) = true := by
  refine keys_lt h.2 (j - i - 1) i _ _ ?_ ?_
  · rw [List.getD_eq_getElem?_getD, List.getElem?_eq_getElem (by omega)]; rfl
  · rw [List.getD_eq_getElem?_getD, List.getElem?_eq_getElem hj, show i + 1 + (j - i - 1) = j by omega, List.getElem?_eq_getElem hj]; rfl

theorem getD_len2 {K : List (List UInt8)} {m : Nat} (h : ∀ l ∈ K, l.length ≤ m) (i : Nat) : (K.getD i []).length ≤ m := by
  rw [List.getD_eq_getElem?_getD]
  cases hk : K[i]? with
  | none => exact Nat.zero_le _
  | some l => exact h l (List.mem_of_getElem? hk)

theorem merge_q1 {x : Nd} (hl : x.leaf = true) (k : List UInt8) (h hb : Nat) : mergeN (x.cutL h) k ((x.cutR h).cutL hb) = x.cutL (h + hb) := by
  obtain ⟨lf, K, V, D, n⟩ := x
  obtain rfl : lf = true := hl
  simp [mergeN, Nd.cutL, Nd.cutR, List.take_add]

theorem merge_q2 {x : Nd} (hl : x.leaf = true) (hf : x.fits = true) (k : List UInt8) (h hb : Nat) : mergeN (x.cutL (h + hb)) k ((x.cutR h).cutR hb) = x := by
  obtain ⟨lf, K, V, D, n⟩ := x
  obtain rfl : lf = true := hl
  simp only [Nd.fits, fitsB, if_true, Bool.and_eq_true, beq_iff_eq] at hf
  have : D = [] := List.eq_nil_of_length_eq_zero hf.2
  subst this
  have e1 : List.take (h + hb) K ++ List.drop hb (List.drop h K) = K := by rw [List.drop_drop]; exact List.take_append_drop _ _
  have e2 : List.take (h + hb) V ++ List.drop hb (List.drop h V) = V := by rw [List.drop_drop]; exact List.take_append_drop _ _
  simp only [mergeN, Nd.cutL, Nd.cutR, if_true, e1, e2, List.append_nil]

theorem wrap4 {a b c d : Nat} {n : Int} (h : ((a + b + c + d : Nat) : Int) = n) (hn : n ≤ 1048576) : (wrap64 (wrap64 (wrap64 ((a : Int) + (b : Int)) + (c : Int)) + (d : Int)) != n) = false := by
  have : wrap64 (wrap64 (wrap64 ((a : Int) + (b : Int)) + (c : Int)) + (d : Int)) = n := by unfold wrap64; omega
  rw [this]; simp

def WCm (W0 : World) (g g6 g9 pc2 pc3 pc5 pc6 pc8 pc9 pd2 pd3 pd5 pd6 pd8 pd9 pe2 pe3 pe5 pe6 pe8 pe9 pf2 pf3 pf5 pf6 pf8 pf9 nk kc nv vc nd dc sk2 sk3 sl2 sl3 sn2 sn3 : Nat) (n : Int) (pc1 pc4 pc7 pd1 pd4 pd7 pe1 pe4 pe7 pf1 pf4 pf7 ka va da sk1 sl1 sn1 : Option Addr) (x : Nd) (j b o : Nat) : Prop := False
def PCm (W0 : World) (g g6 g9 pc2 pc3 pc5 pc6 pc8 pc9 pd2 pd3 pd5 pd6 pd8 pd9 pe2 pe3 pe5 pe6 pe8 pe9 pf2 pf3 pf5 pf6 pf8 pf9 nk kc nv vc nd dc sk2 sk3 sl2 sl3 sn2 sn3 : Nat) (n : Int) (pc1 pc4 pc7 pd1 pd4 pd7 pe1 pe4 pe7 pf1 pf4 pf7 ka va da sk1 sl1 sn1 : Option Addr) (x : Nd) (i : Nat) (v : Value) (lo hi : Nat) (w : World) : Prop :=
  match i with
  | 0 => v = .agg #[.bool true, .slice pc1 pc2 pc3, .slice pc4 pc5 pc6, .slice pc7 pc8 pc9, .int .i64 0]
  | 1 => v = .slice sl1 sl2 sl3
  | 2 => v = .agg #[.bool true, .slice pd1 pd2 pd3, .slice pd4 pd5 pd6, .slice pd7 pd8 pd9, .int .i64 0]
  | 3 => ∃ m1 m2 m3, v = .agg #[.bool true, m1, m2, m3, .int .i64 0] ∧ NodeAt w m1 m2 m3 (x.cutL (x.keys.length / 2))
  | 4 => v = .slice sk1 sk2 sk3
  | 5 => v = .agg #[.bool true, .slice pe1 pe2 pe3, .slice pe4 pe5 pe6, .slice pe7 pe8 pe9, .int .i64 0]
  | 6 => ∃ m1 m2 m3, v = .agg #[.bool true, m1, m2, m3, .int .i64 0] ∧ NodeAt w m1 m2 m3 (x.cutL (x.keys.length / 2 + (x.cutR (x.keys.length / 2)).keys.length / 2))
  | 7 => v = .slice sn1 sn2 sn3
  | 8 => v = .agg #[.bool true, .slice pf1 pf2 pf3, .slice pf4 pf5 pf6, .slice pf7 pf8 pf9, .int .i64 n]
  | 9 => ∃ a1 a2 a3, v = .agg #[.bool true, .slice a1 nk nk, .slice a2 nv nv, .slice a3 nd nd, .int .i64 n] ∧ Kept (fun k => k < lo ∨ hi ≤ k) w (fun w2 => NodeAt w2 (.slice a1 nk nk) (.slice a2 nv nv) (.slice a3 nd nd) x)
  | 10 => v = .pointer (some ⟨lo, 0, none⟩) ∧ hi = lo + 1 ∧ Box w lo [.bool false, .slice none 0 0, .slice none 0 0, .slice none 0 0, .int .i64 0]
  | _ => True
theorem PCm_stable (W0 : World) (g g6 g9 pc2 pc3 pc5 pc6 pc8 pc9 pd2 pd3 pd5 pd6 pd8 pd9 pe2 pe3 pe5 pe6 pe8 pe9 pf2 pf3 pf5 pf6 pf8 pf9 nk kc nv vc nd dc sk2 sk3 sl2 sl3 sn2 sn3 : Nat) (n : Int) (pc1 pc4 pc7 pd1 pd4 pd7 pe1 pe4 pe7 pf1 pf4 pf7 ka va da sk1 sl1 sn1 : Option Addr) (x : Nd)  : ∀ i j, i < 11 → j < 11 → j ≠ i → j ∉ ([[], [], [], [0, 1, 2], [], [], [0, 1, 2, 3, 4, 5], [], [], [0, 1, 2, 3, 4, 5, 6, 7, 8], []] : List (List Nat)).getD i [] → ∀ v lo hi w w', PCm W0 g g6 g9 pc2 pc3 pc5 pc6 pc8 pc9 pd2 pd3 pd5 pd6 pd8 pd9 pe2 pe3 pe5 pe6 pe8 pe9 pf2 pf3 pf5 pf6 pf8 pf9 nk kc nv vc nd dc sk2 sk3 sl2 sl3 sn2 sn3 n pc1 pc4 pc7 pd1 pd4 pd7 pe1 pe4 pe7 pf1 pf4 pf7 ka va da sk1 sl1 sn1 x i v lo hi w → GrowC (WCm W0 g g6 g9 pc2 pc3 pc5 pc6 pc8 pc9 pd2 pd3 pd5 pd6 pd8 pd9 pe2 pe3 pe5 pe6 pe8 pe9 pf2 pf3 pf5 pf6 pf8 pf9 nk kc nv vc nd dc sk2 sk3 sl2 sl3 sn2 sn3 n pc1 pc4 pc7 pd1 pd4 pd7 pe1 pe4 pe7 pf1 pf4 pf7 ka va da sk1 sl1 sn1 x j) w w' → PCm W0 g g6 g9 pc2 pc3 pc5 pc6 pc8 pc9 pd2 pd3 pd5 pd6 pd8 pd9 pe2 pe3 pe5 pe6 pe8 pe9 pf2 pf3 pf5 pf6 pf8 pf9 nk kc nv vc nd dc sk2 sk3 sl2 sl3 sn2 sn3 n pc1 pc4 pc7 pd1 pd4 pd7 pe1 pe4 pe7 pf1 pf4 pf7 ka va da sk1 sl1 sn1 x i v lo hi w' := by
  intro i j hi hj hne hbs v lo hj2 w w' h hg
  match i, hi with
  | 0, _ =>
    simp only [PCm] at h ⊢
    exact h
  | 1, _ =>
    simp only [PCm] at h ⊢
    exact h
  | 2, _ =>
    simp only [PCm] at h ⊢
    exact h
  | 3, _ =>
    simp only [PCm] at h ⊢
    obtain ⟨m1, m2, m3, h1, h2⟩ := h; exact ⟨m1, m2, m3, h1, h2.below (hg.below (B := w.heap.size) (fun k hk => ⟨hk, fun _ hw => False.elim hw⟩)) (Nat.le_refl _)⟩
  | 4, _ =>
    simp only [PCm] at h ⊢
    exact h
  | 5, _ =>
    simp only [PCm] at h ⊢
    exact h
  | 6, _ =>
    simp only [PCm] at h ⊢
    obtain ⟨m1, m2, m3, h1, h2⟩ := h; exact ⟨m1, m2, m3, h1, h2.below (hg.below (B := w.heap.size) (fun k hk => ⟨hk, fun _ hw => False.elim hw⟩)) (Nat.le_refl _)⟩
  | 7, _ =>
    simp only [PCm] at h ⊢
    exact h
  | 8, _ =>
    simp only [PCm] at h ⊢
    exact h
  | 9, _ =>
    simp only [PCm] at h ⊢
    obtain ⟨m1, m2, m3, h1, h2⟩ := h; exact ⟨m1, m2, m3, h1, h2.grow (GrowX.of_growC hg (fun _ _ hw => False.elim hw))⟩
  | 10, _ =>
    simp only [PCm] at h ⊢
    exact ⟨h.1, h.2.1, h.2.2.grow hg (fun _ _ hw => False.elim hw)⟩
  | (q + 11), hq => exact absurd hq (by omega)
def WCe0 (W0 : World) (g g12 nk kc nv vc nd dc : Nat) (n : Int) (ka va da : Option Addr) (a1 a2 a3 : Option Addr) (x : Nd) (j b o : Nat) : Prop := False
def PCe0 (W0 : World) (g g12 nk kc nv vc nd dc : Nat) (n : Int) (ka va da : Option Addr) (a1 a2 a3 : Option Addr) (x : Nd) (i : Nat) (v : Value) (lo hi : Nat) (w : World) : Prop :=
  match i with
  | 0 => v = .agg #[.bool true, .slice a1 nk nk, .slice a2 nv nv, .slice a3 nd nd, .int .i64 n]
  | 1 => ∃ r1 r2, v = .agg #[.bool true, r1, r2, (.slice a3 nd nd), .int .i64 n] ∧ RefAt w r1 r2 (.slice a3 nd nd) x
  | 2 => v = .agg #[.bool true, .slice ka nk kc, .slice va nv vc, .slice da nd dc, .int .i64 n]
  | 3 => ∃ r1 r2, v = .agg #[.bool true, r1, r2, (.slice da nd dc), .int .i64 n] ∧ RefAt w r1 r2 (.slice da nd dc) x
  | 4 => v = .bool true
  | 5 => v = .bool true
  | 6 => v = .int .i64 0
  | 7 => v = .int .i64 0
  | 8 => v = .bool true
  | 9 => v = .bool true
  | 10 => v = .bool true
  | 11 => v = .int .i64 0
  | 12 => v = .bool true
  | 13 => v = .bool true
  | 14 => True
  | 15 => True
  | 16 => v = .bool true
  | 17 => v = .bool true
  | 18 => v = .bool true
  | 19 => v = .bool true
  | 20 => v = .bool true
  | 21 => v = .bool true
  | _ => True
theorem PCe0_stable (W0 : World) (g g12 nk kc nv vc nd dc : Nat) (n : Int) (ka va da : Option Addr) (a1 a2 a3 : Option Addr) (x : Nd)  : ∀ i j, i < 22 → j < 22 → j ≠ i → j ∉ ([[], [0], [], [0, 1, 2], [0, 1, 2, 3], [0, 1, 2, 3, 4], [0, 1, 2, 3, 4, 5], [0, 1, 2, 3, 4, 5], [0, 1, 2, 3, 4, 5, 6, 7], [0, 1, 2, 3, 4, 5, 6, 7, 8], [0, 1, 2, 3, 4, 5, 6, 7, 8, 9], [0, 1, 2, 3, 4, 5, 6, 7, 8, 9, 10], [0, 1, 2, 3, 4, 5, 6, 7, 8, 9, 10, 11], [0, 1, 2, 3, 4, 5, 6, 7, 8, 9, 10, 11, 12], [0, 1, 2, 3, 4, 5, 6, 7, 8, 9, 10, 11, 12, 13], [0, 1, 2, 3, 4, 5, 6, 7, 8, 9, 10, 11, 12, 13, 14], [0, 1, 2, 3, 4, 5, 6, 7, 8, 9, 10, 11, 12, 13, 14, 15], [0, 1, 2, 3, 4, 5, 6, 7, 8, 9, 10, 11, 12, 13, 14, 15, 16], [0, 1, 2, 3, 4, 5, 6, 7, 8, 9, 10, 11, 12, 13, 14, 15, 16, 17], [0, 1, 2, 3, 4, 5, 6, 7, 8, 9, 10, 11, 12, 13, 14, 15, 16, 17, 18], [0, 1, 2, 3, 4, 5, 6, 7, 8, 9, 10, 11, 12, 13, 14, 15, 16, 17, 18, 19], [0, 1, 2, 3, 4, 5, 6, 7, 8, 9, 10, 11, 12, 13, 14, 15, 16, 17, 18, 19, 20]] : List (List Nat)).getD i [] → ∀ v lo hi w w', PCe0 W0 g g12 nk kc nv vc nd dc n ka va da a1 a2 a3 x i v lo hi w → GrowC (WCe0 W0 g g12 nk kc nv vc nd dc n ka va da a1 a2 a3 x j) w w' → PCe0 W0 g g12 nk kc nv vc nd dc n ka va da a1 a2 a3 x i v lo hi w' := by
  intro i j hi hj hne hbs v lo hj2 w w' h hg
  match i, hi with
  | 0, _ =>
    simp only [PCe0] at h ⊢
    exact h
  | 1, _ =>
    simp only [PCe0] at h ⊢
    obtain ⟨r1, r2, h1, h2⟩ := h; exact ⟨r1, r2, h1, h2.below (hg.below (B := w.heap.size) (fun k hk => ⟨hk, fun _ hw => False.elim hw⟩)) (Nat.le_refl _)⟩
  | 2, _ =>
    simp only [PCe0] at h ⊢
    exact h
  | 3, _ =>
    simp only [PCe0] at h ⊢
    obtain ⟨r1, r2, h1, h2⟩ := h; exact ⟨r1, r2, h1, h2.below (hg.below (B := w.heap.size) (fun k hk => ⟨hk, fun _ hw => False.elim hw⟩)) (Nat.le_refl _)⟩
  | 4, _ =>
    simp only [PCe0] at h ⊢
    exact h
  | 5, _ =>
    simp only [PCe0] at h ⊢
    exact h
  | 6, _ =>
    simp only [PCe0] at h ⊢
    exact h
  | 7, _ =>
    simp only [PCe0] at h ⊢
    exact h
  | 8, _ =>
    simp only [PCe0] at h ⊢
    exact h
  | 9, _ =>
    simp only [PCe0] at h ⊢
    exact h
  | 10, _ =>
    simp only [PCe0] at h ⊢
    exact h
  | 11, _ =>
    simp only [PCe0] at h ⊢
    exact h
  | 12, _ =>
    simp only [PCe0] at h ⊢
    exact h
  | 13, _ =>
    simp only [PCe0] at h ⊢
    exact h
  | 14, _ =>
    simp only [PCe0] at h ⊢
    skip
  | 15, _ =>
    simp only [PCe0] at h ⊢
    skip
  | 16, _ =>
    simp only [PCe0] at h ⊢
    exact h
  | 17, _ =>
    simp only [PCe0] at h ⊢
    exact h
  | 18, _ =>
    simp only [PCe0] at h ⊢
    exact h
  | 19, _ =>
    simp only [PCe0] at h ⊢
    exact h
  | 20, _ =>
    simp only [PCe0] at h ⊢
    exact h
  | 21, _ =>
    simp only [PCe0] at h ⊢
    exact h
  | (q + 22), hq => exact absurd hq (by omega)
def WCe60 (W0 : World) (g g12 nk kc nv vc nd dc : Nat) (n : Int) (ka va da : Option Addr) (a1 a2 a3 : Option Addr) (x : Nd) (j b o : Nat) : Prop := False
def PCe60 (W0 : World) (g g12 nk kc nv vc nd dc : Nat) (n : Int) (ka va da : Option Addr) (a1 a2 a3 : Option Addr) (x : Nd) (i : Nat) (v : Value) (lo hi : Nat) (w : World) : Prop :=
  match i with
  | 0 => v = .agg #[.bool true, .slice a1 nk nk, .slice a2 nv nv, .slice a3 nd nd, .int .i64 n]
  | 1 => ∃ r1 r2, v = .agg #[.bool true, r1, r2, (.slice a3 nd nd), .int .i64 n] ∧ RefAt w r1 r2 (.slice a3 nd nd) x
  | 2 => v = .agg #[.bool true, .slice ka nk kc, .slice va nv vc, .slice da nd dc, .int .i64 n]
  | 3 => ∃ r1 r2, v = .agg #[.bool true, r1, r2, (.slice da nd dc), .int .i64 n] ∧ RefAt w r1 r2 (.slice da nd dc) x
  | 4 => v = .bool true
  | 5 => v = .bool true
  | 6 => v = .int .i64 60
  | 7 => v = .int .i64 60
  | 8 => v = .bool true
  | 9 => v = .bool true
  | 10 => v = .bool true
  | 11 => v = .int .i64 60
  | 12 => v = .bool false
  | 13 => v = .bool false
  | 14 => v = .int .i64 60
  | 15 => v = .bool true
  | 16 => v = .bool true
  | 17 => v = .bool true
  | 18 => v = .bool true
  | 19 => v = .bool true
  | 20 => v = .bool true
  | 21 => v = .bool true
  | _ => True
theorem PCe60_stable (W0 : World) (g g12 nk kc nv vc nd dc : Nat) (n : Int) (ka va da : Option Addr) (a1 a2 a3 : Option Addr) (x : Nd)  : ∀ i j, i < 22 → j < 22 → j ≠ i → j ∉ ([[], [0], [], [0, 1, 2], [0, 1, 2, 3], [0, 1, 2, 3, 4], [0, 1, 2, 3, 4, 5], [0, 1, 2, 3, 4, 5], [0, 1, 2, 3, 4, 5, 6, 7], [0, 1, 2, 3, 4, 5, 6, 7, 8], [0, 1, 2, 3, 4, 5, 6, 7, 8, 9], [0, 1, 2, 3, 4, 5, 6, 7, 8, 9, 10], [0, 1, 2, 3, 4, 5, 6, 7, 8, 9, 10, 11], [0, 1, 2, 3, 4, 5, 6, 7, 8, 9, 10, 11, 12], [0, 1, 2, 3, 4, 5, 6, 7, 8, 9, 10, 11, 12, 13], [0, 1, 2, 3, 4, 5, 6, 7, 8, 9, 10, 11, 12, 13, 14], [0, 1, 2, 3, 4, 5, 6, 7, 8, 9, 10, 11, 12, 13, 14, 15], [0, 1, 2, 3, 4, 5, 6, 7, 8, 9, 10, 11, 12, 13, 14, 15, 16], [0, 1, 2, 3, 4, 5, 6, 7, 8, 9, 10, 11, 12, 13, 14, 15, 16, 17], [0, 1, 2, 3, 4, 5, 6, 7, 8, 9, 10, 11, 12, 13, 14, 15, 16, 17, 18], [0, 1, 2, 3, 4, 5, 6, 7, 8, 9, 10, 11, 12, 13, 14, 15, 16, 17, 18, 19], [0, 1, 2, 3, 4, 5, 6, 7, 8, 9, 10, 11, 12, 13, 14, 15, 16, 17, 18, 19, 20]] : List (List Nat)).getD i [] → ∀ v lo hi w w', PCe60 W0 g g12 nk kc nv vc nd dc n ka va da a1 a2 a3 x i v lo hi w → GrowC (WCe60 W0 g g12 nk kc nv vc nd dc n ka va da a1 a2 a3 x j) w w' → PCe60 W0 g g12 nk kc nv vc nd dc n ka va da a1 a2 a3 x i v lo hi w' := by
  intro i j hi hj hne hbs v lo hj2 w w' h hg
  match i, hi with
  | 0, _ =>
    simp only [PCe60] at h ⊢
    exact h
  | 1, _ =>
    simp only [PCe60] at h ⊢
    obtain ⟨r1, r2, h1, h2⟩ := h; exact ⟨r1, r2, h1, h2.below (hg.below (B := w.heap.size) (fun k hk => ⟨hk, fun _ hw => False.elim hw⟩)) (Nat.le_refl _)⟩
  | 2, _ =>
    simp only [PCe60] at h ⊢
    exact h
  | 3, _ =>
    simp only [PCe60] at h ⊢
    obtain ⟨r1, r2, h1, h2⟩ := h; exact ⟨r1, r2, h1, h2.below (hg.below (B := w.heap.size) (fun k hk => ⟨hk, fun _ hw => False.elim hw⟩)) (Nat.le_refl _)⟩
  | 4, _ =>
    simp only [PCe60] at h ⊢
    exact h
  | 5, _ =>
    simp only [PCe60] at h ⊢
    exact h
  | 6, _ =>
    simp only [PCe60] at h ⊢
    exact h
  | 7, _ =>
    simp only [PCe60] at h ⊢
    exact h
  | 8, _ =>
    simp only [PCe60] at h ⊢
    exact h
  | 9, _ =>
    simp only [PCe60] at h ⊢
    exact h
  | 10, _ =>
    simp only [PCe60] at h ⊢
    exact h
  | 11, _ =>
    simp only [PCe60] at h ⊢
    exact h
  | 12, _ =>
    simp only [PCe60] at h ⊢
    exact h
  | 13, _ =>
    simp only [PCe60] at h ⊢
    exact h
  | 14, _ =>
    simp only [PCe60] at h ⊢
    exact h
  | 15, _ =>
    simp only [PCe60] at h ⊢
    exact h
  | 16, _ =>
    simp only [PCe60] at h ⊢
    exact h
  | 17, _ =>
    simp only [PCe60] at h ⊢
    exact h
  | 18, _ =>
    simp only [PCe60] at h ⊢
    exact h
  | 19, _ =>
    simp only [PCe60] at h ⊢
    exact h
  | 20, _ =>
    simp only [PCe60] at h ⊢
    exact h
  | 21, _ =>
    simp only [PCe60] at h ⊢
    exact h
  | (q + 22), hq => exact absurd hq (by omega)

set_option maxRecDepth 100000 in
set_option maxHeartbeats 12800000 in
theorem cuts_false (x : Nd) (hlf : x.leaf = false) (hsm : x.small) (ks vs ds : Value) (w : World) (hx : NodeAt w ks vs ds x) (n : Int) (hn : x.next = n) :
    Calls Try.prog 3 #[.agg #[.bool false, ks, vs, ds, .int .i64 n]] w fun e w' => e = .returned (.bool true) ∧ Below w.heap.size w w' := by
  obtain ⟨_, ⟨ka, kc, rfl, _⟩, _⟩ := id hx.keys
  obtain ⟨_, ⟨va, vc, rfl, _⟩, _⟩ := id hx.vals
  obtain ⟨da, dc, rfl⟩ := hx.kids.shape
  obtain ⟨nk, hnk⟩ : ∃ nk, x.keys.length = nk := ⟨_, rfl⟩
  obtain ⟨nv, hnv⟩ : ∃ nv, x.vals.length = nv := ⟨_, rfl⟩
  obtain ⟨nd, hnd⟩ : ∃ nd, x.kids.length = nd := ⟨_, rfl⟩
  have hk : nk ≤ 1048576 := hnk ▸ hsm.keys
  simp only [hnk, hnv, hnd] at hx ⊢
  obtain ⟨g, hg0⟩ : ∃ g, w.heap.size = g := ⟨_, rfl⟩
  have ba := Box.new w #[.bool false, .slice ka nk kc, .slice va nv vc, .slice da nd dc, .int .i64 n] 25 hg0.symm
  have hB := (Below.refl w.heap.size w).alloc (Nat.le_refl _) (.cells #[.bool false, .slice ka nk kc, .slice va nv vc, .slice da nd dc, .int .i64 n] 25)
  have hs0 : g + 1 ≤ (w.alloc (.cells #[.bool false, .slice ka nk kc, .slice va nv vc, .slice da nd dc, .int .i64 n] 25)).heap.size := by simp; omega
  have HG := Lib.hid hg0
  have HNK := Lib.hid hnk
  have HNV := Lib.hid hnv
  have HND := Lib.hid hnd
  have HX := Lib.hid (hx.below hB (Nat.le_refl _))
  have HLF := Lib.hid hlf
  have HN := Lib.hid hn
  clear hx hnk hnv hnd hg0 hlf hn
  have ca0 := ba.cell 0 _ rfl
  have ca1 := ba.cell 1 _ rfl
  have ca2 := ba.cell 2 _ rfl
  have ca3 := ba.cell 3 _ rfl
  have ca4 := ba.cell 4 _ rfl
  have fa := ba.free
  go_enter Try.func3, Try.ntmps3
  go_wp2_with fail
  clear ca0 ca1 ca2 ca3 ca4 fa
  have hgw : w.heap.size ≤ g := Nat.le_of_eq HG.out
  rw [HG.out]
  refine (lfit_any x hsm _ _ _ _ HX.out false n HLF.out HN.out).mono ?_
  rintro e w1 ⟨r, rfl, hr, hb1⟩
  replace ba := ba.below hb1 (Nat.le_refl _)
  replace hB := hB.trans (hb1.mono (by simp))
  have hx1 := HX.out.below hb1 (Nat.le_refl _)
  replace hs0 := Nat.le_trans hs0 hb1.size
  clear HX
  have HX := Lib.hid hx1
  clear hb1 hx1
  by_cases hf : x.Fit
  · obtain rfl : r = true := hr.2 hf
    clear hr hf
    have ca0 := ba.cell 0 _ rfl
    have ca1 := ba.cell 1 _ rfl
    have ca2 := ba.cell 2 _ rfl
    have ca3 := ba.cell 3 _ rfl
    have ca4 := ba.cell 4 _ rfl
    have fa := ba.free
    go_wp2_with fail
    refine (awake_any _).mono ?_
    rintro e w2 ⟨rfl, hb2⟩
    have hBB := hB.trans (hb2.mono (by omega))
    clear hB hb2
    go_wp2
    go_ret
    exact ⟨rfl, hBB⟩
  · obtain rfl : r = false := by cases r with | false => rfl | true => exact absurd (hr.1 rfl) hf
    clear hr hf
    go_wp2_with fail
    refine (awake_any _).mono ?_
    rintro e w2 ⟨rfl, hb2⟩
    have hBB := hB.trans (hb2.mono (by omega))
    clear hB hb2
    go_wp2
    go_ret
    exact ⟨rfl, hBB⟩

set_option maxRecDepth 100000 in
set_option maxHeartbeats 12800000 in
theorem cuts_true (x : Nd) (hlf : x.leaf = true) (hsm : x.small) (ks vs ds : Value) (w : World) (hx : NodeAt w ks vs ds x) (n : Int) (hn : x.next = n) :
    Calls Try.prog 3 #[.agg #[.bool true, ks, vs, ds, .int .i64 n]] w fun e w' => e = .returned (.bool true) ∧ Below w.heap.size w w' := by
  obtain ⟨_, ⟨ka, kc, rfl, _⟩, _⟩ := id hx.keys
  obtain ⟨_, ⟨va, vc, rfl, _⟩, _⟩ := id hx.vals
  obtain ⟨da, dc, rfl⟩ := hx.kids.shape
  obtain ⟨nk, hnk⟩ : ∃ nk, x.keys.length = nk := ⟨_, rfl⟩
  obtain ⟨nv, hnv⟩ : ∃ nv, x.vals.length = nv := ⟨_, rfl⟩
  obtain ⟨nd, hnd⟩ : ∃ nd, x.kids.length = nd := ⟨_, rfl⟩
  have hk : nk ≤ 1048576 := hnk ▸ hsm.keys
  simp only [hnk, hnv, hnd] at hx ⊢
  obtain ⟨g, hg0⟩ : ∃ g, w.heap.size = g := ⟨_, rfl⟩
  have ba := Box.new w #[.bool true, .slice ka nk kc, .slice va nv vc, .slice da nd dc, .int .i64 n] 25 hg0.symm
  have hB := (Below.refl w.heap.size w).alloc (Nat.le_refl _) (.cells #[.bool true, .slice ka nk kc, .slice va nv vc, .slice da nd dc, .int .i64 n] 25)
  have hs0 : g + 1 ≤ (w.alloc (.cells #[.bool true, .slice ka nk kc, .slice va nv vc, .slice da nd dc, .int .i64 n] 25)).heap.size := by simp; omega
  have HG := Lib.hid hg0
  have HNK := Lib.hid hnk
  have HNV := Lib.hid hnv
  have HND := Lib.hid hnd
  have HX := Lib.hid (hx.below hB (Nat.le_refl _))
  have HLF := Lib.hid hlf
  have HN := Lib.hid hn
  clear hx hnk hnv hnd hg0 hlf hn
  have ca0 := ba.cell 0 _ rfl
  have ca1 := ba.cell 1 _ rfl
  have ca2 := ba.cell 2 _ rfl
  have ca3 := ba.cell 3 _ rfl
  have ca4 := ba.cell 4 _ rfl
  have fa := ba.free
  go_enter Try.func3, Try.ntmps3
  go_wp2_with fail
  clear ca0 ca1 ca2 ca3 ca4 fa
  have hgw : w.heap.size ≤ g := Nat.le_of_eq HG.out
  rw [HG.out]
  refine (lfit_any x hsm _ _ _ _ HX.out true n HLF.out HN.out).mono ?_
  rintro e w1 ⟨r, rfl, hr, hb1⟩
  replace ba := ba.below hb1 (Nat.le_refl _)
  replace hB := hB.trans (hb1.mono (by simp))
  have hx1 := HX.out.below hb1 (Nat.le_refl _)
  replace hs0 := Nat.le_trans hs0 hb1.size
  clear HX
  have HX := Lib.hid hx1
  clear hb1 hx1
  by_cases hf : x.Fit
  · obtain rfl : r = true := hr.2 hf
    have HF := Lib.hid hf
    clear hr hf
    by_cases hl : nk < 4
    · have dl : decide ((nk : Int) < 4) = true := by simp; omega
      have ca0 := ba.cell 0 _ rfl
      have ca1 := ba.cell 1 _ rfl
      have ca2 := ba.cell 2 _ rfl
      have ca3 := ba.cell 3 _ rfl
      have ca4 := ba.cell 4 _ rfl
      have fa := ba.free
      go_wp2_with fail
      refine (awake_any _).mono ?_
      rintro e w2 ⟨rfl, hb2⟩
      have hBB := hB.trans (hb2.mono (by omega))
      clear hB hb2
      go_wp2
      go_ret
      exact ⟨rfl, hBB⟩
    · have dl : decide ((nk : Int) < 4) = false := by simp; omega
      have HF1 := Lib.hid HF.out.fits
      have HL1 := Lib.hid (show 4 ≤ x.keys.length by rw [HNK.out]; omega)
      have hhl : x.keys.length / 2 < x.keys.length := by have := HL1.out; omega
      have HHL := Lib.hid hhl
      have HFA := Lib.hid (cutL_fits HF.out.fits hhl)
      have HFB := Lib.hid (cutR_fits HF.out.fits hhl)
      have lA : (x.cutL (x.keys.length / 2)).keys.length = nk / 2 := by rw [cutL_keys, List.length_take, HNK.out]; omega
      have lB : (x.cutR (x.keys.length / 2)).keys.length = nk - nk / 2 := by rw [cutR_keys, HLF.out, if_pos rfl, List.length_drop, HNK.out]
      have HLA := Lib.hid lA
      have HLB := Lib.hid lB
      have HF2 := HFA
      have HF3 := HFB
      have HL2 := Lib.hid (show 2 ≤ (x.cutL (x.keys.length / 2)).keys.length by rw [lA]; omega)
      have HL3 := Lib.hid (show 2 ≤ (x.cutR (x.keys.length / 2)).keys.length by rw [lB]; omega)
      clear hhl lA lB
      have ca0 := ba.cell 0 _ rfl
      have ca1 := ba.cell 1 _ rfl
      have ca2 := ba.cell 2 _ rfl
      have ca3 := ba.cell 3 _ rfl
      have ca4 := ba.cell 4 _ rfl
      have fa := ba.free
      go_wp2_with fail
      clear ca0 ca1 ca2 ca3 ca4 fa
      have hX := HX.out
      clear HX
      refine (split_small x _ _ _ _ hX hsm HF1.out (by have := HL1.out; omega) true n HLF.out HN.out).mono ?_
      rintro e w2 ⟨pa1, pa2, pa3, pa4, pa5, pa6, pa7, pa8, pa9, pb1, pb2, pb3, pb4, pb5, pb6, pb7, pb8, pb9, sk1, sk2, sk3, rfl, hpa, hpb, hsk, hlpa, hlpb, hbq⟩
      replace ba := ba.below hbq (Nat.le_refl _)
      replace hX := hX.below hbq (Nat.le_refl _)
      replace hB := hB.trans (hbq.mono (by have := hB.size; omega))
      replace hs0 := Nat.le_trans hs0 hbq.size
      have HLpa := Lib.hid hlpa
      have HLpb := Lib.hid hlpb
      clear hbq hlpa hlpb
      obtain ⟨g3, hg3⟩ : ∃ q, w2.heap.size = q := ⟨_, rfl⟩
      have n1 := (Box.new w2 #[.bool true, .slice pa1 pa2 pa3, .slice pa4 pa5 pa6, .slice pa7 pa8 pa9, .int .i64 0] 25 hg3.symm).alloc (.cells #[.bool true, .slice pb1 pb2 pb3, .slice pb4 pb5 pb6, .slice pb7 pb8 pb9, .int .i64 n] 25)
      have n2 := Box.new (w2.alloc (.cells #[.bool true, .slice pa1 pa2 pa3, .slice pa4 pa5 pa6, .slice pa7 pa8 pa9, .int .i64 0] 25)) #[.bool true, .slice pb1 pb2 pb3, .slice pb4 pb5 pb6, .slice pb7 pb8 pb9, .int .i64 n] 25 (g := g3 + 1) (by simp; omega)
      have hgr := ((Below.refl w2.heap.size w2).alloc (Nat.le_refl _) (.cells #[.bool true, .slice pa1 pa2 pa3, .slice pa4 pa5 pa6, .slice pa7 pa8 pa9, .int .i64 0] 25)).alloc (by simp) (.cells #[.bool true, .slice pb1 pb2 pb3, .slice pb4 pb5 pb6, .slice pb7 pb8 pb9, .int .i64 n] 25)
      have HG1 := Lib.hid hg3
      have lta := ba.lt
      have HW1 := Lib.hid (⟨ba.below hgr (Nat.le_refl _), n1, n2, hB.trans (hgr.mono (by have := hB.size; omega)), hX.below hgr (Nat.le_refl _), hpa.below hgr (Nat.le_refl _), hpb.below hgr (Nat.le_refl _), hsk.below hgr (Nat.le_refl _), by simp; omega⟩ : Box ((w2.alloc (.cells #[.bool true, .slice pa1 pa2 pa3, .slice pa4 pa5 pa6, .slice pa7 pa8 pa9, .int .i64 0] 25)).alloc (.cells #[.bool true, .slice pb1 pb2 pb3, .slice pb4 pb5 pb6, .slice pb7 pb8 pb9, .int .i64 n] 25)) g [.bool true, .slice ka nk kc, .slice va nv vc, .slice da nd dc, .int .i64 n] ∧ Box ((w2.alloc (.cells #[.bool true, .slice pa1 pa2 pa3, .slice pa4 pa5 pa6, .slice pa7 pa8 pa9, .int .i64 0] 25)).alloc (.cells #[.bool true, .slice pb1 pb2 pb3, .slice pb4 pb5 pb6, .slice pb7 pb8 pb9, .int .i64 n] 25)) g3 [.bool true, .slice pa1 pa2 pa3, .slice pa4 pa5 pa6, .slice pa7 pa8 pa9, .int .i64 0] ∧ Box ((w2.alloc (.cells #[.bool true, .slice pa1 pa2 pa3, .slice pa4 pa5 pa6, .slice pa7 pa8 pa9, .int .i64 0] 25)).alloc (.cells #[.bool true, .slice pb1 pb2 pb3, .slice pb4 pb5 pb6, .slice pb7 pb8 pb9, .int .i64 n] 25)) (g3 + 1) [.bool true, .slice pb1 pb2 pb3, .slice pb4 pb5 pb6, .slice pb7 pb8 pb9, .int .i64 n] ∧ Below w.heap.size w ((w2.alloc (.cells #[.bool true, .slice pa1 pa2 pa3, .slice pa4 pa5 pa6, .slice pa7 pa8 pa9, .int .i64 0] 25)).alloc (.cells #[.bool true, .slice pb1 pb2 pb3, .slice pb4 pb5 pb6, .slice pb7 pb8 pb9, .int .i64 n] 25)) ∧ NodeAt ((w2.alloc (.cells #[.bool true, .slice pa1 pa2 pa3, .slice pa4 pa5 pa6, .slice pa7 pa8 pa9, .int .i64 0] 25)).alloc (.cells #[.bool true, .slice pb1 pb2 pb3, .slice pb4 pb5 pb6, .slice pb7 pb8 pb9, .int .i64 n] 25)) (.slice ka nk kc) (.slice va nv vc) (.slice da nd dc)  x ∧ NodeAt ((w2.alloc (.cells #[.bool true, .slice pa1 pa2 pa3, .slice pa4 pa5 pa6, .slice pa7 pa8 pa9, .int .i64 0] 25)).alloc (.cells #[.bool true, .slice pb1 pb2 pb3, .slice pb4 pb5 pb6, .slice pb7 pb8 pb9, .int .i64 n] 25)) (.slice pa1 pa2 pa3) (.slice pa4 pa5 pa6) (.slice pa7 pa8 pa9) (x.cutL (x.keys.length / 2)) ∧ NodeAt ((w2.alloc (.cells #[.bool true, .slice pa1 pa2 pa3, .slice pa4 pa5 pa6, .slice pa7 pa8 pa9, .int .i64 0] 25)).alloc (.cells #[.bool true, .slice pb1 pb2 pb3, .slice pb4 pb5 pb6, .slice pb7 pb8 pb9, .int .i64 n] 25)) (.slice pb1 pb2 pb3) (.slice pb4 pb5 pb6) (.slice pb7 pb8 pb9) (x.cutR (x.keys.length / 2)) ∧ Reads 1 ((w2.alloc (.cells #[.bool true, .slice pa1 pa2 pa3, .slice pa4 pa5 pa6, .slice pa7 pa8 pa9, .int .i64 0] 25)).alloc (.cells #[.bool true, .slice pb1 pb2 pb3, .slice pb4 pb5 pb6, .slice pb7 pb8 pb9, .int .i64 n] 25)) (.slice sk1 sk2 sk3) (x.keys.getD (x.keys.length / 2) []).length ((x.keys.getD (x.keys.length / 2) []).map B) ∧ g3 + 2 ≤ ((w2.alloc (.cells #[.bool true, .slice pa1 pa2 pa3, .slice pa4 pa5 pa6, .slice pa7 pa8 pa9, .int .i64 0] 25)).alloc (.cells #[.bool true, .slice pb1 pb2 pb3, .slice pb4 pb5 pb6, .slice pb7 pb8 pb9, .int .i64 n] 25)).heap.size)
      clear n1 n2 hgr hg3 hB hs0 hX  hpa hpb hsk
      have ca0 := ba.cell 0 _ rfl
      have ca1 := ba.cell 1 _ rfl
      have ca2 := ba.cell 2 _ rfl
      have ca3 := ba.cell 3 _ rfl
      have ca4 := ba.cell 4 _ rfl
      have fa := ba.free
      go_wp2_with fail
      clear ca0 ca1 ca2 ca3 ca4 fa
      rw [HG1.out]
      clear ba lta
      refine calls_world (fun u => Box u g [.bool true, .slice ka nk kc, .slice va nv vc, .slice da nd dc, .int .i64 n] ∧ Box u g3 [.bool true, .slice pa1 pa2 pa3, .slice pa4 pa5 pa6, .slice pa7 pa8 pa9, .int .i64 0] ∧ Box u (g3 + 1) [.bool true, .slice pb1 pb2 pb3, .slice pb4 pb5 pb6, .slice pb7 pb8 pb9, .int .i64 n] ∧ Below w.heap.size w u ∧ NodeAt u (.slice ka nk kc) (.slice va nv vc) (.slice da nd dc)  x ∧ NodeAt u (.slice pa1 pa2 pa3) (.slice pa4 pa5 pa6) (.slice pa7 pa8 pa9) (x.cutL (x.keys.length / 2)) ∧ NodeAt u (.slice pb1 pb2 pb3) (.slice pb4 pb5 pb6) (.slice pb7 pb8 pb9) (x.cutR (x.keys.length / 2)) ∧ Reads 1 u (.slice sk1 sk2 sk3) (x.keys.getD (x.keys.length / 2) []).length ((x.keys.getD (x.keys.length / 2) []).map B) ∧ g3 + 2 ≤ u.heap.size) HW1.out ?_
      clear HW1
      rintro w2_ ⟨ba, bpa, bpb, hB, hX, hpa, hpb, hsk, hs0⟩
      refine (split_small (x.cutL (x.keys.length / 2)) _ _ _ _ hpa (hsm.cutL _) HF2.out (by have := HL2.out; omega) true 0 (by rw [cutL_leaf, HLF.out]) (cutL_next _ _)).mono ?_
      rintro e w3 ⟨pc1, pc2, pc3, pc4, pc5, pc6, pc7, pc8, pc9, pd1, pd2, pd3, pd4, pd5, pd6, pd7, pd8, pd9, sl1, sl2, sl3, rfl, hpc, hpd, hsl, hlpc, hlpd, hbq⟩
      replace ba := ba.below hbq (Nat.le_refl _)
      replace bpa := bpa.below hbq (Nat.le_refl _)
      replace bpb := bpb.below hbq (Nat.le_refl _)
      replace hX := hX.below hbq (Nat.le_refl _)
      replace hpb := hpb.below hbq (Nat.le_refl _)
      replace hsk := hsk.below hbq (Nat.le_refl _)
      replace hB := hB.trans (hbq.mono (by have := hB.size; omega))
      replace hs0 := Nat.le_trans hs0 hbq.size
      have HLpc := Lib.hid hlpc
      have HLpd := Lib.hid hlpd
      clear hbq hlpc hlpd
      obtain ⟨g6, hg6⟩ : ∃ q, w3.heap.size = q := ⟨_, rfl⟩
      have n1 := (Box.new w3 #[.bool true, .slice pc1 pc2 pc3, .slice pc4 pc5 pc6, .slice pc7 pc8 pc9, .int .i64 0] 25 hg6.symm).alloc (.cells #[.bool true, .slice pd1 pd2 pd3, .slice pd4 pd5 pd6, .slice pd7 pd8 pd9, .int .i64 0] 25)
      have n2 := Box.new (w3.alloc (.cells #[.bool true, .slice pc1 pc2 pc3, .slice pc4 pc5 pc6, .slice pc7 pc8 pc9, .int .i64 0] 25)) #[.bool true, .slice pd1 pd2 pd3, .slice pd4 pd5 pd6, .slice pd7 pd8 pd9, .int .i64 0] 25 (g := g6 + 1) (by simp; omega)
      have hgr := ((Below.refl w3.heap.size w3).alloc (Nat.le_refl _) (.cells #[.bool true, .slice pc1 pc2 pc3, .slice pc4 pc5 pc6, .slice pc7 pc8 pc9, .int .i64 0] 25)).alloc (by simp) (.cells #[.bool true, .slice pd1 pd2 pd3, .slice pd4 pd5 pd6, .slice pd7 pd8 pd9, .int .i64 0] 25)
      have HG2 := Lib.hid hg6
      have lta := ba.lt
      have ltpa := bpa.lt
      have ltpb := bpb.lt
      have HW2 := Lib.hid (⟨ba.below hgr (Nat.le_refl _), bpa.below hgr (Nat.le_refl _), bpb.below hgr (Nat.le_refl _), n1, n2, hB.trans (hgr.mono (by have := hB.size; omega)), hX.below hgr (Nat.le_refl _), hpb.below hgr (Nat.le_refl _), hpc.below hgr (Nat.le_refl _), hpd.below hgr (Nat.le_refl _), hsk.below hgr (Nat.le_refl _), hsl.below hgr (Nat.le_refl _), by simp; omega⟩ : Box ((w3.alloc (.cells #[.bool true, .slice pc1 pc2 pc3, .slice pc4 pc5 pc6, .slice pc7 pc8 pc9, .int .i64 0] 25)).alloc (.cells #[.bool true, .slice pd1 pd2 pd3, .slice pd4 pd5 pd6, .slice pd7 pd8 pd9, .int .i64 0] 25)) g [.bool true, .slice ka nk kc, .slice va nv vc, .slice da nd dc, .int .i64 n] ∧ Box ((w3.alloc (.cells #[.bool true, .slice pc1 pc2 pc3, .slice pc4 pc5 pc6, .slice pc7 pc8 pc9, .int .i64 0] 25)).alloc (.cells #[.bool true, .slice pd1 pd2 pd3, .slice pd4 pd5 pd6, .slice pd7 pd8 pd9, .int .i64 0] 25)) g3 [.bool true, .slice pa1 pa2 pa3, .slice pa4 pa5 pa6, .slice pa7 pa8 pa9, .int .i64 0] ∧ Box ((w3.alloc (.cells #[.bool true, .slice pc1 pc2 pc3, .slice pc4 pc5 pc6, .slice pc7 pc8 pc9, .int .i64 0] 25)).alloc (.cells #[.bool true, .slice pd1 pd2 pd3, .slice pd4 pd5 pd6, .slice pd7 pd8 pd9, .int .i64 0] 25)) (g3 + 1) [.bool true, .slice pb1 pb2 pb3, .slice pb4 pb5 pb6, .slice pb7 pb8 pb9, .int .i64 n] ∧ Box ((w3.alloc (.cells #[.bool true, .slice pc1 pc2 pc3, .slice pc4 pc5 pc6, .slice pc7 pc8 pc9, .int .i64 0] 25)).alloc (.cells #[.bool true, .slice pd1 pd2 pd3, .slice pd4 pd5 pd6, .slice pd7 pd8 pd9, .int .i64 0] 25)) g6 [.bool true, .slice pc1 pc2 pc3, .slice pc4 pc5 pc6, .slice pc7 pc8 pc9, .int .i64 0] ∧ Box ((w3.alloc (.cells #[.bool true, .slice pc1 pc2 pc3, .slice pc4 pc5 pc6, .slice pc7 pc8 pc9, .int .i64 0] 25)).alloc (.cells #[.bool true, .slice pd1 pd2 pd3, .slice pd4 pd5 pd6, .slice pd7 pd8 pd9, .int .i64 0] 25)) (g6 + 1) [.bool true, .slice pd1 pd2 pd3, .slice pd4 pd5 pd6, .slice pd7 pd8 pd9, .int .i64 0] ∧ Below w.heap.size w ((w3.alloc (.cells #[.bool true, .slice pc1 pc2 pc3, .slice pc4 pc5 pc6, .slice pc7 pc8 pc9, .int .i64 0] 25)).alloc (.cells #[.bool true, .slice pd1 pd2 pd3, .slice pd4 pd5 pd6, .slice pd7 pd8 pd9, .int .i64 0] 25)) ∧ NodeAt ((w3.alloc (.cells #[.bool true, .slice pc1 pc2 pc3, .slice pc4 pc5 pc6, .slice pc7 pc8 pc9, .int .i64 0] 25)).alloc (.cells #[.bool true, .slice pd1 pd2 pd3, .slice pd4 pd5 pd6, .slice pd7 pd8 pd9, .int .i64 0] 25)) (.slice ka nk kc) (.slice va nv vc) (.slice da nd dc)  x ∧ NodeAt ((w3.alloc (.cells #[.bool true, .slice pc1 pc2 pc3, .slice pc4 pc5 pc6, .slice pc7 pc8 pc9, .int .i64 0] 25)).alloc (.cells #[.bool true, .slice pd1 pd2 pd3, .slice pd4 pd5 pd6, .slice pd7 pd8 pd9, .int .i64 0] 25)) (.slice pb1 pb2 pb3) (.slice pb4 pb5 pb6) (.slice pb7 pb8 pb9) (x.cutR (x.keys.length / 2)) ∧ NodeAt ((w3.alloc (.cells #[.bool true, .slice pc1 pc2 pc3, .slice pc4 pc5 pc6, .slice pc7 pc8 pc9, .int .i64 0] 25)).alloc (.cells #[.bool true, .slice pd1 pd2 pd3, .slice pd4 pd5 pd6, .slice pd7 pd8 pd9, .int .i64 0] 25)) (.slice pc1 pc2 pc3) (.slice pc4 pc5 pc6) (.slice pc7 pc8 pc9) ((x.cutL (x.keys.length / 2)).cutL ((x.cutL (x.keys.length / 2)).keys.length / 2)) ∧ NodeAt ((w3.alloc (.cells #[.bool true, .slice pc1 pc2 pc3, .slice pc4 pc5 pc6, .slice pc7 pc8 pc9, .int .i64 0] 25)).alloc (.cells #[.bool true, .slice pd1 pd2 pd3, .slice pd4 pd5 pd6, .slice pd7 pd8 pd9, .int .i64 0] 25)) (.slice pd1 pd2 pd3) (.slice pd4 pd5 pd6) (.slice pd7 pd8 pd9) ((x.cutL (x.keys.length / 2)).cutR ((x.cutL (x.keys.length / 2)).keys.length / 2)) ∧ Reads 1 ((w3.alloc (.cells #[.bool true, .slice pc1 pc2 pc3, .slice pc4 pc5 pc6, .slice pc7 pc8 pc9, .int .i64 0] 25)).alloc (.cells #[.bool true, .slice pd1 pd2 pd3, .slice pd4 pd5 pd6, .slice pd7 pd8 pd9, .int .i64 0] 25)) (.slice sk1 sk2 sk3) (x.keys.getD (x.keys.length / 2) []).length ((x.keys.getD (x.keys.length / 2) []).map B) ∧ Reads 1 ((w3.alloc (.cells #[.bool true, .slice pc1 pc2 pc3, .slice pc4 pc5 pc6, .slice pc7 pc8 pc9, .int .i64 0] 25)).alloc (.cells #[.bool true, .slice pd1 pd2 pd3, .slice pd4 pd5 pd6, .slice pd7 pd8 pd9, .int .i64 0] 25)) (.slice sl1 sl2 sl3) ((x.cutL (x.keys.length / 2)).keys.getD ((x.cutL (x.keys.length / 2)).keys.length / 2) []).length (((x.cutL (x.keys.length / 2)).keys.getD ((x.cutL (x.keys.length / 2)).keys.length / 2) []).map B) ∧ g6 + 2 ≤ ((w3.alloc (.cells #[.bool true, .slice pc1 pc2 pc3, .slice pc4 pc5 pc6, .slice pc7 pc8 pc9, .int .i64 0] 25)).alloc (.cells #[.bool true, .slice pd1 pd2 pd3, .slice pd4 pd5 pd6, .slice pd7 pd8 pd9, .int .i64 0] 25)).heap.size)
      clear n1 n2 hgr hg6 hB hs0 hX hpb hsk hpc hpd hsl
      have ca0 := ba.cell 0 _ rfl
      have ca1 := ba.cell 1 _ rfl
      have ca2 := ba.cell 2 _ rfl
      have ca3 := ba.cell 3 _ rfl
      have ca4 := ba.cell 4 _ rfl
      have fa := ba.free
      have cpa0 := bpa.cell 0 _ rfl
      have cpa1 := bpa.cell 1 _ rfl
      have cpa2 := bpa.cell 2 _ rfl
      have cpa3 := bpa.cell 3 _ rfl
      have cpa4 := bpa.cell 4 _ rfl
      have fpa := bpa.free
      have cpb0 := bpb.cell 0 _ rfl
      have cpb1 := bpb.cell 1 _ rfl
      have cpb2 := bpb.cell 2 _ rfl
      have cpb3 := bpb.cell 3 _ rfl
      have cpb4 := bpb.cell 4 _ rfl
      have fpb := bpb.free
      go_wp2_with fail
      clear ca0 ca1 ca2 ca3 ca4 fa
      clear cpa0 cpa1 cpa2 cpa3 cpa4 fpa
      clear cpb0 cpb1 cpb2 cpb3 cpb4 fpb
      rw [HG2.out]
      clear ba bpa bpb lta ltpa ltpb
      refine calls_world (fun u => Box u g [.bool true, .slice ka nk kc, .slice va nv vc, .slice da nd dc, .int .i64 n] ∧ Box u g3 [.bool true, .slice pa1 pa2 pa3, .slice pa4 pa5 pa6, .slice pa7 pa8 pa9, .int .i64 0] ∧ Box u (g3 + 1) [.bool true, .slice pb1 pb2 pb3, .slice pb4 pb5 pb6, .slice pb7 pb8 pb9, .int .i64 n] ∧ Box u g6 [.bool true, .slice pc1 pc2 pc3, .slice pc4 pc5 pc6, .slice pc7 pc8 pc9, .int .i64 0] ∧ Box u (g6 + 1) [.bool true, .slice pd1 pd2 pd3, .slice pd4 pd5 pd6, .slice pd7 pd8 pd9, .int .i64 0] ∧ Below w.heap.size w u ∧ NodeAt u (.slice ka nk kc) (.slice va nv vc) (.slice da nd dc)  x ∧ NodeAt u (.slice pb1 pb2 pb3) (.slice pb4 pb5 pb6) (.slice pb7 pb8 pb9) (x.cutR (x.keys.length / 2)) ∧ NodeAt u (.slice pc1 pc2 pc3) (.slice pc4 pc5 pc6) (.slice pc7 pc8 pc9) ((x.cutL (x.keys.length / 2)).cutL ((x.cutL (x.keys.length / 2)).keys.length / 2)) ∧ NodeAt u (.slice pd1 pd2 pd3) (.slice pd4 pd5 pd6) (.slice pd7 pd8 pd9) ((x.cutL (x.keys.length / 2)).cutR ((x.cutL (x.keys.length / 2)).keys.length / 2)) ∧ Reads 1 u (.slice sk1 sk2 sk3) (x.keys.getD (x.keys.length / 2) []).length ((x.keys.getD (x.keys.length / 2) []).map B) ∧ Reads 1 u (.slice sl1 sl2 sl3) ((x.cutL (x.keys.length / 2)).keys.getD ((x.cutL (x.keys.length / 2)).keys.length / 2) []).length (((x.cutL (x.keys.length / 2)).keys.getD ((x.cutL (x.keys.length / 2)).keys.length / 2) []).map B) ∧ g6 + 2 ≤ u.heap.size) HW2.out ?_
      clear HW2
      rintro w3_ ⟨ba, bpa, bpb, bpc, bpd, hB, hX, hpb, hpc, hpd, hsk, hsl, hs0⟩
      refine (split_small (x.cutR (x.keys.length / 2)) _ _ _ _ hpb (hsm.cutR _) HF3.out (by have := HL3.out; omega) true n (by rw [cutR_leaf, HLF.out]) (by rw [cutR_next, HN.out])).mono ?_
      rintro e w4 ⟨pe1, pe2, pe3, pe4, pe5, pe6, pe7, pe8, pe9, pf1, pf2, pf3, pf4, pf5, pf6, pf7, pf8, pf9, sn1, sn2, sn3, rfl, hpe, hpf, hsn, hlpe, hlpf, hbq⟩
      replace ba := ba.below hbq (Nat.le_refl _)
      replace bpc := bpc.below hbq (Nat.le_refl _)
      replace bpd := bpd.below hbq (Nat.le_refl _)
      replace hX := hX.below hbq (Nat.le_refl _)
      replace hpc := hpc.below hbq (Nat.le_refl _)
      replace hpd := hpd.below hbq (Nat.le_refl _)
      replace hsk := hsk.below hbq (Nat.le_refl _)
      replace hsl := hsl.below hbq (Nat.le_refl _)
      replace hB := hB.trans (hbq.mono (by have := hB.size; omega))
      replace hs0 := Nat.le_trans hs0 hbq.size
      have HLpe := Lib.hid hlpe
      have HLpf := Lib.hid hlpf
      clear hbq hlpe hlpf
      obtain ⟨g9, hg9⟩ : ∃ q, w4.heap.size = q := ⟨_, rfl⟩
      have n1 := (Box.new w4 #[.bool true, .slice pe1 pe2 pe3, .slice pe4 pe5 pe6, .slice pe7 pe8 pe9, .int .i64 0] 25 hg9.symm).alloc (.cells #[.bool true, .slice pf1 pf2 pf3, .slice pf4 pf5 pf6, .slice pf7 pf8 pf9, .int .i64 n] 25)
      have n2 := Box.new (w4.alloc (.cells #[.bool true, .slice pe1 pe2 pe3, .slice pe4 pe5 pe6, .slice pe7 pe8 pe9, .int .i64 0] 25)) #[.bool true, .slice pf1 pf2 pf3, .slice pf4 pf5 pf6, .slice pf7 pf8 pf9, .int .i64 n] 25 (g := g9 + 1) (by simp; omega)
      have hgr := ((Below.refl w4.heap.size w4).alloc (Nat.le_refl _) (.cells #[.bool true, .slice pe1 pe2 pe3, .slice pe4 pe5 pe6, .slice pe7 pe8 pe9, .int .i64 0] 25)).alloc (by simp) (.cells #[.bool true, .slice pf1 pf2 pf3, .slice pf4 pf5 pf6, .slice pf7 pf8 pf9, .int .i64 n] 25)
      have HG3 := Lib.hid hg9
      have lta := ba.lt
      have ltpc := bpc.lt
      have ltpd := bpd.lt
      have HW3 := Lib.hid (⟨ba.below hgr (Nat.le_refl _), bpc.below hgr (Nat.le_refl _), bpd.below hgr (Nat.le_refl _), n1, n2, hB.trans (hgr.mono (by have := hB.size; omega)), hX.below hgr (Nat.le_refl _), hpc.below hgr (Nat.le_refl _), hpd.below hgr (Nat.le_refl _), hpe.below hgr (Nat.le_refl _), hpf.below hgr (Nat.le_refl _), hsk.below hgr (Nat.le_refl _), hsl.below hgr (Nat.le_refl _), hsn.below hgr (Nat.le_refl _), by simp; omega⟩ : Box ((w4.alloc (.cells #[.bool true, .slice pe1 pe2 pe3, .slice pe4 pe5 pe6, .slice pe7 pe8 pe9, .int .i64 0] 25)).alloc (.cells #[.bool true, .slice pf1 pf2 pf3, .slice pf4 pf5 pf6, .slice pf7 pf8 pf9, .int .i64 n] 25)) g [.bool true, .slice ka nk kc, .slice va nv vc, .slice da nd dc, .int .i64 n] ∧ Box ((w4.alloc (.cells #[.bool true, .slice pe1 pe2 pe3, .slice pe4 pe5 pe6, .slice pe7 pe8 pe9, .int .i64 0] 25)).alloc (.cells #[.bool true, .slice pf1 pf2 pf3, .slice pf4 pf5 pf6, .slice pf7 pf8 pf9, .int .i64 n] 25)) g6 [.bool true, .slice pc1 pc2 pc3, .slice pc4 pc5 pc6, .slice pc7 pc8 pc9, .int .i64 0] ∧ Box ((w4.alloc (.cells #[.bool true, .slice pe1 pe2 pe3, .slice pe4 pe5 pe6, .slice pe7 pe8 pe9, .int .i64 0] 25)).alloc (.cells #[.bool true, .slice pf1 pf2 pf3, .slice pf4 pf5 pf6, .slice pf7 pf8 pf9, .int .i64 n] 25)) (g6 + 1) [.bool true, .slice pd1 pd2 pd3, .slice pd4 pd5 pd6, .slice pd7 pd8 pd9, .int .i64 0] ∧ Box ((w4.alloc (.cells #[.bool true, .slice pe1 pe2 pe3, .slice pe4 pe5 pe6, .slice pe7 pe8 pe9, .int .i64 0] 25)).alloc (.cells #[.bool true, .slice pf1 pf2 pf3, .slice pf4 pf5 pf6, .slice pf7 pf8 pf9, .int .i64 n] 25)) g9 [.bool true, .slice pe1 pe2 pe3, .slice pe4 pe5 pe6, .slice pe7 pe8 pe9, .int .i64 0] ∧ Box ((w4.alloc (.cells #[.bool true, .slice pe1 pe2 pe3, .slice pe4 pe5 pe6, .slice pe7 pe8 pe9, .int .i64 0] 25)).alloc (.cells #[.bool true, .slice pf1 pf2 pf3, .slice pf4 pf5 pf6, .slice pf7 pf8 pf9, .int .i64 n] 25)) (g9 + 1) [.bool true, .slice pf1 pf2 pf3, .slice pf4 pf5 pf6, .slice pf7 pf8 pf9, .int .i64 n] ∧ Below w.heap.size w ((w4.alloc (.cells #[.bool true, .slice pe1 pe2 pe3, .slice pe4 pe5 pe6, .slice pe7 pe8 pe9, .int .i64 0] 25)).alloc (.cells #[.bool true, .slice pf1 pf2 pf3, .slice pf4 pf5 pf6, .slice pf7 pf8 pf9, .int .i64 n] 25)) ∧ NodeAt ((w4.alloc (.cells #[.bool true, .slice pe1 pe2 pe3, .slice pe4 pe5 pe6, .slice pe7 pe8 pe9, .int .i64 0] 25)).alloc (.cells #[.bool true, .slice pf1 pf2 pf3, .slice pf4 pf5 pf6, .slice pf7 pf8 pf9, .int .i64 n] 25)) (.slice ka nk kc) (.slice va nv vc) (.slice da nd dc)  x ∧ NodeAt ((w4.alloc (.cells #[.bool true, .slice pe1 pe2 pe3, .slice pe4 pe5 pe6, .slice pe7 pe8 pe9, .int .i64 0] 25)).alloc (.cells #[.bool true, .slice pf1 pf2 pf3, .slice pf4 pf5 pf6, .slice pf7 pf8 pf9, .int .i64 n] 25)) (.slice pc1 pc2 pc3) (.slice pc4 pc5 pc6) (.slice pc7 pc8 pc9) ((x.cutL (x.keys.length / 2)).cutL ((x.cutL (x.keys.length / 2)).keys.length / 2)) ∧ NodeAt ((w4.alloc (.cells #[.bool true, .slice pe1 pe2 pe3, .slice pe4 pe5 pe6, .slice pe7 pe8 pe9, .int .i64 0] 25)).alloc (.cells #[.bool true, .slice pf1 pf2 pf3, .slice pf4 pf5 pf6, .slice pf7 pf8 pf9, .int .i64 n] 25)) (.slice pd1 pd2 pd3) (.slice pd4 pd5 pd6) (.slice pd7 pd8 pd9) ((x.cutL (x.keys.length / 2)).cutR ((x.cutL (x.keys.length / 2)).keys.length / 2)) ∧ NodeAt ((w4.alloc (.cells #[.bool true, .slice pe1 pe2 pe3, .slice pe4 pe5 pe6, .slice pe7 pe8 pe9, .int .i64 0] 25)).alloc (.cells #[.bool true, .slice pf1 pf2 pf3, .slice pf4 pf5 pf6, .slice pf7 pf8 pf9, .int .i64 n] 25)) (.slice pe1 pe2 pe3) (.slice pe4 pe5 pe6) (.slice pe7 pe8 pe9) ((x.cutR (x.keys.length / 2)).cutL ((x.cutR (x.keys.length / 2)).keys.length / 2)) ∧ NodeAt ((w4.alloc (.cells #[.bool true, .slice pe1 pe2 pe3, .slice pe4 pe5 pe6, .slice pe7 pe8 pe9, .int .i64 0] 25)).alloc (.cells #[.bool true, .slice pf1 pf2 pf3, .slice pf4 pf5 pf6, .slice pf7 pf8 pf9, .int .i64 n] 25)) (.slice pf1 pf2 pf3) (.slice pf4 pf5 pf6) (.slice pf7 pf8 pf9) ((x.cutR (x.keys.length / 2)).cutR ((x.cutR (x.keys.length / 2)).keys.length / 2)) ∧ Reads 1 ((w4.alloc (.cells #[.bool true, .slice pe1 pe2 pe3, .slice pe4 pe5 pe6, .slice pe7 pe8 pe9, .int .i64 0] 25)).alloc (.cells #[.bool true, .slice pf1 pf2 pf3, .slice pf4 pf5 pf6, .slice pf7 pf8 pf9, .int .i64 n] 25)) (.slice sk1 sk2 sk3) (x.keys.getD (x.keys.length / 2) []).length ((x.keys.getD (x.keys.length / 2) []).map B) ∧ Reads 1 ((w4.alloc (.cells #[.bool true, .slice pe1 pe2 pe3, .slice pe4 pe5 pe6, .slice pe7 pe8 pe9, .int .i64 0] 25)).alloc (.cells #[.bool true, .slice pf1 pf2 pf3, .slice pf4 pf5 pf6, .slice pf7 pf8 pf9, .int .i64 n] 25)) (.slice sl1 sl2 sl3) ((x.cutL (x.keys.length / 2)).keys.getD ((x.cutL (x.keys.length / 2)).keys.length / 2) []).length (((x.cutL (x.keys.length / 2)).keys.getD ((x.cutL (x.keys.length / 2)).keys.length / 2) []).map B) ∧ Reads 1 ((w4.alloc (.cells #[.bool true, .slice pe1 pe2 pe3, .slice pe4 pe5 pe6, .slice pe7 pe8 pe9, .int .i64 0] 25)).alloc (.cells #[.bool true, .slice pf1 pf2 pf3, .slice pf4 pf5 pf6, .slice pf7 pf8 pf9, .int .i64 n] 25)) (.slice sn1 sn2 sn3) ((x.cutR (x.keys.length / 2)).keys.getD ((x.cutR (x.keys.length / 2)).keys.length / 2) []).length (((x.cutR (x.keys.length / 2)).keys.getD ((x.cutR (x.keys.length / 2)).keys.length / 2) []).map B) ∧ g9 + 2 ≤ ((w4.alloc (.cells #[.bool true, .slice pe1 pe2 pe3, .slice pe4 pe5 pe6, .slice pe7 pe8 pe9, .int .i64 0] 25)).alloc (.cells #[.bool true, .slice pf1 pf2 pf3, .slice pf4 pf5 pf6, .slice pf7 pf8 pf9, .int .i64 n] 25)).heap.size)
      have cvk := run_str_reads (P := Try.prog) (src := 28) (dst := 9) Try.underlying28 Try.underlying5 Try.underlying9 _ (hsk.below hgr (Nat.le_refl _))
      have cvl := run_str_reads (P := Try.prog) (src := 28) (dst := 9) Try.underlying28 Try.underlying5 Try.underlying9 _ (hsl.below hgr (Nat.le_refl _))
      have cvn := run_str_reads (P := Try.prog) (src := 28) (dst := 9) Try.underlying28 Try.underlying5 Try.underlying9 _ (hsn.below hgr (Nat.le_refl _))
      obtain ⟨tk, htk⟩ : ∃ t, x.keys.getD (x.keys.length / 2) [] = t := ⟨_, rfl⟩
      obtain ⟨tl, htl⟩ : ∃ t, ((x.cutL (x.keys.length / 2)).keys.getD ((x.cutL (x.keys.length / 2)).keys.length / 2) []) = t := ⟨_, rfl⟩
      obtain ⟨tm, htm⟩ : ∃ t, ((x.cutR (x.keys.length / 2)).keys.getD ((x.cutR (x.keys.length / 2)).keys.length / 2) []) = t := ⟨_, rfl⟩
      have hj : x.keys.length / 2 + (x.cutR (x.keys.length / 2)).keys.length / 2 < x.keys.length := by rw [HLB.out, HNK.out]; omega
      have elk : Op.bytesLess tl tk = true := by
        rw [← htl, ← htk, cutL_keys, List.length_take]
        have := getD_lt (K := x.keys) HF.out.1 (i := min (x.keys.length / 2) x.keys.length / 2) (j := x.keys.length / 2) (by have := HL1.out; omega) (by have := HL1.out; omega)
        rw [show (List.take (x.keys.length / 2) x.keys).getD (min (x.keys.length / 2) x.keys.length / 2) [] = x.keys.getD (min (x.keys.length / 2) x.keys.length / 2) [] by
          rw [List.getD_eq_getElem?_getD, List.getD_eq_getElem?_getD, List.getElem?_take, if_pos (by have := HL1.out; omega)]]
        exact this
      have ekm : Op.bytesLess tk tm = true := by
        rw [← htm, ← htk]
        have := getD_lt (K := x.keys) HF.out.1 (i := x.keys.length / 2) (j := x.keys.length / 2 + (x.cutR (x.keys.length / 2)).keys.length / 2) (by have := HL3.out; omega) hj
        rw [show ((x.cutR (x.keys.length / 2)).keys.getD ((x.cutR (x.keys.length / 2)).keys.length / 2) []) = x.keys.getD (x.keys.length / 2 + (x.cutR (x.keys.length / 2)).keys.length / 2) [] by
          rw [cutR_keys, HLF.out, if_pos rfl, List.getD_eq_getElem?_getD, List.getD_eq_getElem?_getD, List.getElem?_drop]]
        exact this
      have esum : (wrap64 (wrap64 (wrap64 ((pc2 : Int) + (pd2 : Int)) + (pe2 : Int)) + (pf2 : Int)) != (nk : Int)) = false := by
        refine wrap4 ?_ (by omega)
        rw [HLpc.out, HLpd.out, HLpe.out, HLpf.out]
        simp only [cutL_keys, cutR_keys, cutL_leaf, cutR_leaf, HLF.out, if_true, List.length_take, List.length_drop]
        have := HNK.out
        omega
      have HJ := Lib.hid hj
      simp only [htk] at cvk
      simp only [htl] at cvl
      simp only [htm] at cvn
      clear hj htk htl htm
      clear n1 n2 hgr hg9 hB hs0 hX hpc hpd hsk hsl hpe hpf hsn
      have ca0 := ba.cell 0 _ rfl
      have ca1 := ba.cell 1 _ rfl
      have ca2 := ba.cell 2 _ rfl
      have ca3 := ba.cell 3 _ rfl
      have ca4 := ba.cell 4 _ rfl
      have fa := ba.free
      have cpc0 := bpc.cell 0 _ rfl
      have cpc1 := bpc.cell 1 _ rfl
      have cpc2 := bpc.cell 2 _ rfl
      have cpc3 := bpc.cell 3 _ rfl
      have cpc4 := bpc.cell 4 _ rfl
      have fpc := bpc.free
      have cpd0 := bpd.cell 0 _ rfl
      have cpd1 := bpd.cell 1 _ rfl
      have cpd2 := bpd.cell 2 _ rfl
      have cpd3 := bpd.cell 3 _ rfl
      have cpd4 := bpd.cell 4 _ rfl
      have fpd := bpd.free
      go_wp2_with fail
      clear ca0 ca1 ca2 ca3 ca4 fa
      clear cpc0 cpc1 cpc2 cpc3 cpc4 fpc
      clear cpd0 cpd1 cpd2 cpd3 cpd4 fpd
      rw [HG3.out]
      clear cvk cvl cvn elk ekm esum
      clear ba bpc bpd lta ltpc ltpd
      refine wp_world (fun u => Box u g [.bool true, .slice ka nk kc, .slice va nv vc, .slice da nd dc, .int .i64 n] ∧ Box u g6 [.bool true, .slice pc1 pc2 pc3, .slice pc4 pc5 pc6, .slice pc7 pc8 pc9, .int .i64 0] ∧ Box u (g6 + 1) [.bool true, .slice pd1 pd2 pd3, .slice pd4 pd5 pd6, .slice pd7 pd8 pd9, .int .i64 0] ∧ Box u g9 [.bool true, .slice pe1 pe2 pe3, .slice pe4 pe5 pe6, .slice pe7 pe8 pe9, .int .i64 0] ∧ Box u (g9 + 1) [.bool true, .slice pf1 pf2 pf3, .slice pf4 pf5 pf6, .slice pf7 pf8 pf9, .int .i64 n] ∧ Below w.heap.size w u ∧ NodeAt u (.slice ka nk kc) (.slice va nv vc) (.slice da nd dc)  x ∧ NodeAt u (.slice pc1 pc2 pc3) (.slice pc4 pc5 pc6) (.slice pc7 pc8 pc9) ((x.cutL (x.keys.length / 2)).cutL ((x.cutL (x.keys.length / 2)).keys.length / 2)) ∧ NodeAt u (.slice pd1 pd2 pd3) (.slice pd4 pd5 pd6) (.slice pd7 pd8 pd9) ((x.cutL (x.keys.length / 2)).cutR ((x.cutL (x.keys.length / 2)).keys.length / 2)) ∧ NodeAt u (.slice pe1 pe2 pe3) (.slice pe4 pe5 pe6) (.slice pe7 pe8 pe9) ((x.cutR (x.keys.length / 2)).cutL ((x.cutR (x.keys.length / 2)).keys.length / 2)) ∧ NodeAt u (.slice pf1 pf2 pf3) (.slice pf4 pf5 pf6) (.slice pf7 pf8 pf9) ((x.cutR (x.keys.length / 2)).cutR ((x.cutR (x.keys.length / 2)).keys.length / 2)) ∧ Reads 1 u (.slice sk1 sk2 sk3) (x.keys.getD (x.keys.length / 2) []).length ((x.keys.getD (x.keys.length / 2) []).map B) ∧ Reads 1 u (.slice sl1 sl2 sl3) ((x.cutL (x.keys.length / 2)).keys.getD ((x.cutL (x.keys.length / 2)).keys.length / 2) []).length (((x.cutL (x.keys.length / 2)).keys.getD ((x.cutL (x.keys.length / 2)).keys.length / 2) []).map B) ∧ Reads 1 u (.slice sn1 sn2 sn3) ((x.cutR (x.keys.length / 2)).keys.getD ((x.cutR (x.keys.length / 2)).keys.length / 2) []).length (((x.cutR (x.keys.length / 2)).keys.getD ((x.cutR (x.keys.length / 2)).keys.length / 2) []).map B) ∧ g9 + 2 ≤ u.heap.size) HW3.out ?_
      clear HW3
      rintro w4_ ⟨ba, bpc, bpd, bpe, bpf, hB, hX, hpc, hpd, hpe, hpf, hsk, hsl, hsn, hs0⟩
      have hgw4 := hB.size
      have lta4 := ba.lt
      have HX := Lib.hid hX
      have HC := Lib.hid hpc
      have HD := Lib.hid hpd
      have HE := Lib.hid hpe
      have HFF := Lib.hid hpf
      have HSK := Lib.hid hsk
      have HSL := Lib.hid hsl
      have HSM := Lib.hid hsn
      have HAL := Lib.hid (show (x.cutL (x.keys.length / 2)).keys.length / 2 < (x.cutL (x.keys.length / 2)).keys.length by have := HL2.out; omega)
      have HBL := Lib.hid (show (x.cutR (x.keys.length / 2)).keys.length / 2 < (x.cutR (x.keys.length / 2)).keys.length by have := HL3.out; omega)
      have HTK := Lib.hid (getD_len2 hsm.ok.keys2 (x.keys.length / 2))
      have HTL := Lib.hid (getD_len2 (hsm.cutL (x.keys.length / 2)).ok.keys2 ((x.cutL (x.keys.length / 2)).keys.length / 2))
      have HTM := Lib.hid (getD_len2 (hsm.cutR (x.keys.length / 2)).ok.keys2 ((x.cutR (x.keys.length / 2)).keys.length / 2))
      clear hX hpc hpd hpe hpf hsk hsl hsn
      refine wp_region_partsDC (WCm w4_ g g6 g9 pc2 pc3 pc5 pc6 pc8 pc9 pd2 pd3 pd5 pd6 pd8 pd9 pe2 pe3 pe5 pe6 pe8 pe9 pf2 pf3 pf5 pf6 pf8 pf9 nk kc nv vc nd dc sk2 sk3 sl2 sl3 sn2 sn3 n pc1 pc4 pc7 pd1 pd4 pd7 pe1 pe4 pe7 pf1 pf4 pf7 ka va da sk1 sl1 sn1 x) 11 [[], [], [], [0, 1, 2], [], [], [0, 1, 2, 3, 4, 5], [], [], [0, 1, 2, 3, 4, 5, 6, 7, 8], []] [some 83, some 84, some 85, some 86, some 87, some 88, some 89, some 90, some 91, some 92, some 12, none] (by kernel_rfl) (by kernel_rfl) rfl (PCm w4_ g g6 g9 pc2 pc3 pc5 pc6 pc8 pc9 pd2 pd3 pd5 pd6 pd8 pd9 pe2 pe3 pe5 pe6 pe8 pe9 pf2 pf3 pf5 pf6 pf8 pf9 nk kc nv vc nd dc sk2 sk3 sl2 sl3 sn2 sn3 n pc1 pc4 pc7 pd1 pd4 pd7 pe1 pe4 pe7 pf1 pf4 pf7 ka va da sk1 sl1 sn1 x) (PCm_stable w4_ g g6 g9 pc2 pc3 pc5 pc6 pc8 pc9 pd2 pd3 pd5 pd6 pd8 pd9 pe2 pe3 pe5 pe6 pe8 pe9 pf2 pf3 pf5 pf6 pf8 pf9 nk kc nv vc nd dc sk2 sk3 sl2 sl3 sn2 sn3 n pc1 pc4 pc7 pd1 pd4 pd7 pe1 pe4 pe7 pf1 pf4 pf7 ka va da sk1 sl1 sn1 x ) ?pCm ?_
      case pCm =>
        intro i hi o ho vs lo hx_ w' hg hp
        match i, hi with
        | 0, _ =>
          obtain rfl := Option.some.inj ho
          clear ho
          simp only [actsD, List.getD_cons_zero, List.getD_cons_succ, List.foldl_cons, List.foldl_nil, Act.put, List.setIfInBounds_toArray, List.set_cons_succ, List.set_cons_zero]
          have hsz := hg.size
          have hgB : Below w4_.heap.size w4_ w' := hg.below (fun k hk => ⟨hk, fun o => by rintro ⟨j, _, _, _, hw⟩; exact False.elim hw⟩)
          have e0 := (hg.cell (g6) 0 bpc.lt (by rintro ⟨j, _, hne, hb, hw⟩; exact False.elim hw)).trans (bpc.cell 0 _ rfl)
          have e1 := (hg.cell (g6) 1 bpc.lt (by rintro ⟨j, _, hne, hb, hw⟩; exact False.elim hw)).trans (bpc.cell 1 _ rfl)
          have e2 := (hg.cell (g6) 2 bpc.lt (by rintro ⟨j, _, hne, hb, hw⟩; exact False.elim hw)).trans (bpc.cell 2 _ rfl)
          have e3 := (hg.cell (g6) 3 bpc.lt (by rintro ⟨j, _, hne, hb, hw⟩; exact False.elim hw)).trans (bpc.cell 3 _ rfl)
          have e4 := (hg.cell (g6) 4 bpc.lt (by rintro ⟨j, _, hne, hb, hw⟩; exact False.elim hw)).trans (bpc.cell 4 _ rfl)
          go_wp2
          exact ⟨_, rfl, GrowC.refl _, rfl⟩
        | 1, _ =>
          obtain rfl := Option.some.inj ho
          clear ho
          simp only [actsD, List.getD_cons_zero, List.getD_cons_succ, List.foldl_cons, List.foldl_nil, Act.put, List.setIfInBounds_toArray, List.set_cons_succ, List.set_cons_zero]
          have hsz := hg.size
          have hgB : Below w4_.heap.size w4_ w' := hg.below (fun k hk => ⟨hk, fun o => by rintro ⟨j, _, _, _, hw⟩; exact False.elim hw⟩)
          go_wp2
          exact ⟨_, rfl, GrowC.refl _, rfl⟩
        | 2, _ =>
          obtain rfl := Option.some.inj ho
          clear ho
          simp only [actsD, List.getD_cons_zero, List.getD_cons_succ, List.foldl_cons, List.foldl_nil, Act.put, List.setIfInBounds_toArray, List.set_cons_succ, List.set_cons_zero]
          have hsz := hg.size
          have hgB : Below w4_.heap.size w4_ w' := hg.below (fun k hk => ⟨hk, fun o => by rintro ⟨j, _, _, _, hw⟩; exact False.elim hw⟩)
          have e0 := (hg.cell (g6 + 1) 0 bpd.lt (by rintro ⟨j, _, hne, hb, hw⟩; exact False.elim hw)).trans (bpd.cell 0 _ rfl)
          have e1 := (hg.cell (g6 + 1) 1 bpd.lt (by rintro ⟨j, _, hne, hb, hw⟩; exact False.elim hw)).trans (bpd.cell 1 _ rfl)
          have e2 := (hg.cell (g6 + 1) 2 bpd.lt (by rintro ⟨j, _, hne, hb, hw⟩; exact False.elim hw)).trans (bpd.cell 2 _ rfl)
          have e3 := (hg.cell (g6 + 1) 3 bpd.lt (by rintro ⟨j, _, hne, hb, hw⟩; exact False.elim hw)).trans (bpd.cell 3 _ rfl)
          have e4 := (hg.cell (g6 + 1) 4 bpd.lt (by rintro ⟨j, _, hne, hb, hw⟩; exact False.elim hw)).trans (bpd.cell 4 _ rfl)
          go_wp2
          exact ⟨_, rfl, GrowC.refl _, rfl⟩
        | 3, _ =>
          obtain rfl := Option.some.inj ho
          clear ho
          simp only [actsD, List.getD_cons_zero, List.getD_cons_succ, List.foldl_cons, List.foldl_nil, Act.put, List.setIfInBounds_toArray, List.set_cons_succ, List.set_cons_zero]
          obtain ⟨_, _, _, h0⟩ := hp 0 (by simp)
          simp only [PCm] at h0
          obtain ⟨_, _, _, h1⟩ := hp 1 (by simp)
          simp only [PCm] at h1
          obtain ⟨_, _, _, h2⟩ := hp 2 (by simp)
          simp only [PCm] at h2
          have hsz := hg.size
          have hgB : Below w4_.heap.size w4_ w' := hg.below (fun k hk => ⟨hk, fun o => by rintro ⟨j, _, _, _, hw⟩; exact False.elim hw⟩)
          rw [h0, h1, h2]
          go_wp2_with fail
          refine (merge_any ((x.cutL (x.keys.length / 2)).cutL ((x.cutL (x.keys.length / 2)).keys.length / 2)) ((x.cutL (x.keys.length / 2)).cutR ((x.cutL (x.keys.length / 2)).keys.length / 2)) _ _ _ _ _ _ _ _ (HC.out.below hgB (Nat.le_refl _)) ((hsm.cutL _).cutL _).ok (HD.out.below hgB (Nat.le_refl _)) ((hsm.cutL _).cutR _).ok (cutL_fits HFA.out HAL.out) (cutR_fits HFA.out HAL.out) (by rw [cutL_leaf, cutR_leaf]) _ (HSL.out.below hgB (Nat.le_refl _)) HTL.out true 0 0 (by rw [cutL_leaf, cutL_leaf, HLF.out]) (cutL_next _ _) (by rw [cutR_next]; exact cutL_next _ _)).mono ?_
          rintro e wz ⟨m1, m2, m3, rfl, hkp, hb⟩
          rw [cut_merge HFA.out HAL.out] at hkp ⊢
          simp only [nodeV, cutL_leaf, cutL_next, HLF.out]
          go_wp2
          exact ⟨_, rfl, GrowC.of_grow hb, _, _, _, rfl, hkp.now⟩
        | 4, _ =>
          obtain rfl := Option.some.inj ho
          clear ho
          simp only [actsD, List.getD_cons_zero, List.getD_cons_succ, List.foldl_cons, List.foldl_nil, Act.put, List.setIfInBounds_toArray, List.set_cons_succ, List.set_cons_zero]
          have hsz := hg.size
          have hgB : Below w4_.heap.size w4_ w' := hg.below (fun k hk => ⟨hk, fun o => by rintro ⟨j, _, _, _, hw⟩; exact False.elim hw⟩)
          go_wp2
          exact ⟨_, rfl, GrowC.refl _, rfl⟩
        | 5, _ =>
          obtain rfl := Option.some.inj ho
          clear ho
          simp only [actsD, List.getD_cons_zero, List.getD_cons_succ, List.foldl_cons, List.foldl_nil, Act.put, List.setIfInBounds_toArray, List.set_cons_succ, List.set_cons_zero]
          have hsz := hg.size
          have hgB : Below w4_.heap.size w4_ w' := hg.below (fun k hk => ⟨hk, fun o => by rintro ⟨j, _, _, _, hw⟩; exact False.elim hw⟩)
          have e0 := (hg.cell (g9) 0 bpe.lt (by rintro ⟨j, _, hne, hb, hw⟩; exact False.elim hw)).trans (bpe.cell 0 _ rfl)
          have e1 := (hg.cell (g9) 1 bpe.lt (by rintro ⟨j, _, hne, hb, hw⟩; exact False.elim hw)).trans (bpe.cell 1 _ rfl)
          have e2 := (hg.cell (g9) 2 bpe.lt (by rintro ⟨j, _, hne, hb, hw⟩; exact False.elim hw)).trans (bpe.cell 2 _ rfl)
          have e3 := (hg.cell (g9) 3 bpe.lt (by rintro ⟨j, _, hne, hb, hw⟩; exact False.elim hw)).trans (bpe.cell 3 _ rfl)
          have e4 := (hg.cell (g9) 4 bpe.lt (by rintro ⟨j, _, hne, hb, hw⟩; exact False.elim hw)).trans (bpe.cell 4 _ rfl)
          go_wp2
          exact ⟨_, rfl, GrowC.refl _, rfl⟩
        | 6, _ =>
          obtain rfl := Option.some.inj ho
          clear ho
          simp only [actsD, List.getD_cons_zero, List.getD_cons_succ, List.foldl_cons, List.foldl_nil, Act.put, List.setIfInBounds_toArray, List.set_cons_succ, List.set_cons_zero]
          obtain ⟨_, _, _, h3⟩ := hp 3 (by simp)
          simp only [PCm] at h3
          obtain ⟨_, _, _, h4⟩ := hp 4 (by simp)
          simp only [PCm] at h4
          obtain ⟨_, _, _, h5⟩ := hp 5 (by simp)
          simp only [PCm] at h5
          have hsz := hg.size
          have hgB : Below w4_.heap.size w4_ w' := hg.below (fun k hk => ⟨hk, fun o => by rintro ⟨j, _, _, _, hw⟩; exact False.elim hw⟩)
          obtain ⟨m1, m2, m3, h3, hm1⟩ := h3
          rw [h3, h4, h5]
          go_wp2_with fail
          refine (merge_any (x.cutL (x.keys.length / 2)) ((x.cutR (x.keys.length / 2)).cutL ((x.cutR (x.keys.length / 2)).keys.length / 2)) _ _ _ _ _ _ _ _ hm1 (hsm.cutL _).ok (HE.out.below hgB (Nat.le_refl _)) ((hsm.cutR _).cutL _).ok HFA.out (cutL_fits HFB.out HBL.out) (by rw [cutL_leaf, cutR_leaf, cutL_leaf]) _ (HSK.out.below hgB (Nat.le_refl _)) HTK.out true 0 0 (by rw [cutL_leaf, HLF.out]) (cutL_next _ _) (cutL_next _ _)).mono ?_
          rintro e wz ⟨m1, m2, m3, rfl, hkp, hb⟩
          rw [merge_q1 HLF.out] at hkp ⊢
          simp only [nodeV, cutL_leaf, cutL_next, HLF.out]
          go_wp2
          exact ⟨_, rfl, GrowC.of_grow hb, _, _, _, rfl, hkp.now⟩
        | 7, _ =>
          obtain rfl := Option.some.inj ho
          clear ho
          simp only [actsD, List.getD_cons_zero, List.getD_cons_succ, List.foldl_cons, List.foldl_nil, Act.put, List.setIfInBounds_toArray, List.set_cons_succ, List.set_cons_zero]
          have hsz := hg.size
          have hgB : Below w4_.heap.size w4_ w' := hg.below (fun k hk => ⟨hk, fun o => by rintro ⟨j, _, _, _, hw⟩; exact False.elim hw⟩)
          go_wp2
          exact ⟨_, rfl, GrowC.refl _, rfl⟩
        | 8, _ =>
          obtain rfl := Option.some.inj ho
          clear ho
          simp only [actsD, List.getD_cons_zero, List.getD_cons_succ, List.foldl_cons, List.foldl_nil, Act.put, List.setIfInBounds_toArray, List.set_cons_succ, List.set_cons_zero]
          have hsz := hg.size
          have hgB : Below w4_.heap.size w4_ w' := hg.below (fun k hk => ⟨hk, fun o => by rintro ⟨j, _, _, _, hw⟩; exact False.elim hw⟩)
          have e0 := (hg.cell (g9 + 1) 0 bpf.lt (by rintro ⟨j, _, hne, hb, hw⟩; exact False.elim hw)).trans (bpf.cell 0 _ rfl)
          have e1 := (hg.cell (g9 + 1) 1 bpf.lt (by rintro ⟨j, _, hne, hb, hw⟩; exact False.elim hw)).trans (bpf.cell 1 _ rfl)
          have e2 := (hg.cell (g9 + 1) 2 bpf.lt (by rintro ⟨j, _, hne, hb, hw⟩; exact False.elim hw)).trans (bpf.cell 2 _ rfl)
          have e3 := (hg.cell (g9 + 1) 3 bpf.lt (by rintro ⟨j, _, hne, hb, hw⟩; exact False.elim hw)).trans (bpf.cell 3 _ rfl)
          have e4 := (hg.cell (g9 + 1) 4 bpf.lt (by rintro ⟨j, _, hne, hb, hw⟩; exact False.elim hw)).trans (bpf.cell 4 _ rfl)
          go_wp2
          exact ⟨_, rfl, GrowC.refl _, rfl⟩
        | 9, _ =>
          obtain rfl := Option.some.inj ho
          clear ho
          simp only [actsD, List.getD_cons_zero, List.getD_cons_succ, List.foldl_cons, List.foldl_nil, Act.put, List.setIfInBounds_toArray, List.set_cons_succ, List.set_cons_zero]
          obtain ⟨_, _, _, h6⟩ := hp 6 (by simp)
          simp only [PCm] at h6
          obtain ⟨_, _, _, h7⟩ := hp 7 (by simp)
          simp only [PCm] at h7
          obtain ⟨_, _, _, h8⟩ := hp 8 (by simp)
          simp only [PCm] at h8
          have hsz := hg.size
          have hgB : Below w4_.heap.size w4_ w' := hg.below (fun k hk => ⟨hk, fun o => by rintro ⟨j, _, _, _, hw⟩; exact False.elim hw⟩)
          obtain ⟨m1, m2, m3, h6, hm1⟩ := h6
          rw [h6, h7, h8]
          go_wp2_with fail
          refine (merge_any (x.cutL (x.keys.length / 2 + (x.cutR (x.keys.length / 2)).keys.length / 2)) ((x.cutR (x.keys.length / 2)).cutR ((x.cutR (x.keys.length / 2)).keys.length / 2)) _ _ _ _ _ _ _ _ hm1 (hsm.cutL _).ok (HFF.out.below hgB (Nat.le_refl _)) ((hsm.cutR _).cutR _).ok (cutL_fits HF1.out HJ.out) (cutR_fits HFB.out HBL.out) (by rw [cutR_leaf, cutR_leaf, cutL_leaf]) _ (HSM.out.below hgB (Nat.le_refl _)) HTM.out true 0 n (by rw [cutL_leaf, HLF.out]) (cutL_next _ _) (by rw [cutR_next, cutR_next, HN.out])).mono ?_
          rintro e wz ⟨m1, m2, m3, rfl, hkp, hb⟩
          rw [merge_q2 HLF.out HF1.out] at hkp ⊢
          simp only [nodeV, HLF.out, HN.out, HNK.out, HNV.out, HND.out] at hkp ⊢
          go_wp2
          exact ⟨_, rfl, GrowC.of_grow hb, _, _, _, rfl, hkp.mono (fun k _ h => by omega)⟩
        | 10, _ =>
          obtain rfl := Option.some.inj ho
          clear ho
          simp only [actsD, List.getD_cons_zero, List.getD_cons_succ, List.foldl_cons, List.foldl_nil, Act.put, List.setIfInBounds_toArray, List.set_cons_succ, List.set_cons_zero]
          have hsz := hg.size
          have hgB : Below w4_.heap.size w4_ w' := hg.below (fun k hk => ⟨hk, fun o => by rintro ⟨j, _, _, _, hw⟩; exact False.elim hw⟩)
          go_wp2
          exact ⟨_, rfl, GrowC.of_grow ((Grow.refl _).alloc _), rfl, by simp, Box.new _ _ _ rfl⟩
        | (q + 11), hq => exact absurd hq (by omega)
      intro vS lo hi w5 hg hp hd
      obtain ⟨_, _, _, h0⟩ := hp 0 (by omega)
      obtain ⟨_, _, _, h1⟩ := hp 1 (by omega)
      obtain ⟨_, _, _, h2⟩ := hp 2 (by omega)
      obtain ⟨_, _, _, h3⟩ := hp 3 (by omega)
      obtain ⟨_, _, _, h4⟩ := hp 4 (by omega)
      obtain ⟨_, _, _, h5⟩ := hp 5 (by omega)
      obtain ⟨_, _, _, h6⟩ := hp 6 (by omega)
      obtain ⟨_, _, _, h7⟩ := hp 7 (by omega)
      obtain ⟨_, _, _, h8⟩ := hp 8 (by omega)
      obtain ⟨_, _, _, h9⟩ := hp 9 (by omega)
      obtain ⟨_, _, _, h10⟩ := hp 10 (by omega)
      simp only [PCm] at h0 h1 h2 h3 h4 h5 h6 h7 h8 h9 h10
      have hd910 := hd 9 10 (by omega) (by omega) (by omega)
      have hl9 := (hp 9 (by omega)).1
      have hl10 := (hp 10 (by omega)).1
      clear hp hd
      have hsz := hg.size
      replace ba := ba.grow hg (by intro i _; rintro ⟨j, _, hw⟩; exact False.elim hw)
      replace bpc := bpc.grow hg (by intro i _; rintro ⟨j, _, hw⟩; exact False.elim hw)
      replace bpd := bpd.grow hg (by intro i _; rintro ⟨j, _, hw⟩; exact False.elim hw)
      replace bpe := bpe.grow hg (by intro i _; rintro ⟨j, _, hw⟩; exact False.elim hw)
      replace bpf := bpf.grow hg (by intro i _; rintro ⟨j, _, hw⟩; exact False.elim hw)
      replace hB := hB.trans (hg.below (fun k hk => ⟨by omega, fun o => by rintro ⟨j, _, hw⟩; exact False.elim hw⟩))
      have hr : List.range 11 = [0, 1, 2, 3, 4, 5, 6, 7, 8, 9, 10] := rfl
      rw [hr]
      clear hr
      simp only [List.drop_succ_cons, List.drop_zero, List.drop_nil, actsD, List.getD_cons_zero, List.getD_cons_succ, List.foldl_cons, List.foldl_nil, Act.put, List.setIfInBounds_toArray, List.set_cons_succ, List.set_cons_zero, h0, h1, h2, h4, h5, h7, h8]
      clear h0 h1 h2 h4 h5 h7 h8
      have hBx : Below w4_.heap.size w4_ w5 := hg.below (fun k hk => ⟨hk, fun o => by rintro ⟨j, _, hw⟩; exact False.elim hw⟩)
      obtain ⟨a1, a2, a3, e9, hk9⟩ := h9
      obtain ⟨e10, e10', b12⟩ := h10
      simp only [e9, e10]
      obtain ⟨g12, hg12⟩ : ∃ g, lo 10 = g := ⟨_, rfl⟩
      rw [e10', hg12] at hd910
      rw [hg12] at b12 hl10
      simp only [hg12]
      clear e9 e10 e10' hg12 h3 h6 hg
      have ne1 : g ≠ g12 := by omega
      have ne2 : g12 ≠ g := by omega
      have hkx := hk9.mono (Y := fun k => k < w4_.heap.size ∨ k = g12) (fun k _ h => by omega)
      clear hk9 hd910 hl9
      have c120 := b12.cell 0 _ rfl
      have c121 := b12.cell 1 _ rfl
      have c122 := b12.cell 2 _ rfl
      have c123 := b12.cell 3 _ rfl
      have c124 := b12.cell 4 _ rfl
      have f12 := b12.free
      have ca0 := ba.cell 0 _ rfl
      have ca1 := ba.cell 1 _ rfl
      have ca2 := ba.cell 2 _ rfl
      have ca3 := ba.cell 3 _ rfl
      have ca4 := ba.cell 4 _ rfl
      have fa := ba.free
      go_wp2_with fail
      clear c120 c121 c122 c123 c124 f12
      clear ca0 ca1 ca2 ca3 ca4 fa
      refine calls_world (fun w6 => Box w6 g12 [.bool true, .slice a1 nk nk, .slice a2 nv nv, .slice a3 nd nd, .int .i64 n] ∧ GrowC (fun b _ => b = g12) w5 w6) (b12.set5 _ _ _ _ _) ?_
      clear b12
      rintro w6 ⟨bm, hg⟩
      replace ba := ba.grow hg (by intros; omega)
      have hgw6 := hB.size
      have hlw := hl10
      replace hB := hB.trans (hg.below (fun k hk => ⟨by omega, fun _ => by omega⟩))
      replace hBx := hBx.trans (hg.below (B := w4_.heap.size) (fun k hk => ⟨by have := hg.size; omega, fun _ => by omega⟩))
      have HM6 := hkx.grow (GrowX.of_growC hg (fun k _ h => .inr h))
      have hx6 := HX.out.below hBx (Nat.le_refl _)
      clear hkx hg bpc bpd bpe bpf HX HC HD HE HFF HSK HSL HSM hBx
      refine (penc_any x hsm _ _ _ w6 HM6.now true n HLF.out HN.out).mono ?_
      rintro e w7 ⟨v7, er, rfl, hb, hc7⟩
      replace ba := ba.below hb (Nat.le_refl _)
      replace bm := bm.below hb (Nat.le_refl _)
      have hm6 := HM6.now
      replace hm6 := hm6.below hb (Nat.le_refl _)
      replace hx6 := hx6.below hb (Nat.le_refl _)
      have hgw7 := hB.size
      replace hB := hB.trans (hb.mono hgw7)
      have h060 : er = 0 ∨ er = 60 := by
        rcases hc7 with ⟨h1, _⟩ | ⟨_, _, h3, _⟩ | ⟨_, _, h3, _⟩
        · exact absurd HF.out h1
        · exact .inr h3
        · exact .inl h3
      have her : ∀ v2 er2 (w2 : World), ((¬ x.Fit ∧ er2 = 1 ∧ v2 = .slice none 0 0) ∨ (x.Fit ∧ 504 < rsize x x.keys.length ∧ er2 = 60 ∧ v2 = .slice none 0 0) ∨ (x.Fit ∧ rsize x x.keys.length ≤ 504 ∧ er2 = 0 ∧ Reads 1 w2 v2 504 ((page x).map B))) → er2 = er := by
        intro v2 er2 w2 h
        rcases hc7 with ⟨h1, _⟩ | ⟨_, h2, h3, _⟩ | ⟨_, h2, h3, _⟩
        · exact absurd HF.out h1
        · rcases h with ⟨k1, _⟩ | ⟨_, k2, k3, _⟩ | ⟨_, k2, k3, _⟩
          · exact absurd HF.out k1
          · rw [k3, h3]
          · omega
        · rcases h with ⟨k1, _⟩ | ⟨_, k2, k3, _⟩ | ⟨_, k2, k3, _⟩
          · exact absurd HF.out k1
          · omega
          · rw [k3, h3]
      have HER := Lib.hid her
      have H060 := Lib.hid h060
      have hx7 := Lib.hid hx6
      have hm7 := Lib.hid hm6
      clear hb hc7 her h060 hx6 hm6 HM6
      have ca0 := ba.cell 0 _ rfl
      have ca1 := ba.cell 1 _ rfl
      have ca2 := ba.cell 2 _ rfl
      have ca3 := ba.cell 3 _ rfl
      have ca4 := ba.cell 4 _ rfl
      have fa := ba.free
      go_wp2_with fail
      clear ca0 ca1 ca2 ca3 ca4 fa
      refine (penc_any x hsm _ _ _ w7 hx7.out true n HLF.out HN.out).mono ?_
      rintro e w8 ⟨v8, er2, rfl, hb, hc8⟩
      obtain rfl := HER.out _ _ _ hc8
      replace ba := ba.below hb (Nat.le_refl _)
      replace bm := bm.below hb (Nat.le_refl _)
      have HM := Lib.hid (hm7.out.below hb (Nat.le_refl _))
      have HX := Lib.hid (hx7.out.below hb (Nat.le_refl _))
      have hgw8 := hB.size
      replace hB := hB.trans (hb.mono hgw8)
      have hgw9 := hB.size
      clear hb hc8 hm7 hx7 HER
      rcases H060.out with rfl | rfl
      · clear H060
        go_wp2_with fail
        refine wp_region_partsDC (WCe0 w8 g g12 nk kc nv vc nd dc n ka va da a1 a2 a3 x) 22 [[], [0], [], [0, 1, 2], [0, 1, 2, 3], [0, 1, 2, 3, 4], [0, 1, 2, 3, 4, 5], [0, 1, 2, 3, 4, 5], [0, 1, 2, 3, 4, 5, 6, 7], [0, 1, 2, 3, 4, 5, 6, 7, 8], [0, 1, 2, 3, 4, 5, 6, 7, 8, 9], [0, 1, 2, 3, 4, 5, 6, 7, 8, 9, 10], [0, 1, 2, 3, 4, 5, 6, 7, 8, 9, 10, 11], [0, 1, 2, 3, 4, 5, 6, 7, 8, 9, 10, 11, 12], [0, 1, 2, 3, 4, 5, 6, 7, 8, 9, 10, 11, 12, 13], [0, 1, 2, 3, 4, 5, 6, 7, 8, 9, 10, 11, 12, 13, 14], [0, 1, 2, 3, 4, 5, 6, 7, 8, 9, 10, 11, 12, 13, 14, 15], [0, 1, 2, 3, 4, 5, 6, 7, 8, 9, 10, 11, 12, 13, 14, 15, 16], [0, 1, 2, 3, 4, 5, 6, 7, 8, 9, 10, 11, 12, 13, 14, 15, 16, 17], [0, 1, 2, 3, 4, 5, 6, 7, 8, 9, 10, 11, 12, 13, 14, 15, 16, 17, 18], [0, 1, 2, 3, 4, 5, 6, 7, 8, 9, 10, 11, 12, 13, 14, 15, 16, 17, 18, 19], [0, 1, 2, 3, 4, 5, 6, 7, 8, 9, 10, 11, 12, 13, 14, 15, 16, 17, 18, 19, 20]] [some 103, some 104, some 105, some 106, some 107, some 108, some 109, some 110, some 111, some 112, some 113, some 114, some 115, some 116, some 117, some 118, some 119, some 120, some 121, some 122, some 123, some 2] (by kernel_rfl) (by kernel_rfl) rfl (PCe0 w8 g g12 nk kc nv vc nd dc n ka va da a1 a2 a3 x) (PCe0_stable w8 g g12 nk kc nv vc nd dc n ka va da a1 a2 a3 x ) ?pCe0 ?_
        case pCe0 =>
          intro i hi o ho vs lo hx_ w' hg hp
          match i, hi with
          | 0, _ =>
            obtain rfl := Option.some.inj ho
            clear ho
            simp only [actsD, List.getD_cons_zero, List.getD_cons_succ, List.foldl_cons, List.foldl_nil, Act.put, List.setIfInBounds_toArray, List.set_cons_succ, List.set_cons_zero]
            have hsz := hg.size
            have hgB : Below w8.heap.size w8 w' := hg.below (fun k hk => ⟨hk, fun o => by rintro ⟨j, _, _, _, hw⟩; exact False.elim hw⟩)
            have e0 := (hg.cell (g12) 0 bm.lt (by rintro ⟨j, _, hne, hb, hw⟩; exact False.elim hw)).trans (bm.cell 0 _ rfl)
            have e1 := (hg.cell (g12) 1 bm.lt (by rintro ⟨j, _, hne, hb, hw⟩; exact False.elim hw)).trans (bm.cell 1 _ rfl)
            have e2 := (hg.cell (g12) 2 bm.lt (by rintro ⟨j, _, hne, hb, hw⟩; exact False.elim hw)).trans (bm.cell 2 _ rfl)
            have e3 := (hg.cell (g12) 3 bm.lt (by rintro ⟨j, _, hne, hb, hw⟩; exact False.elim hw)).trans (bm.cell 3 _ rfl)
            have e4 := (hg.cell (g12) 4 bm.lt (by rintro ⟨j, _, hne, hb, hw⟩; exact False.elim hw)).trans (bm.cell 4 _ rfl)
            go_wp2
            exact ⟨_, rfl, GrowC.refl _, rfl⟩
          | 1, _ =>
            obtain rfl := Option.some.inj ho
            clear ho
            simp only [actsD, List.getD_cons_zero, List.getD_cons_succ, List.foldl_cons, List.foldl_nil, Act.put, List.setIfInBounds_toArray, List.set_cons_succ, List.set_cons_zero]
            obtain ⟨_, _, _, h0⟩ := hp 0 (by simp)
            simp only [PCe0] at h0
            have hsz := hg.size
            have hgB : Below w8.heap.size w8 w' := hg.below (fun k hk => ⟨hk, fun o => by rintro ⟨j, _, _, _, hw⟩; exact False.elim hw⟩)
            rw [h0]
            go_wp2_with fail
            refine (to_small _ _ _ _ _ (HM.out.below hgB (Nat.le_refl _)) hsm true n HLF.out HN.out).mono ?_
            rintro e wz ⟨r1, r2, rfl, hr, hb⟩
            go_wp2
            exact ⟨_, rfl, GrowC.of_grow hb, r1, r2, rfl, hr⟩
          | 2, _ =>
            obtain rfl := Option.some.inj ho
            clear ho
            simp only [actsD, List.getD_cons_zero, List.getD_cons_succ, List.foldl_cons, List.foldl_nil, Act.put, List.setIfInBounds_toArray, List.set_cons_succ, List.set_cons_zero]
            have hsz := hg.size
            have hgB : Below w8.heap.size w8 w' := hg.below (fun k hk => ⟨hk, fun o => by rintro ⟨j, _, _, _, hw⟩; exact False.elim hw⟩)
            have e0 := (hg.cell (g) 0 ba.lt (by rintro ⟨j, _, hne, hb, hw⟩; exact False.elim hw)).trans (ba.cell 0 _ rfl)
            have e1 := (hg.cell (g) 1 ba.lt (by rintro ⟨j, _, hne, hb, hw⟩; exact False.elim hw)).trans (ba.cell 1 _ rfl)
            have e2 := (hg.cell (g) 2 ba.lt (by rintro ⟨j, _, hne, hb, hw⟩; exact False.elim hw)).trans (ba.cell 2 _ rfl)
            have e3 := (hg.cell (g) 3 ba.lt (by rintro ⟨j, _, hne, hb, hw⟩; exact False.elim hw)).trans (ba.cell 3 _ rfl)
            have e4 := (hg.cell (g) 4 ba.lt (by rintro ⟨j, _, hne, hb, hw⟩; exact False.elim hw)).trans (ba.cell 4 _ rfl)
            go_wp2
            exact ⟨_, rfl, GrowC.refl _, rfl⟩
          | 3, _ =>
            obtain rfl := Option.some.inj ho
            clear ho
            simp only [actsD, List.getD_cons_zero, List.getD_cons_succ, List.foldl_cons, List.foldl_nil, Act.put, List.setIfInBounds_toArray, List.set_cons_succ, List.set_cons_zero]
            obtain ⟨_, _, _, h2⟩ := hp 2 (by simp)
            simp only [PCe0] at h2
            have hsz := hg.size
            have hgB : Below w8.heap.size w8 w' := hg.below (fun k hk => ⟨hk, fun o => by rintro ⟨j, _, _, _, hw⟩; exact False.elim hw⟩)
            rw [h2]
            go_wp2_with fail
            refine (to_small _ _ _ _ _ (HX.out.below hgB (Nat.le_refl _)) hsm true n HLF.out HN.out).mono ?_
            rintro e wz ⟨r1, r2, rfl, hr, hb⟩
            go_wp2
            exact ⟨_, rfl, GrowC.of_grow hb, r1, r2, rfl, hr⟩
          | 4, _ =>
            obtain rfl := Option.some.inj ho
            clear ho
            simp only [actsD, List.getD_cons_zero, List.getD_cons_succ, List.foldl_cons, List.foldl_nil, Act.put, List.setIfInBounds_toArray, List.set_cons_succ, List.set_cons_zero]
            obtain ⟨_, _, _, h1⟩ := hp 1 (by simp)
            simp only [PCe0] at h1
            obtain ⟨_, _, _, h3⟩ := hp 3 (by simp)
            simp only [PCe0] at h3
            have hsz := hg.size
            have hgB : Below w8.heap.size w8 w' := hg.below (fun k hk => ⟨hk, fun o => by rintro ⟨j, _, _, _, hw⟩; exact False.elim hw⟩)
            obtain ⟨r1, r2, h1, hr1⟩ := h1
            obtain ⟨t1, t2, h3, hq1⟩ := h3
            rw [h1, h3]
            go_wp2_with fail
            refine (same_small _ hsm _ _ _ _ _ _ _ hr1 hq1 _ _).mono ?_
            rintro e wz ⟨rfl, hb⟩
            go_wp2
            exact ⟨_, rfl, GrowC.of_grow hb, rfl⟩
          | 5, _ =>
            obtain rfl := Option.some.inj ho
            clear ho
            simp only [actsD, List.getD_cons_zero, List.getD_cons_succ, List.foldl_cons, List.foldl_nil, Act.put, List.setIfInBounds_toArray, List.set_cons_succ, List.set_cons_zero]
            obtain ⟨_, _, _, h4⟩ := hp 4 (by simp)
            simp only [PCe0] at h4
            have hsz := hg.size
            have hgB : Below w8.heap.size w8 w' := hg.below (fun k hk => ⟨hk, fun o => by rintro ⟨j, _, _, _, hw⟩; exact False.elim hw⟩)
            rw [h4]
            go_wp2
            exact ⟨_, rfl, GrowC.refl _, rfl⟩
          | 6, _ =>
            obtain rfl := Option.some.inj ho
            clear ho
            simp only [actsD, List.getD_cons_zero, List.getD_cons_succ, List.foldl_cons, List.foldl_nil, Act.put, List.setIfInBounds_toArray, List.set_cons_succ, List.set_cons_zero]
            obtain ⟨_, _, _, h5⟩ := hp 5 (by simp)
            simp only [PCe0] at h5
            have hsz := hg.size
            have hgB : Below w8.heap.size w8 w' := hg.below (fun k hk => ⟨hk, fun o => by rintro ⟨j, _, _, _, hw⟩; exact False.elim hw⟩)
            rw [h5]
            go_wp2
            exact ⟨_, rfl, GrowC.refl _, rfl⟩
          | 7, _ =>
            obtain rfl := Option.some.inj ho
            clear ho
            simp only [actsD, List.getD_cons_zero, List.getD_cons_succ, List.foldl_cons, List.foldl_nil, Act.put, List.setIfInBounds_toArray, List.set_cons_succ, List.set_cons_zero]
            obtain ⟨_, _, _, h5⟩ := hp 5 (by simp)
            simp only [PCe0] at h5
            have hsz := hg.size
            have hgB : Below w8.heap.size w8 w' := hg.below (fun k hk => ⟨hk, fun o => by rintro ⟨j, _, _, _, hw⟩; exact False.elim hw⟩)
            rw [h5]
            go_wp2
            exact ⟨_, rfl, GrowC.refl _, rfl⟩
          | 8, _ =>
            obtain rfl := Option.some.inj ho
            clear ho
            simp only [actsD, List.getD_cons_zero, List.getD_cons_succ, List.foldl_cons, List.foldl_nil, Act.put, List.setIfInBounds_toArray, List.set_cons_succ, List.set_cons_zero]
            obtain ⟨_, _, _, h5⟩ := hp 5 (by simp)
            simp only [PCe0] at h5
            obtain ⟨_, _, _, h6⟩ := hp 6 (by simp)
            simp only [PCe0] at h6
            obtain ⟨_, _, _, h7⟩ := hp 7 (by simp)
            simp only [PCe0] at h7
            have hsz := hg.size
            have hgB : Below w8.heap.size w8 w' := hg.below (fun k hk => ⟨hk, fun o => by rintro ⟨j, _, _, _, hw⟩; exact False.elim hw⟩)
            rw [h5, h6, h7]
            go_wp2
            exact ⟨_, rfl, GrowC.refl _, rfl⟩
          | 9, _ =>
            obtain rfl := Option.some.inj ho
            clear ho
            simp only [actsD, List.getD_cons_zero, List.getD_cons_succ, List.foldl_cons, List.foldl_nil, Act.put, List.setIfInBounds_toArray, List.set_cons_succ, List.set_cons_zero]
            obtain ⟨_, _, _, h5⟩ := hp 5 (by simp)
            simp only [PCe0] at h5
            obtain ⟨_, _, _, h8⟩ := hp 8 (by simp)
            simp only [PCe0] at h8
            have hsz := hg.size
            have hgB : Below w8.heap.size w8 w' := hg.below (fun k hk => ⟨hk, fun o => by rintro ⟨j, _, _, _, hw⟩; exact False.elim hw⟩)
            rw [h5, h8]
            go_wp2
            exact ⟨_, rfl, GrowC.refl _, rfl⟩
          | 10, _ =>
            obtain rfl := Option.some.inj ho
            clear ho
            simp only [actsD, List.getD_cons_zero, List.getD_cons_succ, List.foldl_cons, List.foldl_nil, Act.put, List.setIfInBounds_toArray, List.set_cons_succ, List.set_cons_zero]
            obtain ⟨_, _, _, h9⟩ := hp 9 (by simp)
            simp only [PCe0] at h9
            have hsz := hg.size
            have hgB : Below w8.heap.size w8 w' := hg.below (fun k hk => ⟨hk, fun o => by rintro ⟨j, _, _, _, hw⟩; exact False.elim hw⟩)
            rw [h9]
            go_wp2
            exact ⟨_, rfl, GrowC.refl _, rfl⟩
          | 11, _ =>
            obtain rfl := Option.some.inj ho
            clear ho
            simp only [actsD, List.getD_cons_zero, List.getD_cons_succ, List.foldl_cons, List.foldl_nil, Act.put, List.setIfInBounds_toArray, List.set_cons_succ, List.set_cons_zero]
            obtain ⟨_, _, _, h10⟩ := hp 10 (by simp)
            simp only [PCe0] at h10
            have hsz := hg.size
            have hgB : Below w8.heap.size w8 w' := hg.below (fun k hk => ⟨hk, fun o => by rintro ⟨j, _, _, _, hw⟩; exact False.elim hw⟩)
            rw [h10]
            go_wp2
            exact ⟨_, rfl, GrowC.refl _, rfl⟩
          | 12, _ =>
            obtain rfl := Option.some.inj ho
            clear ho
            simp only [actsD, List.getD_cons_zero, List.getD_cons_succ, List.foldl_cons, List.foldl_nil, Act.put, List.setIfInBounds_toArray, List.set_cons_succ, List.set_cons_zero]
            obtain ⟨_, _, _, h10⟩ := hp 10 (by simp)
            simp only [PCe0] at h10
            obtain ⟨_, _, _, h11⟩ := hp 11 (by simp)
            simp only [PCe0] at h11
            have hsz := hg.size
            have hgB : Below w8.heap.size w8 w' := hg.below (fun k hk => ⟨hk, fun o => by rintro ⟨j, _, _, _, hw⟩; exact False.elim hw⟩)
            rw [h10, h11]
            go_wp2
            exact ⟨_, rfl, GrowC.refl _, rfl⟩
          | 13, _ =>
            obtain rfl := Option.some.inj ho
            clear ho
            simp only [actsD, List.getD_cons_zero, List.getD_cons_succ, List.foldl_cons, List.foldl_nil, Act.put, List.setIfInBounds_toArray, List.set_cons_succ, List.set_cons_zero]
            obtain ⟨_, _, _, h10⟩ := hp 10 (by simp)
            simp only [PCe0] at h10
            obtain ⟨_, _, _, h12⟩ := hp 12 (by simp)
            simp only [PCe0] at h12
            have hsz := hg.size
            have hgB : Below w8.heap.size w8 w' := hg.below (fun k hk => ⟨hk, fun o => by rintro ⟨j, _, _, _, hw⟩; exact False.elim hw⟩)
            rw [h10, h12]
            go_wp2
            exact ⟨_, rfl, GrowC.refl _, rfl⟩
          | 14, _ =>
            obtain rfl := Option.some.inj ho
            clear ho
            simp only [actsD, List.getD_cons_zero, List.getD_cons_succ, List.foldl_cons, List.foldl_nil, Act.put, List.setIfInBounds_toArray, List.set_cons_succ, List.set_cons_zero]
            obtain ⟨_, _, _, h13⟩ := hp 13 (by simp)
            simp only [PCe0] at h13
            have hsz := hg.size
            have hgB : Below w8.heap.size w8 w' := hg.below (fun k hk => ⟨hk, fun o => by rintro ⟨j, _, _, _, hw⟩; exact False.elim hw⟩)
            rw [h13]
            go_wp2
            exact ⟨_, rfl, GrowC.refl _, trivial⟩
          | 15, _ =>
            obtain rfl := Option.some.inj ho
            clear ho
            simp only [actsD, List.getD_cons_zero, List.getD_cons_succ, List.foldl_cons, List.foldl_nil, Act.put, List.setIfInBounds_toArray, List.set_cons_succ, List.set_cons_zero]
            obtain ⟨_, _, _, h13⟩ := hp 13 (by simp)
            simp only [PCe0] at h13
            obtain ⟨_, _, _, h14⟩ := hp 14 (by simp)
            simp only [PCe0] at h14
            have hsz := hg.size
            have hgB : Below w8.heap.size w8 w' := hg.below (fun k hk => ⟨hk, fun o => by rintro ⟨j, _, _, _, hw⟩; exact False.elim hw⟩)
            rw [h13]
            go_wp2
            exact ⟨_, rfl, GrowC.refl _, trivial⟩
          | 16, _ =>
            obtain rfl := Option.some.inj ho
            clear ho
            simp only [actsD, List.getD_cons_zero, List.getD_cons_succ, List.foldl_cons, List.foldl_nil, Act.put, List.setIfInBounds_toArray, List.set_cons_succ, List.set_cons_zero]
            obtain ⟨_, _, _, h10⟩ := hp 10 (by simp)
            simp only [PCe0] at h10
            obtain ⟨_, _, _, h13⟩ := hp 13 (by simp)
            simp only [PCe0] at h13
            obtain ⟨_, _, _, h15⟩ := hp 15 (by simp)
            simp only [PCe0] at h15
            have hsz := hg.size
            have hgB : Below w8.heap.size w8 w' := hg.below (fun k hk => ⟨hk, fun o => by rintro ⟨j, _, _, _, hw⟩; exact False.elim hw⟩)
            rw [h10, h13]
            go_wp2
            exact ⟨_, rfl, GrowC.refl _, rfl⟩
          | 17, _ =>
            obtain rfl := Option.some.inj ho
            clear ho
            simp only [actsD, List.getD_cons_zero, List.getD_cons_succ, List.foldl_cons, List.foldl_nil, Act.put, List.setIfInBounds_toArray, List.set_cons_succ, List.set_cons_zero]
            obtain ⟨_, _, _, h10⟩ := hp 10 (by simp)
            simp only [PCe0] at h10
            obtain ⟨_, _, _, h16⟩ := hp 16 (by simp)
            simp only [PCe0] at h16
            have hsz := hg.size
            have hgB : Below w8.heap.size w8 w' := hg.below (fun k hk => ⟨hk, fun o => by rintro ⟨j, _, _, _, hw⟩; exact False.elim hw⟩)
            rw [h10, h16]
            go_wp2
            exact ⟨_, rfl, GrowC.refl _, rfl⟩
          | 18, _ =>
            obtain rfl := Option.some.inj ho
            clear ho
            simp only [actsD, List.getD_cons_zero, List.getD_cons_succ, List.foldl_cons, List.foldl_nil, Act.put, List.setIfInBounds_toArray, List.set_cons_succ, List.set_cons_zero]
            obtain ⟨_, _, _, h17⟩ := hp 17 (by simp)
            simp only [PCe0] at h17
            have hsz := hg.size
            have hgB : Below w8.heap.size w8 w' := hg.below (fun k hk => ⟨hk, fun o => by rintro ⟨j, _, _, _, hw⟩; exact False.elim hw⟩)
            rw [h17]
            go_wp2
            exact ⟨_, rfl, GrowC.refl _, rfl⟩
          | 19, _ =>
            obtain rfl := Option.some.inj ho
            clear ho
            simp only [actsD, List.getD_cons_zero, List.getD_cons_succ, List.foldl_cons, List.foldl_nil, Act.put, List.setIfInBounds_toArray, List.set_cons_succ, List.set_cons_zero]
            obtain ⟨_, _, _, h18⟩ := hp 18 (by simp)
            simp only [PCe0] at h18
            have hsz := hg.size
            have hgB : Below w8.heap.size w8 w' := hg.below (fun k hk => ⟨hk, fun o => by rintro ⟨j, _, _, _, hw⟩; exact False.elim hw⟩)
            rw [h18]
            go_wp2_with fail
            refine (awake_any _).mono ?_
            rintro e wz ⟨rfl, hb⟩
            go_wp2
            exact ⟨_, rfl, GrowC.of_grow hb, rfl⟩
          | 20, _ =>
            obtain rfl := Option.some.inj ho
            clear ho
            simp only [actsD, List.getD_cons_zero, List.getD_cons_succ, List.foldl_cons, List.foldl_nil, Act.put, List.setIfInBounds_toArray, List.set_cons_succ, List.set_cons_zero]
            obtain ⟨_, _, _, h18⟩ := hp 18 (by simp)
            simp only [PCe0] at h18
            obtain ⟨_, _, _, h19⟩ := hp 19 (by simp)
            simp only [PCe0] at h19
            have hsz := hg.size
            have hgB : Below w8.heap.size w8 w' := hg.below (fun k hk => ⟨hk, fun o => by rintro ⟨j, _, _, _, hw⟩; exact False.elim hw⟩)
            rw [h18, h19]
            go_wp2
            exact ⟨_, rfl, GrowC.refl _, rfl⟩
          | 21, _ =>
            obtain rfl := Option.some.inj ho
            clear ho
            simp only [actsD, List.getD_cons_zero, List.getD_cons_succ, List.foldl_cons, List.foldl_nil, Act.put, List.setIfInBounds_toArray, List.set_cons_succ, List.set_cons_zero]
            obtain ⟨_, _, _, h20⟩ := hp 20 (by simp)
            simp only [PCe0] at h20
            have hsz := hg.size
            have hgB : Below w8.heap.size w8 w' := hg.below (fun k hk => ⟨hk, fun o => by rintro ⟨j, _, _, _, hw⟩; exact False.elim hw⟩)
            rw [h20]
            go_wp2
            exact ⟨_, rfl, GrowC.refl _, rfl⟩
          | (q + 22), hq => exact absurd hq (by omega)
        intro vS lo hi w9 hg hp hd
        obtain ⟨_, _, _, h0⟩ := hp 0 (by omega)
        obtain ⟨_, _, _, h1⟩ := hp 1 (by omega)
        obtain ⟨_, _, _, h2⟩ := hp 2 (by omega)
        obtain ⟨_, _, _, h3⟩ := hp 3 (by omega)
        obtain ⟨_, _, _, h4⟩ := hp 4 (by omega)
        obtain ⟨_, _, _, h5⟩ := hp 5 (by omega)
        obtain ⟨_, _, _, h6⟩ := hp 6 (by omega)
        obtain ⟨_, _, _, h7⟩ := hp 7 (by omega)
        obtain ⟨_, _, _, h8⟩ := hp 8 (by omega)
        obtain ⟨_, _, _, h9⟩ := hp 9 (by omega)
        obtain ⟨_, _, _, h10⟩ := hp 10 (by omega)
        obtain ⟨_, _, _, h11⟩ := hp 11 (by omega)
        obtain ⟨_, _, _, h12⟩ := hp 12 (by omega)
        obtain ⟨_, _, _, h13⟩ := hp 13 (by omega)
        obtain ⟨_, _, _, h14⟩ := hp 14 (by omega)
        obtain ⟨_, _, _, h15⟩ := hp 15 (by omega)
        obtain ⟨_, _, _, h16⟩ := hp 16 (by omega)
        obtain ⟨_, _, _, h17⟩ := hp 17 (by omega)
        obtain ⟨_, _, _, h18⟩ := hp 18 (by omega)
        obtain ⟨_, _, _, h19⟩ := hp 19 (by omega)
        obtain ⟨_, _, _, h20⟩ := hp 20 (by omega)
        obtain ⟨_, _, _, h21⟩ := hp 21 (by omega)
        simp only [PCe0] at h0 h1 h2 h3 h4 h5 h6 h7 h8 h9 h10 h11 h12 h13 h14 h15 h16 h17 h18 h19 h20 h21
        clear hp hd
        have hsz := hg.size
        replace ba := ba.grow hg (by intro i _; rintro ⟨j, _, hw⟩; exact False.elim hw)
        replace bm := bm.grow hg (by intro i _; rintro ⟨j, _, hw⟩; exact False.elim hw)
        replace hB := hB.trans (hg.below (fun k hk => ⟨by omega, fun o => by rintro ⟨j, _, hw⟩; exact False.elim hw⟩))
        have hr : List.range 22 = [0, 1, 2, 3, 4, 5, 6, 7, 8, 9, 10, 11, 12, 13, 14, 15, 16, 17, 18, 19, 20, 21] := rfl
        rw [hr]
        clear hr
        simp only [List.drop_succ_cons, List.drop_zero, List.drop_nil, actsD, List.getD_cons_zero, List.getD_cons_succ, List.foldl_cons, List.foldl_nil, Act.put, List.setIfInBounds_toArray, List.set_cons_succ, List.set_cons_zero, h0, h2, h4, h5, h6, h7, h8, h9, h10, h11, h12, h13, h16, h17, h18, h19, h20, h21]
        clear h0 h2 h4 h5 h6 h7 h8 h9 h10 h11 h12 h13 h16 h17 h18 h19 h20 h21
        go_wp2
        go_ret
        exact ⟨rfl, hB⟩
      · clear H060
        go_wp2_with fail
        refine wp_region_partsDC (WCe60 w8 g g12 nk kc nv vc nd dc n ka va da a1 a2 a3 x) 22 [[], [0], [], [0, 1, 2], [0, 1, 2, 3], [0, 1, 2, 3, 4], [0, 1, 2, 3, 4, 5], [0, 1, 2, 3, 4, 5], [0, 1, 2, 3, 4, 5, 6, 7], [0, 1, 2, 3, 4, 5, 6, 7, 8], [0, 1, 2, 3, 4, 5, 6, 7, 8, 9], [0, 1, 2, 3, 4, 5, 6, 7, 8, 9, 10], [0, 1, 2, 3, 4, 5, 6, 7, 8, 9, 10, 11], [0, 1, 2, 3, 4, 5, 6, 7, 8, 9, 10, 11, 12], [0, 1, 2, 3, 4, 5, 6, 7, 8, 9, 10, 11, 12, 13], [0, 1, 2, 3, 4, 5, 6, 7, 8, 9, 10, 11, 12, 13, 14], [0, 1, 2, 3, 4, 5, 6, 7, 8, 9, 10, 11, 12, 13, 14, 15], [0, 1, 2, 3, 4, 5, 6, 7, 8, 9, 10, 11, 12, 13, 14, 15, 16], [0, 1, 2, 3, 4, 5, 6, 7, 8, 9, 10, 11, 12, 13, 14, 15, 16, 17], [0, 1, 2, 3, 4, 5, 6, 7, 8, 9, 10, 11, 12, 13, 14, 15, 16, 17, 18], [0, 1, 2, 3, 4, 5, 6, 7, 8, 9, 10, 11, 12, 13, 14, 15, 16, 17, 18, 19], [0, 1, 2, 3, 4, 5, 6, 7, 8, 9, 10, 11, 12, 13, 14, 15, 16, 17, 18, 19, 20]] [some 103, some 104, some 105, some 106, some 107, some 108, some 109, some 110, some 111, some 112, some 113, some 114, some 115, some 116, some 117, some 118, some 119, some 120, some 121, some 122, some 123, some 2] (by kernel_rfl) (by kernel_rfl) rfl (PCe60 w8 g g12 nk kc nv vc nd dc n ka va da a1 a2 a3 x) (PCe60_stable w8 g g12 nk kc nv vc nd dc n ka va da a1 a2 a3 x ) ?pCe60 ?_
        case pCe60 =>
          intro i hi o ho vs lo hx_ w' hg hp
          match i, hi with
          | 0, _ =>
            obtain rfl := Option.some.inj ho
            clear ho
            simp only [actsD, List.getD_cons_zero, List.getD_cons_succ, List.foldl_cons, List.foldl_nil, Act.put, List.setIfInBounds_toArray, List.set_cons_succ, List.set_cons_zero]
            have hsz := hg.size
            have hgB : Below w8.heap.size w8 w' := hg.below (fun k hk => ⟨hk, fun o => by rintro ⟨j, _, _, _, hw⟩; exact False.elim hw⟩)
            have e0 := (hg.cell (g12) 0 bm.lt (by rintro ⟨j, _, hne, hb, hw⟩; exact False.elim hw)).trans (bm.cell 0 _ rfl)
            have e1 := (hg.cell (g12) 1 bm.lt (by rintro ⟨j, _, hne, hb, hw⟩; exact False.elim hw)).trans (bm.cell 1 _ rfl)
            have e2 := (hg.cell (g12) 2 bm.lt (by rintro ⟨j, _, hne, hb, hw⟩; exact False.elim hw)).trans (bm.cell 2 _ rfl)
            have e3 := (hg.cell (g12) 3 bm.lt (by rintro ⟨j, _, hne, hb, hw⟩; exact False.elim hw)).trans (bm.cell 3 _ rfl)
            have e4 := (hg.cell (g12) 4 bm.lt (by rintro ⟨j, _, hne, hb, hw⟩; exact False.elim hw)).trans (bm.cell 4 _ rfl)
            go_wp2
            exact ⟨_, rfl, GrowC.refl _, rfl⟩
          | 1, _ =>
            obtain rfl := Option.some.inj ho
            clear ho
            simp only [actsD, List.getD_cons_zero, List.getD_cons_succ, List.foldl_cons, List.foldl_nil, Act.put, List.setIfInBounds_toArray, List.set_cons_succ, List.set_cons_zero]
            obtain ⟨_, _, _, h0⟩ := hp 0 (by simp)
            simp only [PCe60] at h0
            have hsz := hg.size
            have hgB : Below w8.heap.size w8 w' := hg.below (fun k hk => ⟨hk, fun o => by rintro ⟨j, _, _, _, hw⟩; exact False.elim hw⟩)
            rw [h0]
            go_wp2_with fail
            refine (to_small _ _ _ _ _ (HM.out.below hgB (Nat.le_refl _)) hsm true n HLF.out HN.out).mono ?_
            rintro e wz ⟨r1, r2, rfl, hr, hb⟩
            go_wp2
            exact ⟨_, rfl, GrowC.of_grow hb, r1, r2, rfl, hr⟩
          | 2, _ =>
            obtain rfl := Option.some.inj ho
            clear ho
            simp only [actsD, List.getD_cons_zero, List.getD_cons_succ, List.foldl_cons, List.foldl_nil, Act.put, List.setIfInBounds_toArray, List.set_cons_succ, List.set_cons_zero]
            have hsz := hg.size
            have hgB : Below w8.heap.size w8 w' := hg.below (fun k hk => ⟨hk, fun o => by rintro ⟨j, _, _, _, hw⟩; exact False.elim hw⟩)
            have e0 := (hg.cell (g) 0 ba.lt (by rintro ⟨j, _, hne, hb, hw⟩; exact False.elim hw)).trans (ba.cell 0 _ rfl)
            have e1 := (hg.cell (g) 1 ba.lt (by rintro ⟨j, _, hne, hb, hw⟩; exact False.elim hw)).trans (ba.cell 1 _ rfl)
            have e2 := (hg.cell (g) 2 ba.lt (by rintro ⟨j, _, hne, hb, hw⟩; exact False.elim hw)).trans (ba.cell 2 _ rfl)
            have e3 := (hg.cell (g) 3 ba.lt (by rintro ⟨j, _, hne, hb, hw⟩; exact False.elim hw)).trans (ba.cell 3 _ rfl)
            have e4 := (hg.cell (g) 4 ba.lt (by rintro ⟨j, _, hne, hb, hw⟩; exact False.elim hw)).trans (ba.cell 4 _ rfl)
            go_wp2
            exact ⟨_, rfl, GrowC.refl _, rfl⟩
          | 3, _ =>
            obtain rfl := Option.some.inj ho
            clear ho
            simp only [actsD, List.getD_cons_zero, List.getD_cons_succ, List.foldl_cons, List.foldl_nil, Act.put, List.setIfInBounds_toArray, List.set_cons_succ, List.set_cons_zero]
            obtain ⟨_, _, _, h2⟩ := hp 2 (by simp)
            simp only [PCe60] at h2
            have hsz := hg.size
            have hgB : Below w8.heap.size w8 w' := hg.below (fun k hk => ⟨hk, fun o => by rintro ⟨j, _, _, _, hw⟩; exact False.elim hw⟩)
            rw [h2]
            go_wp2_with fail
            refine (to_small _ _ _ _ _ (HX.out.below hgB (Nat.le_refl _)) hsm true n HLF.out HN.out).mono ?_
            rintro e wz ⟨r1, r2, rfl, hr, hb⟩
            go_wp2
            exact ⟨_, rfl, GrowC.of_grow hb, r1, r2, rfl, hr⟩
          | 4, _ =>
            obtain rfl := Option.some.inj ho
            clear ho
            simp only [actsD, List.getD_cons_zero, List.getD_cons_succ, List.foldl_cons, List.foldl_nil, Act.put, List.setIfInBounds_toArray, List.set_cons_succ, List.set_cons_zero]
            obtain ⟨_, _, _, h1⟩ := hp 1 (by simp)
            simp only [PCe60] at h1
            obtain ⟨_, _, _, h3⟩ := hp 3 (by simp)
            simp only [PCe60] at h3
            have hsz := hg.size
            have hgB : Below w8.heap.size w8 w' := hg.below (fun k hk => ⟨hk, fun o => by rintro ⟨j, _, _, _, hw⟩; exact False.elim hw⟩)
            obtain ⟨r1, r2, h1, hr1⟩ := h1
            obtain ⟨t1, t2, h3, hq1⟩ := h3
            rw [h1, h3]
            go_wp2_with fail
            refine (same_small _ hsm _ _ _ _ _ _ _ hr1 hq1 _ _).mono ?_
            rintro e wz ⟨rfl, hb⟩
            go_wp2
            exact ⟨_, rfl, GrowC.of_grow hb, rfl⟩
          | 5, _ =>
            obtain rfl := Option.some.inj ho
            clear ho
            simp only [actsD, List.getD_cons_zero, List.getD_cons_succ, List.foldl_cons, List.foldl_nil, Act.put, List.setIfInBounds_toArray, List.set_cons_succ, List.set_cons_zero]
            obtain ⟨_, _, _, h4⟩ := hp 4 (by simp)
            simp only [PCe60] at h4
            have hsz := hg.size
            have hgB : Below w8.heap.size w8 w' := hg.below (fun k hk => ⟨hk, fun o => by rintro ⟨j, _, _, _, hw⟩; exact False.elim hw⟩)
            rw [h4]
            go_wp2
            exact ⟨_, rfl, GrowC.refl _, rfl⟩
          | 6, _ =>
            obtain rfl := Option.some.inj ho
            clear ho
            simp only [actsD, List.getD_cons_zero, List.getD_cons_succ, List.foldl_cons, List.foldl_nil, Act.put, List.setIfInBounds_toArray, List.set_cons_succ, List.set_cons_zero]
            obtain ⟨_, _, _, h5⟩ := hp 5 (by simp)
            simp only [PCe60] at h5
            have hsz := hg.size
            have hgB : Below w8.heap.size w8 w' := hg.below (fun k hk => ⟨hk, fun o => by rintro ⟨j, _, _, _, hw⟩; exact False.elim hw⟩)
            rw [h5]
            go_wp2
            exact ⟨_, rfl, GrowC.refl _, rfl⟩
          | 7, _ =>
            obtain rfl := Option.some.inj ho
            clear ho
            simp only [actsD, List.getD_cons_zero, List.getD_cons_succ, List.foldl_cons, List.foldl_nil, Act.put, List.setIfInBounds_toArray, List.set_cons_succ, List.set_cons_zero]
            obtain ⟨_, _, _, h5⟩ := hp 5 (by simp)
            simp only [PCe60] at h5
            have hsz := hg.size
            have hgB : Below w8.heap.size w8 w' := hg.below (fun k hk => ⟨hk, fun o => by rintro ⟨j, _, _, _, hw⟩; exact False.elim hw⟩)
            rw [h5]
            go_wp2
            exact ⟨_, rfl, GrowC.refl _, rfl⟩
          | 8, _ =>
            obtain rfl := Option.some.inj ho
            clear ho
            simp only [actsD, List.getD_cons_zero, List.getD_cons_succ, List.foldl_cons, List.foldl_nil, Act.put, List.setIfInBounds_toArray, List.set_cons_succ, List.set_cons_zero]
            obtain ⟨_, _, _, h5⟩ := hp 5 (by simp)
            simp only [PCe60] at h5
            obtain ⟨_, _, _, h6⟩ := hp 6 (by simp)
            simp only [PCe60] at h6
            obtain ⟨_, _, _, h7⟩ := hp 7 (by simp)
            simp only [PCe60] at h7
            have hsz := hg.size
            have hgB : Below w8.heap.size w8 w' := hg.below (fun k hk => ⟨hk, fun o => by rintro ⟨j, _, _, _, hw⟩; exact False.elim hw⟩)
            rw [h5, h6, h7]
            go_wp2
            exact ⟨_, rfl, GrowC.refl _, rfl⟩
          | 9, _ =>
            obtain rfl := Option.some.inj ho
            clear ho
            simp only [actsD, List.getD_cons_zero, List.getD_cons_succ, List.foldl_cons, List.foldl_nil, Act.put, List.setIfInBounds_toArray, List.set_cons_succ, List.set_cons_zero]
            obtain ⟨_, _, _, h5⟩ := hp 5 (by simp)
            simp only [PCe60] at h5
            obtain ⟨_, _, _, h8⟩ := hp 8 (by simp)
            simp only [PCe60] at h8
            have hsz := hg.size
            have hgB : Below w8.heap.size w8 w' := hg.below (fun k hk => ⟨hk, fun o => by rintro ⟨j, _, _, _, hw⟩; exact False.elim hw⟩)
            rw [h5, h8]
            go_wp2
            exact ⟨_, rfl, GrowC.refl _, rfl⟩
          | 10, _ =>
            obtain rfl := Option.some.inj ho
            clear ho
            simp only [actsD, List.getD_cons_zero, List.getD_cons_succ, List.foldl_cons, List.foldl_nil, Act.put, List.setIfInBounds_toArray, List.set_cons_succ, List.set_cons_zero]
            obtain ⟨_, _, _, h9⟩ := hp 9 (by simp)
            simp only [PCe60] at h9
            have hsz := hg.size
            have hgB : Below w8.heap.size w8 w' := hg.below (fun k hk => ⟨hk, fun o => by rintro ⟨j, _, _, _, hw⟩; exact False.elim hw⟩)
            rw [h9]
            go_wp2
            exact ⟨_, rfl, GrowC.refl _, rfl⟩
          | 11, _ =>
            obtain rfl := Option.some.inj ho
            clear ho
            simp only [actsD, List.getD_cons_zero, List.getD_cons_succ, List.foldl_cons, List.foldl_nil, Act.put, List.setIfInBounds_toArray, List.set_cons_succ, List.set_cons_zero]
            obtain ⟨_, _, _, h10⟩ := hp 10 (by simp)
            simp only [PCe60] at h10
            have hsz := hg.size
            have hgB : Below w8.heap.size w8 w' := hg.below (fun k hk => ⟨hk, fun o => by rintro ⟨j, _, _, _, hw⟩; exact False.elim hw⟩)
            rw [h10]
            go_wp2
            exact ⟨_, rfl, GrowC.refl _, rfl⟩
          | 12, _ =>
            obtain rfl := Option.some.inj ho
            clear ho
            simp only [actsD, List.getD_cons_zero, List.getD_cons_succ, List.foldl_cons, List.foldl_nil, Act.put, List.setIfInBounds_toArray, List.set_cons_succ, List.set_cons_zero]
            obtain ⟨_, _, _, h10⟩ := hp 10 (by simp)
            simp only [PCe60] at h10
            obtain ⟨_, _, _, h11⟩ := hp 11 (by simp)
            simp only [PCe60] at h11
            have hsz := hg.size
            have hgB : Below w8.heap.size w8 w' := hg.below (fun k hk => ⟨hk, fun o => by rintro ⟨j, _, _, _, hw⟩; exact False.elim hw⟩)
            rw [h10, h11]
            go_wp2
            exact ⟨_, rfl, GrowC.refl _, rfl⟩
          | 13, _ =>
            obtain rfl := Option.some.inj ho
            clear ho
            simp only [actsD, List.getD_cons_zero, List.getD_cons_succ, List.foldl_cons, List.foldl_nil, Act.put, List.setIfInBounds_toArray, List.set_cons_succ, List.set_cons_zero]
            obtain ⟨_, _, _, h10⟩ := hp 10 (by simp)
            simp only [PCe60] at h10
            obtain ⟨_, _, _, h12⟩ := hp 12 (by simp)
            simp only [PCe60] at h12
            have hsz := hg.size
            have hgB : Below w8.heap.size w8 w' := hg.below (fun k hk => ⟨hk, fun o => by rintro ⟨j, _, _, _, hw⟩; exact False.elim hw⟩)
            rw [h10, h12]
            go_wp2
            exact ⟨_, rfl, GrowC.refl _, rfl⟩
          | 14, _ =>
            obtain rfl := Option.some.inj ho
            clear ho
            simp only [actsD, List.getD_cons_zero, List.getD_cons_succ, List.foldl_cons, List.foldl_nil, Act.put, List.setIfInBounds_toArray, List.set_cons_succ, List.set_cons_zero]
            obtain ⟨_, _, _, h13⟩ := hp 13 (by simp)
            simp only [PCe60] at h13
            have hsz := hg.size
            have hgB : Below w8.heap.size w8 w' := hg.below (fun k hk => ⟨hk, fun o => by rintro ⟨j, _, _, _, hw⟩; exact False.elim hw⟩)
            rw [h13]
            go_wp2
            exact ⟨_, rfl, GrowC.refl _, rfl⟩
          | 15, _ =>
            obtain rfl := Option.some.inj ho
            clear ho
            simp only [actsD, List.getD_cons_zero, List.getD_cons_succ, List.foldl_cons, List.foldl_nil, Act.put, List.setIfInBounds_toArray, List.set_cons_succ, List.set_cons_zero]
            obtain ⟨_, _, _, h13⟩ := hp 13 (by simp)
            simp only [PCe60] at h13
            obtain ⟨_, _, _, h14⟩ := hp 14 (by simp)
            simp only [PCe60] at h14
            have hsz := hg.size
            have hgB : Below w8.heap.size w8 w' := hg.below (fun k hk => ⟨hk, fun o => by rintro ⟨j, _, _, _, hw⟩; exact False.elim hw⟩)
            rw [h13, h14]
            go_wp2
            exact ⟨_, rfl, GrowC.refl _, rfl⟩
          | 16, _ =>
            obtain rfl := Option.some.inj ho
            clear ho
            simp only [actsD, List.getD_cons_zero, List.getD_cons_succ, List.foldl_cons, List.foldl_nil, Act.put, List.setIfInBounds_toArray, List.set_cons_succ, List.set_cons_zero]
            obtain ⟨_, _, _, h10⟩ := hp 10 (by simp)
            simp only [PCe60] at h10
            obtain ⟨_, _, _, h13⟩ := hp 13 (by simp)
            simp only [PCe60] at h13
            obtain ⟨_, _, _, h15⟩ := hp 15 (by simp)
            simp only [PCe60] at h15
            have hsz := hg.size
            have hgB : Below w8.heap.size w8 w' := hg.below (fun k hk => ⟨hk, fun o => by rintro ⟨j, _, _, _, hw⟩; exact False.elim hw⟩)
            rw [h10, h13, h15]
            go_wp2
            exact ⟨_, rfl, GrowC.refl _, rfl⟩
          | 17, _ =>
            obtain rfl := Option.some.inj ho
            clear ho
            simp only [actsD, List.getD_cons_zero, List.getD_cons_succ, List.foldl_cons, List.foldl_nil, Act.put, List.setIfInBounds_toArray, List.set_cons_succ, List.set_cons_zero]
            obtain ⟨_, _, _, h10⟩ := hp 10 (by simp)
            simp only [PCe60] at h10
            obtain ⟨_, _, _, h16⟩ := hp 16 (by simp)
            simp only [PCe60] at h16
            have hsz := hg.size
            have hgB : Below w8.heap.size w8 w' := hg.below (fun k hk => ⟨hk, fun o => by rintro ⟨j, _, _, _, hw⟩; exact False.elim hw⟩)
            rw [h10, h16]
            go_wp2
            exact ⟨_, rfl, GrowC.refl _, rfl⟩
          | 18, _ =>
            obtain rfl := Option.some.inj ho
            clear ho
            simp only [actsD, List.getD_cons_zero, List.getD_cons_succ, List.foldl_cons, List.foldl_nil, Act.put, List.setIfInBounds_toArray, List.set_cons_succ, List.set_cons_zero]
            obtain ⟨_, _, _, h17⟩ := hp 17 (by simp)
            simp only [PCe60] at h17
            have hsz := hg.size
            have hgB : Below w8.heap.size w8 w' := hg.below (fun k hk => ⟨hk, fun o => by rintro ⟨j, _, _, _, hw⟩; exact False.elim hw⟩)
            rw [h17]
            go_wp2
            exact ⟨_, rfl, GrowC.refl _, rfl⟩
          | 19, _ =>
            obtain rfl := Option.some.inj ho
            clear ho
            simp only [actsD, List.getD_cons_zero, List.getD_cons_succ, List.foldl_cons, List.foldl_nil, Act.put, List.setIfInBounds_toArray, List.set_cons_succ, List.set_cons_zero]
            obtain ⟨_, _, _, h18⟩ := hp 18 (by simp)
            simp only [PCe60] at h18
            have hsz := hg.size
            have hgB : Below w8.heap.size w8 w' := hg.below (fun k hk => ⟨hk, fun o => by rintro ⟨j, _, _, _, hw⟩; exact False.elim hw⟩)
            rw [h18]
            go_wp2_with fail
            refine (awake_any _).mono ?_
            rintro e wz ⟨rfl, hb⟩
            go_wp2
            exact ⟨_, rfl, GrowC.of_grow hb, rfl⟩
          | 20, _ =>
            obtain rfl := Option.some.inj ho
            clear ho
            simp only [actsD, List.getD_cons_zero, List.getD_cons_succ, List.foldl_cons, List.foldl_nil, Act.put, List.setIfInBounds_toArray, List.set_cons_succ, List.set_cons_zero]
            obtain ⟨_, _, _, h18⟩ := hp 18 (by simp)
            simp only [PCe60] at h18
            obtain ⟨_, _, _, h19⟩ := hp 19 (by simp)
            simp only [PCe60] at h19
            have hsz := hg.size
            have hgB : Below w8.heap.size w8 w' := hg.below (fun k hk => ⟨hk, fun o => by rintro ⟨j, _, _, _, hw⟩; exact False.elim hw⟩)
            rw [h18, h19]
            go_wp2
            exact ⟨_, rfl, GrowC.refl _, rfl⟩
          | 21, _ =>
            obtain rfl := Option.some.inj ho
            clear ho
            simp only [actsD, List.getD_cons_zero, List.getD_cons_succ, List.foldl_cons, List.foldl_nil, Act.put, List.setIfInBounds_toArray, List.set_cons_succ, List.set_cons_zero]
            obtain ⟨_, _, _, h20⟩ := hp 20 (by simp)
            simp only [PCe60] at h20
            have hsz := hg.size
            have hgB : Below w8.heap.size w8 w' := hg.below (fun k hk => ⟨hk, fun o => by rintro ⟨j, _, _, _, hw⟩; exact False.elim hw⟩)
            rw [h20]
            go_wp2
            exact ⟨_, rfl, GrowC.refl _, rfl⟩
          | (q + 22), hq => exact absurd hq (by omega)
        intro vS lo hi w9 hg hp hd
        obtain ⟨_, _, _, h0⟩ := hp 0 (by omega)
        obtain ⟨_, _, _, h1⟩ := hp 1 (by omega)
        obtain ⟨_, _, _, h2⟩ := hp 2 (by omega)
        obtain ⟨_, _, _, h3⟩ := hp 3 (by omega)
        obtain ⟨_, _, _, h4⟩ := hp 4 (by omega)
        obtain ⟨_, _, _, h5⟩ := hp 5 (by omega)
        obtain ⟨_, _, _, h6⟩ := hp 6 (by omega)
        obtain ⟨_, _, _, h7⟩ := hp 7 (by omega)
        obtain ⟨_, _, _, h8⟩ := hp 8 (by omega)
        obtain ⟨_, _, _, h9⟩ := hp 9 (by omega)
        obtain ⟨_, _, _, h10⟩ := hp 10 (by omega)
        obtain ⟨_, _, _, h11⟩ := hp 11 (by omega)
        obtain ⟨_, _, _, h12⟩ := hp 12 (by omega)
        obtain ⟨_, _, _, h13⟩ := hp 13 (by omega)
        obtain ⟨_, _, _, h14⟩ := hp 14 (by omega)
        obtain ⟨_, _, _, h15⟩ := hp 15 (by omega)
        obtain ⟨_, _, _, h16⟩ := hp 16 (by omega)
        obtain ⟨_, _, _, h17⟩ := hp 17 (by omega)
        obtain ⟨_, _, _, h18⟩ := hp 18 (by omega)
        obtain ⟨_, _, _, h19⟩ := hp 19 (by omega)
        obtain ⟨_, _, _, h20⟩ := hp 20 (by omega)
        obtain ⟨_, _, _, h21⟩ := hp 21 (by omega)
        simp only [PCe60] at h0 h1 h2 h3 h4 h5 h6 h7 h8 h9 h10 h11 h12 h13 h14 h15 h16 h17 h18 h19 h20 h21
        clear hp hd
        have hsz := hg.size
        replace ba := ba.grow hg (by intro i _; rintro ⟨j, _, hw⟩; exact False.elim hw)
        replace bm := bm.grow hg (by intro i _; rintro ⟨j, _, hw⟩; exact False.elim hw)
        replace hB := hB.trans (hg.below (fun k hk => ⟨by omega, fun o => by rintro ⟨j, _, hw⟩; exact False.elim hw⟩))
        have hr : List.range 22 = [0, 1, 2, 3, 4, 5, 6, 7, 8, 9, 10, 11, 12, 13, 14, 15, 16, 17, 18, 19, 20, 21] := rfl
        rw [hr]
        clear hr
        simp only [List.drop_succ_cons, List.drop_zero, List.drop_nil, actsD, List.getD_cons_zero, List.getD_cons_succ, List.foldl_cons, List.foldl_nil, Act.put, List.setIfInBounds_toArray, List.set_cons_succ, List.set_cons_zero, h0, h2, h4, h5, h6, h7, h8, h9, h10, h11, h12, h13, h14, h15, h16, h17, h18, h19, h20, h21]
        clear h0 h2 h4 h5 h6 h7 h8 h9 h10 h11 h12 h13 h14 h15 h16 h17 h18 h19 h20 h21
        go_wp2
        go_ret
        exact ⟨rfl, hB⟩
  · obtain rfl : r = false := by cases r with | false => rfl | true => exact absurd (hr.1 rfl) hf
    clear hr hf
    go_wp2_with fail
    refine (awake_any _).mono ?_
    rintro e w2 ⟨rfl, hb2⟩
    have hBB := hB.trans (hb2.mono (by omega))
    clear hB hb2
    go_wp2
    go_ret
    exact ⟨rfl, hBB⟩

theorem cuts_any (x : Nd) (hsm : x.small) (ks vs ds : Value) (w : World) (hx : NodeAt w ks vs ds x) :
    Calls Try.prog 3 #[.agg #[.bool x.leaf, ks, vs, ds, .int .i64 x.next]] w fun e w' => e = .returned (.bool true) ∧ Below w.heap.size w w' := by
  cases h : x.leaf with
  | true => exact cuts_true x h hsm ks vs ds w hx x.next rfl
  | false => exact cuts_false x h hsm ks vs ds w hx x.next rfl

end Go.Proofs.Ytfbblgcdggpehaa

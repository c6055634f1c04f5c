/- The law LockPlays, walked. Conditions: at most 349525 wants in all. -/
import Derived.Test.YtoghmllkaafckaaLkPlaysK
import Derived.Deep.DeepCutAuto
import Derived.Deep.CutBlock
namespace Go.Proofs.Ytoghmllkaafckaa
set_option linter.unusedSimpArgs false
set_option linter.unusedVariables false
open Go.RowKit

/-- where the walk stands: both tables, apart, with the same locks -/
structure At7 (w : World) (tb tq : Nat) (T M : List Hd) (N : Nat) (S R : Nat → Prop) (wr : World) : Prop where
  tab : LT w tb T N S wr
  ref : LQ w tq M N R wr
  sep : Disj S R
  uT : Uniq T
  uM : Uniq M
  same : ∀ x, x ∈ T ↔ x ∈ M
theorem At7.below {w wr wr' : World} {tb tq N : Nat} {T M : List Hd} {S R : Nat → Prop} (h : At7 w tb tq T M N S R wr) (hb : Below wr.heap.size wr wr') : At7 w tb tq T M N S R wr' :=
  ⟨h.tab.below hb, h.ref.below hb, h.sep, h.uT, h.uM, h.same⟩
theorem At7.more {w wr : World} {tb tq N K : Nat} {T M : List Hd} {S R : Nat → Prop} (h : At7 w tb tq T M N S R wr) (hN : N ≤ K) : At7 w tb tq T M K S R wr :=
  ⟨h.tab.more hN, h.ref.more hN, h.sep, h.uT, h.uM, h.same⟩
theorem At7.bel {w wr : World} {tb tq N : Nat} {T M : List Hd} {S R : Nat → Prop} (h : At7 w tb tq T M N S R wr) : Below w.heap.size w wr := h.tab.bel
theorem At7.start {w w1 : World} {tb : Nat} {S : Nat → Prop} (h : LT w tb [] 0 S w1) (ty : TypeId) : At7 w tb w1.heap.size [] [] 0 S (fun k => k = w1.heap.size ∨ (Value.slice none 0 0).ownBlock = some k) (w1.alloc (.cells #[.slice none 0 0] ty)) := by
  have hal : Below w1.heap.size w1 (w1.alloc (.cells #[.slice none 0 0] ty)) := (Below.refl w1.heap.size w1).alloc (Nat.le_refl _) _
  refine ⟨h.below hal, ⟨.slice none 0 0, 0, ⟨Box.new w1 #[.slice none 0 0] ty rfl, World.ownsRow_nil _ _ _ _, (fun h => by cases h), rfl⟩, Nat.le_refl _, h.bel.size, h.bel.trans (hal.mono h.bel.size), rfl⟩, fun k hs hr => ?_, uniq_nil, uniq_nil, fun _ => Iff.rfl⟩
  rcases hr with rfl | hr
  · have := (h.lt _ hs).2; omega
  · cases hr

/-- what the two calls of Take write -/
def WPl (S R : Nat → Prop) (j b : Nat) : Prop := (j = 5 ∧ S b) ∨ (j = 12 ∧ R b)
def PPl (w : World) (tb tq gx HZ N nl : Nat) (x2 : Int) (al : Option Addr) (cl : Nat) (lw : List Wn) (T2 : List Hd) (b0 : Bool) (S R : Nat → Prop) (i : Nat) (v : Value) (lo hi : Nat) (wv : World) : Prop :=
  match i with
  | 0 => v = .pointer (some ⟨tb, 0, none⟩)
  | 1 => v = .pointer (some ⟨gx, 1, none⟩)
  | 2 => v = .int .i64 x2
  | 3 => v = .pointer (some ⟨gx, 2, none⟩)
  | 4 => v = .slice al nl cl
  | 5 => v = .bool b0 ∧ HZ ≤ lo ∧ ∃ S', LT w tb T2 (N + nl) S' wv ∧ (∀ k, S' k → S k ∨ (lo ≤ k ∧ k < hi))
  | 6 => v = .pointer (some ⟨tq, 0, none⟩)
  | 7 => v = .pointer (some ⟨gx, 1, none⟩)
  | 8 => v = .int .i64 x2
  | 9 => v = .pointer (some ⟨gx, 2, none⟩)
  | 10 => v = .slice al nl cl
  | 11 => ∃ a cp, v = .slice a nl cp ∧ Reads 2 wv (.slice a nl cp) nl (wcells lw) ∧ ∀ b, (Value.slice a nl cp).ownBlock = some b → HZ ≤ b ∧ b < wv.heap.size
  | 12 => v = .bool b0 ∧ HZ ≤ lo ∧ ∃ R' M', Uniq M' ∧ (∀ x, x ∈ M' ↔ x ∈ T2) ∧ LQ w tq M' (N + nl) R' wv ∧ (∀ k, R' k → R k ∨ (lo ≤ k ∧ k < hi))
  | _ => True
theorem PPl_stable (w : World) (tb tq gx HZ N nl : Nat) (x2 : Int) (al : Option Addr) (cl : Nat) (lw : List Wn) (T2 : List Hd) (b0 : Bool) (S R : Nat → Prop) (hS : ∀ k, S k → w.heap.size ≤ k ∧ k < HZ) (hR : ∀ k, R k → w.heap.size ≤ k ∧ k < HZ) (hD : Disj S R) :
    ∀ i j, i < 13 → j < 13 → j ≠ i → j ∉ ([[], [], [1], [], [3], [0, 1, 2, 3, 4], [], [], [7], [], [9], [0, 1, 2, 3, 4, 5, 9, 10], [0, 1, 2, 3, 4, 5, 6, 7, 8, 9, 10, 11]] : List (List Nat)).getD i [] → (i, j) ∉ ([] : List (Nat × Nat)) → ∀ v lo hi wv wv', PPl w tb tq gx HZ N nl x2 al cl lw T2 b0 S R i v lo hi wv → GrowX (WPl S R j) wv wv' → PPl w tb tq gx HZ N nl x2 al cl lw T2 b0 S R i v lo hi wv' := by
  intro i j hi hj hne hbs _ v lo hj2 wv wv' h hg
  have hlt : ∀ k, WPl S R j k → w.heap.size ≤ k ∧ k < HZ := fun k hk => hk.elim (fun h => hS k h.2) (fun h => hR k h.2)
  match i, hi with
  | 0, _ => exact h
  | 1, _ => exact h
  | 2, _ => exact h
  | 3, _ => exact h
  | 4, _ => exact h
  | 5, _ =>
    simp only [PPl] at h ⊢
    obtain ⟨h0, hz, S', h1, h2⟩ := h
    refine ⟨h0, hz, S', h1.grow hg (fun k hs hw => hw.elim (fun h => hne h.1) (fun hr => (h2 k hs).elim (fun hs => hD k hs hr.2) (fun hq => by have := (hR k hr.2).2; omega))) (h1.bel.trans (hg.below (fun k hk => ⟨Nat.lt_of_lt_of_le hk h1.bel.size, fun hw => by have := (hlt k hw).1; omega⟩))), h2⟩
  | 6, _ => exact h
  | 7, _ => exact h
  | 8, _ => exact h
  | 9, _ => exact h
  | 10, _ => exact h
  | 11, _ =>
    simp only [PPl] at h ⊢
    obtain ⟨a, cp, h1, h2, h3⟩ := h
    exact ⟨a, cp, h1, h2.growx hg (fun b hb hw => by have := (hlt b hw).2; have := (h3 b hb).1; omega), fun b hb => ⟨(h3 b hb).1, Nat.lt_of_lt_of_le (h3 b hb).2 hg.size⟩⟩
  | 12, _ =>
    simp only [PPl] at h ⊢
    obtain ⟨h0, hz, R', M', hu, hm, h1, h2⟩ := h
    refine ⟨h0, hz, R', M', hu, hm, h1.grow hg (fun k hs hw => hw.elim (fun hr => (h2 k hs).elim (fun hs => hD k hr.2 hs) (fun hq => by have := (hS k hr.2).2; omega)) (fun h => hne h.1)) (h1.bel.trans (hg.below (fun k hk => ⟨Nat.lt_of_lt_of_le hk h1.bel.size, fun hw => by have := (hlt k hw).1; omega⟩))), h2⟩
  | (q + 13), hq => exact absurd hq (by omega)

theorem wpl_below {w wa w' : World} {HZ : Nat} {S R Y : Nat → Prop} (hS : ∀ k, S k → w.heap.size ≤ k ∧ k < HZ) (hR : ∀ k, R k → w.heap.size ≤ k ∧ k < HZ) (hY : ∀ b, Y b → ∃ j, WPl S R j b) (hg : GrowX Y wa w') (hb : Below w.heap.size w wa) : Below w.heap.size w w' :=
  hb.trans (hg.below (fun k hk => ⟨Nat.lt_of_lt_of_le hk hb.size, fun hy => by
    obtain ⟨j, h⟩ := hY k hy
    rcases h with h | h
    · have := (hS k h.2).1; omega
    · have := (hR k h.2).1; omega⟩))
theorem took_same {T M : List Hd} (hT : Uniq T) (hM : Uniq M) (hs : ∀ x, x ∈ T ↔ x ∈ M) (id : Int) (l : List Wn) (q : Prop) [Decidable q] (x : Hd) : x ∈ (if q then tookL M id l else M) ↔ x ∈ (if q then tookL T id l else T) := by
  split
  · simp only [mem_tookL, hs, goal_congr hT hM hs]
  · exact (hs x).symm
theorem release_same {T M : List Hd} (hs : ∀ x, x ∈ T ↔ x ∈ M) (id : Int) (x : Hd) : x ∈ releaseL T id ↔ x ∈ releaseL M id := by
  simp only [mem_releaseL, hs]
def WPy17 (tb tq gx nl cl NN : Nat) (x1 x2 : Int) (al : Option Addr) (T3 M3 : List Hd) (j b o : Nat) : Prop := False
def PPy17 (tb tq gx nl cl NN : Nat) (x1 x2 : Int) (al : Option Addr) (T3 M3 : List Hd) (i : Nat) (v : Value) (lo hi : Nat) (w : World) : Prop :=
  match i with
  | 0 => v = .pointer (some ⟨tb, 0, none⟩)
  | 1 => v = .pointer (some ⟨gx, 1, none⟩)
  | 2 => v = .int .i64 x2
  | 3 => ∃ c ao m cp, v = .slice ao m cp ∧ IsHeld T3 x2 c ∧ c.length = m ∧ m ≤ NN ∧ Reads 2 w (.slice ao m cp) m (wcells c)
  | 4 => v = .pointer (some ⟨tq, 0, none⟩)
  | 5 => v = .pointer (some ⟨gx, 1, none⟩)
  | 6 => v = .int .i64 x2
  | 7 => ∃ c ao m cp, v = .slice ao m cp ∧ IsHeld M3 x2 c ∧ c.length = m ∧ m ≤ NN ∧ Reads 2 w (.slice ao m cp) m (wcells c)
  | _ => True
theorem PPy17_stable (tb tq gx nl cl NN : Nat) (x1 x2 : Int) (al : Option Addr) (T3 M3 : List Hd)  : ∀ i j, i < 8 → j < 8 → j ≠ i → j ∉ ([[], [], [1], [0, 1, 2], [], [], [5], [0, 1, 2, 3, 4, 5, 6]] : List (List Nat)).getD i [] → ∀ v lo hi w w', PPy17 tb tq gx nl cl NN x1 x2 al T3 M3 i v lo hi w → GrowC (WPy17 tb tq gx nl cl NN x1 x2 al T3 M3 j) w w' → PPy17 tb tq gx nl cl NN x1 x2 al T3 M3 i v lo hi w' := by
  intro i j hi hj hne hbs v lo hj2 w w' h hg
  match i, hi with
  | 0, _ =>
    simp only [PPy17] at h ⊢
    exact h
  | 1, _ =>
    simp only [PPy17] at h ⊢
    exact h
  | 2, _ =>
    simp only [PPy17] at h ⊢
    exact h
  | 3, _ =>
    simp only [PPy17] at h ⊢
    obtain ⟨c, ao, m, cp, h1, h2, h3, h4, h5⟩ := h
    exact ⟨c, ao, m, cp, h1, h2, h3, h4, h5.below (hg.below (fun k hk => ⟨hk, fun o hw => hw⟩)) (Nat.le_refl _)⟩
  | 4, _ =>
    simp only [PPy17] at h ⊢
    exact h
  | 5, _ =>
    simp only [PPy17] at h ⊢
    exact h
  | 6, _ =>
    simp only [PPy17] at h ⊢
    exact h
  | 7, _ =>
    simp only [PPy17] at h ⊢
    obtain ⟨c, ao, m, cp, h1, h2, h3, h4, h5⟩ := h
    exact ⟨c, ao, m, cp, h1, h2, h3, h4, h5.below (hg.below (fun k hk => ⟨hk, fun o hw => hw⟩)) (Nat.le_refl _)⟩
  | (q + 8), hq => exact absurd hq (by omega)
def WPy23 (tb tq ba oa m ca bb ob cb ix : Nat) (y1 : ByteArray) (y2 : Int) (M3 : List Hd) (j b o : Nat) : Prop := False
def PPy23 (tb tq ba oa m ca bb ob cb ix : Nat) (y1 : ByteArray) (y2 : Int) (M3 : List Hd) (i : Nat) (v : Value) (lo hi : Nat) (w : World) : Prop :=
  match i with
  | 0 => v = .slice (some ⟨ba, oa, none⟩) m ca
  | 1 => v = .int .i64 ((ix : Nat) : Int)
  | 2 => v = .pointer (some ⟨ba, oa + ix * 2, none⟩)
  | 3 => v = .pointer (some ⟨ba, oa + ix * 2, none⟩)
  | 4 => v = .string y1
  | 5 => v = .slice (some ⟨bb, ob, none⟩) m cb
  | 6 => v = .int .i64 ((ix : Nat) : Int)
  | 7 => v = .pointer (some ⟨bb, ob + ix * 2, none⟩)
  | 8 => v = .pointer (some ⟨bb, ob + ix * 2, none⟩)
  | 9 => v = .string y1
  | 10 => v = .bool false
  | 11 => v = .bool false
  | 12 => v = .slice (some ⟨ba, oa, none⟩) m ca
  | 13 => v = .int .i64 ((ix : Nat) : Int)
  | 14 => v = .pointer (some ⟨ba, oa + ix * 2, none⟩)
  | 15 => v = .pointer (some ⟨ba, oa + ix * 2 + 1, none⟩)
  | 16 => v = .int .i64 y2
  | 17 => v = .slice (some ⟨bb, ob, none⟩) m cb
  | 18 => v = .int .i64 ((ix : Nat) : Int)
  | 19 => v = .pointer (some ⟨bb, ob + ix * 2, none⟩)
  | 20 => v = .pointer (some ⟨bb, ob + ix * 2 + 1, none⟩)
  | 21 => v = .int .i64 y2
  | 22 => v = .bool false
  | 23 => v = .bool false
  | 24 => v = .bool false
  | 25 => v = .pointer (some ⟨tb, 0, none⟩)
  | 26 => v = .slice (some ⟨ba, oa, none⟩) m ca
  | 27 => v = .int .i64 ((ix : Nat) : Int)
  | 28 => v = .pointer (some ⟨ba, oa + ix * 2, none⟩)
  | 29 => v = .pointer (some ⟨ba, oa + ix * 2, none⟩)
  | 30 => v = .string y1
  | 31 => ∃ ao m cp, v = .slice ao m cp ∧ (rholdL y1 M3).length = m ∧ m ≤ 1048576 ∧ Reads 1 w (.slice ao m cp) m ((rholdL y1 M3).map (Value.int .i64))
  | 32 => v = .pointer (some ⟨tq, 0, none⟩)
  | 33 => v = .slice (some ⟨ba, oa, none⟩) m ca
  | 34 => v = .int .i64 ((ix : Nat) : Int)
  | 35 => v = .pointer (some ⟨ba, oa + ix * 2, none⟩)
  | 36 => v = .pointer (some ⟨ba, oa + ix * 2, none⟩)
  | 37 => v = .string y1
  | 38 => ∃ ao m cp, v = .slice ao m cp ∧ (rholdL y1 M3).length = m ∧ m ≤ 1048576 ∧ Reads 1 w (.slice ao m cp) m ((rholdL y1 M3).map (Value.int .i64))
  | 39 => v = .bool true
  | 40 => v = .bool false
  | _ => True
theorem PPy23_stable (tb tq ba oa m ca bb ob cb ix : Nat) (y1 : ByteArray) (y2 : Int) (M3 : List Hd)  : ∀ i j, i < 41 → j < 41 → j ≠ i → j ∉ ([[], [], [0, 1], [0, 1, 2], [0, 1, 2, 3], [], [], [5, 6], [5, 6, 7], [5, 6, 7, 8], [0, 1, 2, 3, 4, 5, 6, 7, 8, 9], [0, 1, 2, 3, 4, 5, 6, 7, 8, 9, 10], [0, 1, 2, 3, 4, 5, 6, 7, 8, 9, 10, 11], [0, 1, 2, 3, 4, 5, 6, 7, 8, 9, 10, 11], [0, 1, 2, 3, 4, 5, 6, 7, 8, 9, 10, 11, 12, 13], [0, 1, 2, 3, 4, 5, 6, 7, 8, 9, 10, 11, 12, 13, 14], [0, 1, 2, 3, 4, 5, 6, 7, 8, 9, 10, 11, 12, 13, 14, 15], [0, 1, 2, 3, 4, 5, 6, 7, 8, 9, 10, 11], [0, 1, 2, 3, 4, 5, 6, 7, 8, 9, 10, 11], [0, 1, 2, 3, 4, 5, 6, 7, 8, 9, 10, 11, 17, 18], [0, 1, 2, 3, 4, 5, 6, 7, 8, 9, 10, 11, 17, 18, 19], [0, 1, 2, 3, 4, 5, 6, 7, 8, 9, 10, 11, 17, 18, 19, 20], [0, 1, 2, 3, 4, 5, 6, 7, 8, 9, 10, 11, 12, 13, 14, 15, 16, 17, 18, 19, 20, 21], [0, 1, 2, 3, 4, 5, 6, 7, 8, 9, 10, 11, 12, 13, 14, 15, 16, 17, 18, 19, 20, 21, 22], [0, 1, 2, 3, 4, 5, 6, 7, 8, 9, 10, 11, 12, 13, 14, 15, 16, 17, 18, 19, 20, 21, 22, 23], [0, 1, 2, 3, 4, 5, 6, 7, 8, 9, 10, 11, 12, 13, 14, 15, 16, 17, 18, 19, 20, 21, 22, 23, 24], [0, 1, 2, 3, 4, 5, 6, 7, 8, 9, 10, 11, 12, 13, 14, 15, 16, 17, 18, 19, 20, 21, 22, 23, 24], [0, 1, 2, 3, 4, 5, 6, 7, 8, 9, 10, 11, 12, 13, 14, 15, 16, 17, 18, 19, 20, 21, 22, 23, 24], [0, 1, 2, 3, 4, 5, 6, 7, 8, 9, 10, 11, 12, 13, 14, 15, 16, 17, 18, 19, 20, 21, 22, 23, 24, 26, 27], [0, 1, 2, 3, 4, 5, 6, 7, 8, 9, 10, 11, 12, 13, 14, 15, 16, 17, 18, 19, 20, 21, 22, 23, 24, 26, 27, 28], [0, 1, 2, 3, 4, 5, 6, 7, 8, 9, 10, 11, 12, 13, 14, 15, 16, 17, 18, 19, 20, 21, 22, 23, 24, 26, 27, 28, 29], [0, 1, 2, 3, 4, 5, 6, 7, 8, 9, 10, 11, 12, 13, 14, 15, 16, 17, 18, 19, 20, 21, 22, 23, 24, 25, 26, 27, 28, 29, 30], [0, 1, 2, 3, 4, 5, 6, 7, 8, 9, 10, 11, 12, 13, 14, 15, 16, 17, 18, 19, 20, 21, 22, 23, 24], [0, 1, 2, 3, 4, 5, 6, 7, 8, 9, 10, 11, 12, 13, 14, 15, 16, 17, 18, 19, 20, 21, 22, 23, 24], [0, 1, 2, 3, 4, 5, 6, 7, 8, 9, 10, 11, 12, 13, 14, 15, 16, 17, 18, 19, 20, 21, 22, 23, 24], [0, 1, 2, 3, 4, 5, 6, 7, 8, 9, 10, 11, 12, 13, 14, 15, 16, 17, 18, 19, 20, 21, 22, 23, 24, 33, 34], [0, 1, 2, 3, 4, 5, 6, 7, 8, 9, 10, 11, 12, 13, 14, 15, 16, 17, 18, 19, 20, 21, 22, 23, 24, 33, 34, 35], [0, 1, 2, 3, 4, 5, 6, 7, 8, 9, 10, 11, 12, 13, 14, 15, 16, 17, 18, 19, 20, 21, 22, 23, 24, 33, 34, 35, 36], [0, 1, 2, 3, 4, 5, 6, 7, 8, 9, 10, 11, 12, 13, 14, 15, 16, 17, 18, 19, 20, 21, 22, 23, 24, 25, 26, 27, 28, 29, 30, 31, 32, 33, 34, 35, 36, 37], [0, 1, 2, 3, 4, 5, 6, 7, 8, 9, 10, 11, 12, 13, 14, 15, 16, 17, 18, 19, 20, 21, 22, 23, 24, 25, 26, 27, 28, 29, 30, 31, 32, 33, 34, 35, 36, 37, 38], [0, 1, 2, 3, 4, 5, 6, 7, 8, 9, 10, 11, 12, 13, 14, 15, 16, 17, 18, 19, 20, 21, 22, 23, 24, 25, 26, 27, 28, 29, 30, 31, 32, 33, 34, 35, 36, 37, 38, 39]] : List (List Nat)).getD i [] → ∀ v lo hi w w', PPy23 tb tq ba oa m ca bb ob cb ix y1 y2 M3 i v lo hi w → GrowC (WPy23 tb tq ba oa m ca bb ob cb ix y1 y2 M3 j) w w' → PPy23 tb tq ba oa m ca bb ob cb ix y1 y2 M3 i v lo hi w' := by
  intro i j hi hj hne hbs v lo hj2 w w' h hg
  match i, hi with
  | 0, _ =>
    simp only [PPy23] at h ⊢
    exact h
  | 1, _ =>
    simp only [PPy23] at h ⊢
    exact h
  | 2, _ =>
    simp only [PPy23] at h ⊢
    exact h
  | 3, _ =>
    simp only [PPy23] at h ⊢
    exact h
  | 4, _ =>
    simp only [PPy23] at h ⊢
    exact h
  | 5, _ =>
    simp only [PPy23] at h ⊢
    exact h
  | 6, _ =>
    simp only [PPy23] at h ⊢
    exact h
  | 7, _ =>
    simp only [PPy23] at h ⊢
    exact h
  | 8, _ =>
    simp only [PPy23] at h ⊢
    exact h
  | 9, _ =>
    simp only [PPy23] at h ⊢
    exact h
  | 10, _ =>
    simp only [PPy23] at h ⊢
    exact h
  | 11, _ =>
    simp only [PPy23] at h ⊢
    exact h
  | 12, _ =>
    simp only [PPy23] at h ⊢
    exact h
  | 13, _ =>
    simp only [PPy23] at h ⊢
    exact h
  | 14, _ =>
    simp only [PPy23] at h ⊢
    exact h
  | 15, _ =>
    simp only [PPy23] at h ⊢
    exact h
  | 16, _ =>
    simp only [PPy23] at h ⊢
    exact h
  | 17, _ =>
    simp only [PPy23] at h ⊢
    exact h
  | 18, _ =>
    simp only [PPy23] at h ⊢
    exact h
  | 19, _ =>
    simp only [PPy23] at h ⊢
    exact h
  | 20, _ =>
    simp only [PPy23] at h ⊢
    exact h
  | 21, _ =>
    simp only [PPy23] at h ⊢
    exact h
  | 22, _ =>
    simp only [PPy23] at h ⊢
    exact h
  | 23, _ =>
    simp only [PPy23] at h ⊢
    exact h
  | 24, _ =>
    simp only [PPy23] at h ⊢
    exact h
  | 25, _ =>
    simp only [PPy23] at h ⊢
    exact h
  | 26, _ =>
    simp only [PPy23] at h ⊢
    exact h
  | 27, _ =>
    simp only [PPy23] at h ⊢
    exact h
  | 28, _ =>
    simp only [PPy23] at h ⊢
    exact h
  | 29, _ =>
    simp only [PPy23] at h ⊢
    exact h
  | 30, _ =>
    simp only [PPy23] at h ⊢
    exact h
  | 31, _ =>
    simp only [PPy23] at h ⊢
    obtain ⟨ao, m, cp, h1, h2, h3, h4⟩ := h
    exact ⟨ao, m, cp, h1, h2, h3, h4.below (hg.below (fun k hk => ⟨hk, fun o hw => hw⟩)) (Nat.le_refl _)⟩
  | 32, _ =>
    simp only [PPy23] at h ⊢
    exact h
  | 33, _ =>
    simp only [PPy23] at h ⊢
    exact h
  | 34, _ =>
    simp only [PPy23] at h ⊢
    exact h
  | 35, _ =>
    simp only [PPy23] at h ⊢
    exact h
  | 36, _ =>
    simp only [PPy23] at h ⊢
    exact h
  | 37, _ =>
    simp only [PPy23] at h ⊢
    exact h
  | 38, _ =>
    simp only [PPy23] at h ⊢
    obtain ⟨ao, m, cp, h1, h2, h3, h4⟩ := h
    exact ⟨ao, m, cp, h1, h2, h3, h4.below (hg.below (fun k hk => ⟨hk, fun o hw => hw⟩)) (Nat.le_refl _)⟩
  | 39, _ =>
    simp only [PPy23] at h ⊢
    exact h
  | 40, _ =>
    simp only [PPy23] at h ⊢
    exact h
  | (q + 41), hq => exact absurd hq (by omega)
def WPy16 (tb tq gx nl cl : Nat) (x1 x2 : Int) (al : Option Addr) (lw : List Wn) (c0 : List Int) (j b o : Nat) : Prop := False
def PPy16 (tb tq gx nl cl : Nat) (x1 x2 : Int) (al : Option Addr) (lw : List Wn) (c0 : List Int) (i : Nat) (v : Value) (lo hi : Nat) (w : World) : Prop :=
  match i with
  | 0 => v = .pointer (some ⟨tb, 0, none⟩)
  | 1 => v = .pointer (some ⟨gx, 1, none⟩)
  | 2 => v = .int .i64 x2
  | 3 => v = .pointer (some ⟨gx, 2, none⟩)
  | 4 => v = .slice al nl cl
  | 5 => ∃ ao m cp, v = .slice ao m cp ∧ c0.length = m ∧ m ≤ 1099511627776 ∧ Reads 1 w (.slice ao m cp) m (c0.map (Value.int .i64))
  | 6 => v = .pointer (some ⟨tq, 0, none⟩)
  | 7 => v = .pointer (some ⟨gx, 1, none⟩)
  | 8 => v = .int .i64 x2
  | 9 => v = .pointer (some ⟨gx, 2, none⟩)
  | 10 => v = .slice al nl cl
  | 11 => ∃ ao cp, v = .slice ao nl cp ∧ Reads 2 w (.slice ao nl cp) nl (wcells lw)
  | 12 => ∃ ao m cp, v = .slice ao m cp ∧ c0.length = m ∧ m ≤ 1099511627776 ∧ Reads 1 w (.slice ao m cp) m (c0.map (Value.int .i64))
  | 13 => v = .bool true
  | _ => True
theorem PPy16_stable (tb tq gx nl cl : Nat) (x1 x2 : Int) (al : Option Addr) (lw : List Wn) (c0 : List Int)  : ∀ i j, i < 14 → j < 14 → j ≠ i → j ∉ ([[], [], [1], [], [3], [0, 1, 2, 3, 4], [], [], [7], [], [9], [0, 1, 2, 3, 4, 5, 9, 10], [0, 1, 2, 3, 4, 5, 6, 7, 8, 9, 10, 11], [0, 1, 2, 3, 4, 5, 6, 7, 8, 9, 10, 11, 12]] : List (List Nat)).getD i [] → ∀ v lo hi w w', PPy16 tb tq gx nl cl x1 x2 al lw c0 i v lo hi w → GrowC (WPy16 tb tq gx nl cl x1 x2 al lw c0 j) w w' → PPy16 tb tq gx nl cl x1 x2 al lw c0 i v lo hi w' := by
  intro i j hi hj hne hbs v lo hj2 w w' h hg
  match i, hi with
  | 0, _ =>
    simp only [PPy16] at h ⊢
    exact h
  | 1, _ =>
    simp only [PPy16] at h ⊢
    exact h
  | 2, _ =>
    simp only [PPy16] at h ⊢
    exact h
  | 3, _ =>
    simp only [PPy16] at h ⊢
    exact h
  | 4, _ =>
    simp only [PPy16] at h ⊢
    exact h
  | 5, _ =>
    simp only [PPy16] at h ⊢
    obtain ⟨ao, m, cp, h1, h2, h3, h4⟩ := h
    exact ⟨ao, m, cp, h1, h2, h3, h4.below (hg.below (fun k hk => ⟨hk, fun o hw => hw⟩)) (Nat.le_refl _)⟩
  | 6, _ =>
    simp only [PPy16] at h ⊢
    exact h
  | 7, _ =>
    simp only [PPy16] at h ⊢
    exact h
  | 8, _ =>
    simp only [PPy16] at h ⊢
    exact h
  | 9, _ =>
    simp only [PPy16] at h ⊢
    exact h
  | 10, _ =>
    simp only [PPy16] at h ⊢
    exact h
  | 11, _ =>
    simp only [PPy16] at h ⊢
    obtain ⟨ao, cp, h1, h2⟩ := h
    exact ⟨ao, cp, h1, h2.below (hg.below (fun k hk => ⟨hk, fun o hw => hw⟩)) (Nat.le_refl _)⟩
  | 12, _ =>
    simp only [PPy16] at h ⊢
    obtain ⟨ao, m, cp, h1, h2, h3, h4⟩ := h
    exact ⟨ao, m, cp, h1, h2, h3, h4.below (hg.below (fun k hk => ⟨hk, fun o hw => hw⟩)) (Nat.le_refl _)⟩
  | 13, _ =>
    simp only [PPy16] at h ⊢
    exact h
  | (q + 14), hq => exact absurd hq (by omega)

set_option maxRecDepth 100000 in
set_option maxHeartbeats 12800000 in
theorem plays_any (sc : List Sc) (v : Value) (n : Nat) (hl : sc.length = n) (hn : n ≤ maxLen) (hw : 3 * scW sc ≤ 1048576) (w : World) (hv : Reads 3 w v n (ocells sc)) (hr : ∀ o ∈ sc, Reads 2 w o.2.2.1 o.2.2.2.length (wcells o.2.2.2)) :
    Calls Try.prog 7 #[v] w (True2 w) := by
  have hn' : n ≤ 9223372036854775807 := hn
  clear hn
  obtain ⟨av, cv, rfl⟩ := hv.shape
  have HL := Lib.hid hl
  have HV := Lib.hid hv
  have HR := Lib.hid hr
  clear hl hv hr
  go_enter Try.func7, Try.ntmps7
  go_wp2_with fail
  refine (new_lt w w (Below.refl _ _)).mono ?_
  rintro e w1 ⟨tb, S0, rfl, ht, _, hb1⟩
  have HT1 := Lib.hid ht
  clear ht hb1
  go_wp2_with fail
  refine (awake_any _).mono ?_
  rintro e wz ⟨rfl, hbz⟩
  have HZ0 := Lib.hid ((At7.start HT1.out 45).below hbz)
  generalize w1.heap.size = tq at *
  clear hbz HT1
  go_wp2_with fail
  generalize (fun k => k = tq ∨ (Value.slice none 0 0).ownBlock = some k) = R0 at *
  go_loopw [5] (fun i wr => ∃ (k : Nat) (T M : List Hd) (S R : Nat → Prop), k ≤ n ∧ k ≤ 60 ∧ i = .int .i64 k ∧
      At7 w tb tq T M (scW (sc.take k)) S R wr) (fun i _ => n - (intOf i).toNat)
  case atStart => exact ⟨0, [], [], S0, R0, Nat.zero_le _, Nat.zero_le _, rfl, HZ0.out⟩
  case round =>
    obtain ⟨k, T, M, S, R, hk, hk60, rfl, hat⟩ := hrel
    have HAT := Lib.hid hat
    clear hat HZ0
    have hswk := scW_take sc k
    by_cases hlt : k < n
    case neg =>
      have hb1 : decide (k < n) = false := by simpa using hlt
      go_wp2_with fail
      go_ret
      exact ⟨rfl, HAT.out.bel⟩
    have hb1 : decide (k < n) = true := by simpa using hlt
    by_cases h60 : k < 60
    case neg =>
      have hb2 : decide (k < 60) = false := by simpa using h60
      have hb3 : decide ((k : Int) < 60) = false := by simp; omega
      go_wp2_with fail
      go_ret
      exact ⟨rfl, HAT.out.bel⟩
    have hb3 : decide ((k : Int) < 60) = true := by simp; omega
    have hkl : k < sc.length := by rw [HL.out]; exact hlt
    have hts : scW (sc.take (k + 1)) = scW (sc.take k) + sc[k].2.2.2.length := by rw [List.take_succ_eq_append_getElem hkl, scW_snoc]
    have hsm := scW_take sc (k + 1)
    obtain ⟨b, o, c', e, hb, _, hc1, hc2, hc3⟩ := Scs.at HV.out k hlt sc[k] (List.getElem?_eq_getElem hkl)
    injection e with e1 e2 e3
    subst e1 e3
    have HRO := Lib.hid (HR.out sc[k] (List.getElem_mem hkl))
    generalize sc[k] = x at *
    obtain ⟨x1, x2, vl, lw⟩ := x
    obtain ⟨al, cl, hvl⟩ := HRO.out.shape
    simp only at hc1 hc2 hc3 hts hvl
    subst hvl
    obtain ⟨N, hN0⟩ : ∃ N, scW (sc.take k) = N := ⟨_, rfl⟩
    obtain ⟨nl, hnl⟩ : ∃ nl, lw.length = nl := ⟨_, rfl⟩
    rw [hnl] at hts HRO hc3
    rw [hN0] at hts HAT hswk
    have HNL := Lib.hid hnl
    have HTS := Lib.hid hts
    have hNb : N + nl ≤ 349525 := by omega
    have HAT0 := HAT.out.bel
    have hd1 := (HAT0.cell (p := ⟨b, o + k * 3, none⟩) hb).trans hc1
    have hd2 := (HAT0.cell (p := ⟨b, o + k * 3 + 1, none⟩) hb).trans hc2
    have hd3 := (HAT0.cell (p := ⟨b, o + k * 3 + 2, none⟩) hb).trans hc3
    try simp only at hd1 hd2 hd3
    clear hc1 hc2 hc3 hkl e2 hnl hts hsm hswk hN0
    obtain ⟨gx, hgx⟩ : ∃ g, wr.heap.size = g := ⟨_, rfl⟩
    have HGX := Lib.hid hgx
    have hal : Below wr.heap.size wr (wr.alloc (.cells #[.int .i64 x1, .int .i64 x2, .slice al nl cl] 32)) := (Below.refl wr.heap.size wr).alloc (Nat.le_refl _) _
    have HBX := Lib.hid (Box.new wr #[.int .i64 x1, .int .i64 x2, .slice al nl cl] 32 hgx.symm)
    have HAT1 := Lib.hid (HAT.out.below hal)
    have HSX : Hid (∀ k, S k → k ≠ gx) := Lib.hid (fun k hk => by have := (HAT.out.tab.lt k hk).2; omega)
    have HRX : Hid (∀ k, R k → k ≠ gx) := Lib.hid (fun k hk => by have := (HAT.out.ref.lt k hk).2; omega)
    clear hal HAT0 HAT hgx hb
    go_upto_block 2 with (fail)
    clear hd1 hd2 hd3
    rw [HGX.out]
    generalize wr.alloc (.cells #[.int .i64 x1, .int .i64 x2, .slice al nl cl] 32) = wa at *
    have HZ : Hid (gx < wa.heap.size) := Lib.hid HBX.out.lt
    obtain ⟨HZN, hHZN⟩ : ∃ g, wa.heap.size = g := ⟨_, rfl⟩
    have HSL : Hid (∀ k, S k → w.heap.size ≤ k ∧ k < HZN) := Lib.hid (fun k hk => by rw [← hHZN]; exact HAT1.out.tab.lt k hk)
    have HRL : Hid (∀ k, R k → w.heap.size ≤ k ∧ k < HZN) := Lib.hid (fun k hk => by rw [← hHZN]; exact HAT1.out.ref.lt k hk)
    have HRW : Hid (∀ W, Below w.heap.size w W → Reads 2 W (.slice al nl cl) nl (wcells lw)) := Lib.hid (fun W hW => HRO.out.below hW (Nat.le_refl _))
    obtain ⟨c0, hc0⟩ : ∃ c0, IsAsk T x2 lw c0 := ⟨_, raskL_is T x2 lw⟩
    have HASK := Lib.hid hc0
    have hN1 : N ≤ 1048576 := by omega
    have hN2 : nl ≤ 1048576 := by omega
    clear hc0 HRO HGX
    go_cut [7] (fun z wx => z = .bool true ∧ Box wx gx [.int .i64 x1, .int .i64 x2, .slice al nl cl] ∧ ∃ (T' M' : List Hd) (S' R' : Nat → Prop), At7 w tb tq T' M' (N + nl) S' R' wx)
    case first =>
      by_cases hx0 : x1 = 0
      case pos =>
        have hb4 : (x1 == 0) = true := by simp [hx0]
        clear hx0
        obtain ⟨b0, hb0⟩ : ∃ b0, decide (c0.length = 0) = b0 := ⟨_, rfl⟩
        obtain ⟨T2, hT2⟩ : ∃ T2, (if c0.length = 0 then tookL T x2 lw else T) = T2 := ⟨_, rfl⟩
        have HB0 := Lib.hid hb0
        have HT2 := Lib.hid hT2
        have HU2 : Hid (Uniq T2) := Lib.hid (by rw [← hT2]; split; exact uniq_tookL HAT1.out.uT x2 lw; exact HAT1.out.uT)
        clear hb0 hT2
        go_wp2_with fail
        refine wp_region_partsDK (WPl S R) 13 [[], [], [1], [], [3], [0, 1, 2, 3, 4], [], [], [7], [], [9], [0, 1, 2, 3, 4, 5, 9, 10], [0, 1, 2, 3, 4, 5, 6, 7, 8, 9, 10, 11]] [some 46, some 47, some 48, some 49, some 50, some 51, some 52, some 53, some 54, some 55, some 56, some 57, some 58, some 59, some 7] [[], [], [1], [], [3], [0, 2, 4], [], [], [7], [], [9], [10], [6, 8, 11]] [5, 12] [] (by decide) (by kernel_rfl) (by kernel_rfl) rfl (PPl w tb tq gx HZN N nl x2 al cl lw T2 b0 S R) (PPl_stable w tb tq gx HZN N nl x2 al cl lw T2 b0 S R HSL.out HRL.out HAT1.out.sep) ?pPl ?_
        case pPl =>
          intro i hi o ho vs lo hx_ w' hg hp
          have hbel : Below w.heap.size w w' := wpl_below HSL.out HRL.out (fun b ⟨j, _, _, _, h⟩ => ⟨j, h⟩) hg HAT1.out.bel
          have hzl : HZN ≤ w'.heap.size := by rw [← hHZN]; exact hg.size
          match i, hi with
          | 0, _ =>
            obtain rfl := Option.some.inj ho
            clear ho
            simp only [actsD, List.getD_cons_zero, List.getD_cons_succ, List.foldl_cons, List.foldl_nil, Act.put, List.setIfInBounds_toArray, List.set_cons_succ, List.set_cons_zero]
            go_wp2
            exact ⟨_, rfl, grow_below (Below.refl _ _), rfl⟩
          | 1, _ =>
            obtain rfl := Option.some.inj ho
            clear ho
            simp only [actsD, List.getD_cons_zero, List.getD_cons_succ, List.foldl_cons, List.foldl_nil, Act.put, List.setIfInBounds_toArray, List.set_cons_succ, List.set_cons_zero]
            go_wp2
            exact ⟨_, rfl, grow_below (Below.refl _ _), rfl⟩
          | 2, _ =>
            obtain rfl := Option.some.inj ho
            clear ho
            simp only [actsD, List.getD_cons_zero, List.getD_cons_succ, List.foldl_cons, List.foldl_nil, Act.put, List.setIfInBounds_toArray, List.set_cons_succ, List.set_cons_zero]
            obtain ⟨_, _, _, h1⟩ := hp 1 (by simp)
            simp only [PPl] at h1
            rw [h1]
            have e0 := (HBX.out.growx hg (by rintro ⟨j, _, _, _, hw⟩; exact hw.elim (fun h => HSX.out gx h.2 rfl) (fun h => HRX.out gx h.2 rfl))).cell 1 _ rfl
            go_wp2
            exact ⟨_, rfl, grow_below (Below.refl _ _), rfl⟩
          | 3, _ =>
            obtain rfl := Option.some.inj ho
            clear ho
            simp only [actsD, List.getD_cons_zero, List.getD_cons_succ, List.foldl_cons, List.foldl_nil, Act.put, List.setIfInBounds_toArray, List.set_cons_succ, List.set_cons_zero]
            go_wp2
            exact ⟨_, rfl, grow_below (Below.refl _ _), rfl⟩
          | 4, _ =>
            obtain rfl := Option.some.inj ho
            clear ho
            simp only [actsD, List.getD_cons_zero, List.getD_cons_succ, List.foldl_cons, List.foldl_nil, Act.put, List.setIfInBounds_toArray, List.set_cons_succ, List.set_cons_zero]
            obtain ⟨_, _, _, h3⟩ := hp 3 (by simp)
            simp only [PPl] at h3
            rw [h3]
            have e0 := (HBX.out.growx hg (by rintro ⟨j, _, _, _, hw⟩; exact hw.elim (fun h => HSX.out gx h.2 rfl) (fun h => HRX.out gx h.2 rfl))).cell 2 _ rfl
            go_wp2
            exact ⟨_, rfl, grow_below (Below.refl _ _), rfl⟩
          | 5, _ =>
            obtain rfl := Option.some.inj ho
            clear ho
            simp only [actsD, List.getD_cons_zero, List.getD_cons_succ, List.foldl_cons, List.foldl_nil, Act.put, List.setIfInBounds_toArray, List.set_cons_succ, List.set_cons_zero]
            obtain ⟨_, _, _, h0⟩ := hp 0 (by simp)
            simp only [PPl] at h0
            obtain ⟨_, _, _, h2⟩ := hp 2 (by simp)
            simp only [PPl] at h2
            obtain ⟨_, _, _, h4⟩ := hp 4 (by simp)
            simp only [PPl] at h4
            rw [h0, h2, h4]
            have htab : LT w tb T N S w' := HAT1.out.tab.grow hg (fun k hs => by rintro ⟨j, _, hne, _, hw⟩; exact hw.elim (fun h => hne h.1) (fun h => HAT1.out.sep k hs h.2)) hbel
            go_wp2_with fail
            refine (take_lt htab hN1 x2 lw _ nl HNL.out hN2 (HRW.out _ hbel)).mono ?_
            rintro e wc ⟨c, S1, h1, rfl, h3, h4⟩
            have hcc : c = c0 := h1.eq HAT1.out.uT HAT1.out.uT (fun _ => Iff.rfl) HASK.out
            rw [hcc, HT2.out] at h3
            rw [hcc, HB0.out]
            go_wp2
            exact ⟨_, rfl, h4.grow.mono (fun k hk => .inl ⟨rfl, hk⟩), rfl, hzl, S1, h3, fun k hk => (h4.new k hk).elim .inl (fun h => .inr ⟨h, (h3.lt k hk).2⟩)⟩
          | 6, _ =>
            obtain rfl := Option.some.inj ho
            clear ho
            simp only [actsD, List.getD_cons_zero, List.getD_cons_succ, List.foldl_cons, List.foldl_nil, Act.put, List.setIfInBounds_toArray, List.set_cons_succ, List.set_cons_zero]
            go_wp2
            exact ⟨_, rfl, grow_below (Below.refl _ _), rfl⟩
          | 7, _ =>
            obtain rfl := Option.some.inj ho
            clear ho
            simp only [actsD, List.getD_cons_zero, List.getD_cons_succ, List.foldl_cons, List.foldl_nil, Act.put, List.setIfInBounds_toArray, List.set_cons_succ, List.set_cons_zero]
            go_wp2
            exact ⟨_, rfl, grow_below (Below.refl _ _), rfl⟩
          | 8, _ =>
            obtain rfl := Option.some.inj ho
            clear ho
            simp only [actsD, List.getD_cons_zero, List.getD_cons_succ, List.foldl_cons, List.foldl_nil, Act.put, List.setIfInBounds_toArray, List.set_cons_succ, List.set_cons_zero]
            obtain ⟨_, _, _, h7⟩ := hp 7 (by simp)
            simp only [PPl] at h7
            rw [h7]
            have e0 := (HBX.out.growx hg (by rintro ⟨j, _, _, _, hw⟩; exact hw.elim (fun h => HSX.out gx h.2 rfl) (fun h => HRX.out gx h.2 rfl))).cell 1 _ rfl
            go_wp2
            exact ⟨_, rfl, grow_below (Below.refl _ _), rfl⟩
          | 9, _ =>
            obtain rfl := Option.some.inj ho
            clear ho
            simp only [actsD, List.getD_cons_zero, List.getD_cons_succ, List.foldl_cons, List.foldl_nil, Act.put, List.setIfInBounds_toArray, List.set_cons_succ, List.set_cons_zero]
            go_wp2
            exact ⟨_, rfl, grow_below (Below.refl _ _), rfl⟩
          | 10, _ =>
            obtain rfl := Option.some.inj ho
            clear ho
            simp only [actsD, List.getD_cons_zero, List.getD_cons_succ, List.foldl_cons, List.foldl_nil, Act.put, List.setIfInBounds_toArray, List.set_cons_succ, List.set_cons_zero]
            obtain ⟨_, _, _, h9⟩ := hp 9 (by simp)
            simp only [PPl] at h9
            rw [h9]
            have e0 := (HBX.out.growx hg (by rintro ⟨j, _, _, _, hw⟩; exact hw.elim (fun h => HSX.out gx h.2 rfl) (fun h => HRX.out gx h.2 rfl))).cell 2 _ rfl
            go_wp2
            exact ⟨_, rfl, grow_below (Below.refl _ _), rfl⟩
          | 11, _ =>
            obtain rfl := Option.some.inj ho
            clear ho
            simp only [actsD, List.getD_cons_zero, List.getD_cons_succ, List.foldl_cons, List.foldl_nil, Act.put, List.setIfInBounds_toArray, List.set_cons_succ, List.set_cons_zero]
            obtain ⟨_, _, _, h10⟩ := hp 10 (by simp)
            simp only [PPl] at h10
            rw [h10]
            go_wp2_with fail
            refine (to_any lw _ nl HNL.out (by omega) _ (HRW.out _ hbel)).mono ?_
            rintro e wc ⟨ay, cy, rfl, g1, g2, g3⟩
            go_wp2
            exact ⟨_, rfl, grow_below g3, ay, cy, rfl, g1, fun q hq => ⟨by have := (g2 q hq).1; omega, (g2 q hq).2⟩⟩
          | 12, _ =>
            obtain rfl := Option.some.inj ho
            clear ho
            simp only [actsD, List.getD_cons_zero, List.getD_cons_succ, List.foldl_cons, List.foldl_nil, Act.put, List.setIfInBounds_toArray, List.set_cons_succ, List.set_cons_zero]
            obtain ⟨_, _, _, h6⟩ := hp 6 (by simp)
            simp only [PPl] at h6
            obtain ⟨_, _, _, h8⟩ := hp 8 (by simp)
            simp only [PPl] at h8
            obtain ⟨_, _, _, h11⟩ := hp 11 (by simp)
            simp only [PPl] at h11
            rw [h6, h8]
            have href : LQ w tq M N R w' := HAT1.out.ref.grow hg (fun k hs => by rintro ⟨j, _, hne, _, hw⟩; exact hw.elim (fun h => HAT1.out.sep k h.2 hs) (fun h => hne h.1)) hbel
            obtain ⟨ay, cy, e11, g1, g2⟩ := h11
            rw [e11]
            go_wp2_with fail
            refine (rtake_lq href hN1 HAT1.out.uM x2 lw _ nl HNL.out hN2 g1 (fun q hq => ⟨(g2 q hq).2, fun hr => by have := (HRL.out q hr).2; have := (g2 q hq).1; omega⟩)).mono ?_
            rintro e wc ⟨c, R1, M1, h1, rfl, h2, h3, h4, h5⟩
            have hcc : c = c0 := h1.eq HAT1.out.uM HAT1.out.uT (fun x => (HAT1.out.same x).symm) HASK.out
            rw [hcc] at h3
            rw [hcc, HB0.out]
            go_wp2
            exact ⟨_, rfl, h5.grow.mono (fun k hk => .inr ⟨rfl, hk⟩), rfl, hzl, R1, M1, h2, (fun x => by rw [h3, took_same HAT1.out.uT HAT1.out.uM HAT1.out.same, HT2.out]), h4, fun k hk => (h5.new k hk).elim .inl (fun h => .inr ⟨h, (h4.lt k hk).2⟩)⟩
          | (q + 13), hq => exact absurd hq (by omega)
        intro vS lo hi w5 hg hp
        generalize hLL : List.drop 13 _ = LL
        simp only [List.drop_succ_cons, List.drop_zero, List.drop_nil] at hLL
        intro hd
        obtain ⟨a5, b5, d5, h5⟩ := hp 5 (by decide)
        obtain ⟨a12, b12, d12, h12⟩ := hp 12 (by decide)
        replace h5 := h5 (by decide)
        replace h12 := h12 (by decide)
        have hdd := hd 5 12 (by omega) (by omega) (by omega)
        simp only [PPl] at h5 h12
        obtain ⟨e5, z5, S1, q5, n5⟩ := h5
        obtain ⟨e12, z12, R1, M1, u12, m12, q12, n12⟩ := h12
        clear hp hd
        have hbx5 := HBX.out.growx hg (by rintro ⟨j, _, hw⟩; exact hw.elim (fun h => HSX.out gx h.2 rfl) (fun h => HRX.out gx h.2 rfl))
        have hsep5 : Disj S1 R1 := fun k hs hr => (n5 k hs).elim (fun hs => (n12 k hr).elim (fun hr => HAT1.out.sep k hs hr) (fun hr => by have := (HSL.out k hs).2; omega)) (fun hs => (n12 k hr).elim (fun hr => by have := (HRL.out k hr).2; omega) (fun hr => by omega))
        have HA5 : Hid (At7 w tb tq T2 M1 (N + nl) S1 R1 w5) := Lib.hid ⟨q5, q12, hsep5, HU2.out, u12, fun x => (m12 x).symm⟩
        have hbe : (b0 == b0) = true := by simp
        clear z5 q5 n5 z12 u12 m12 q12 n12 hdd a5 b5 d5 a12 b12 d12 hsep5
        subst hLL
        have hr : List.range 13 = [0, 1, 2, 3, 4, 5, 6, 7, 8, 9, 10, 11, 12] := rfl
        rw [hr]
        clear hr
        simp only [List.drop_succ_cons, List.drop_zero, List.drop_nil, actsD, List.getD_cons_zero, List.getD_cons_succ, List.foldl_cons, List.foldl_nil, Act.put, List.setIfInBounds_toArray, List.set_cons_succ, List.set_cons_zero, e5, e12]
        go_wp2_with fail
        go_meet
        exact ⟨rfl, hbx5, T2, M1, S1, R1, HA5.out⟩
      case neg =>
        have hb4 : (x1 == 0) = false := by simp [hx0]
        clear hx0
        by_cases hx1 : x1 = 1
        case pos =>
          have hb5 : (x1 == 1) = true := by simp [hx1]
          clear hx1
          have bx := HBX.out
          have hB : Below wa.heap.size wa wa := Below.refl _ _
          simp only [] at bx
          go_wp2_with fail
          refine wp_region_partsDC (WPy16 tb tq gx nl cl x1 x2 al lw c0) 14 [[], [], [1], [], [3], [0, 1, 2, 3, 4], [], [], [7], [], [9], [0, 1, 2, 3, 4, 5, 9, 10], [0, 1, 2, 3, 4, 5, 6, 7, 8, 9, 10, 11], [0, 1, 2, 3, 4, 5, 6, 7, 8, 9, 10, 11, 12]] [some 62, some 63, some 64, some 65, some 66, some 67, some 68, some 69, some 70, some 71, some 72, some 73, some 74, some 75, some 7] (by kernel_rfl) (by kernel_rfl) rfl (PPy16 tb tq gx nl cl x1 x2 al lw c0) (PPy16_stable tb tq gx nl cl x1 x2 al lw c0 ) ?pPy16 ?_
          case pPy16 =>
            intro i hi o ho vs lo hx_ w' hg hp
            match i, hi with
            | 0, _ =>
              obtain rfl := Option.some.inj ho
              clear ho
              simp only [actsD, List.getD_cons_zero, List.getD_cons_succ, List.foldl_cons, List.foldl_nil, Act.put, List.setIfInBounds_toArray, List.set_cons_succ, List.set_cons_zero]
              have hsz := hg.size
              have hgB : Below wa.heap.size wa w' := hg.below (fun k hk => ⟨hk, fun o => by rintro ⟨j, _, _, _, hw⟩; exact False.elim hw⟩)
              go_wp2
              exact ⟨_, rfl, GrowC.refl _, rfl⟩
            | 1, _ =>
              obtain rfl := Option.some.inj ho
              clear ho
              simp only [actsD, List.getD_cons_zero, List.getD_cons_succ, List.foldl_cons, List.foldl_nil, Act.put, List.setIfInBounds_toArray, List.set_cons_succ, List.set_cons_zero]
              have hsz := hg.size
              have hgB : Below wa.heap.size wa w' := hg.below (fun k hk => ⟨hk, fun o => by rintro ⟨j, _, _, _, hw⟩; exact False.elim hw⟩)
              go_wp2
              exact ⟨_, rfl, GrowC.refl _, rfl⟩
            | 2, _ =>
              obtain rfl := Option.some.inj ho
              clear ho
              simp only [actsD, List.getD_cons_zero, List.getD_cons_succ, List.foldl_cons, List.foldl_nil, Act.put, List.setIfInBounds_toArray, List.set_cons_succ, List.set_cons_zero]
              obtain ⟨_, _, _, h1⟩ := hp 1 (by simp)
              simp only [PPy16] at h1
              have hsz := hg.size
              have hgB : Below wa.heap.size wa w' := hg.below (fun k hk => ⟨hk, fun o => by rintro ⟨j, _, _, _, hw⟩; exact False.elim hw⟩)
              rw [h1]
              have e0 := (hg.cell (gx) 1 bx.lt (by rintro ⟨j, _, hne, hb, hw⟩; exact False.elim hw)).trans (bx.cell 1 _ rfl)
              go_wp2
              exact ⟨_, rfl, GrowC.refl _, rfl⟩
            | 3, _ =>
              obtain rfl := Option.some.inj ho
              clear ho
              simp only [actsD, List.getD_cons_zero, List.getD_cons_succ, List.foldl_cons, List.foldl_nil, Act.put, List.setIfInBounds_toArray, List.set_cons_succ, List.set_cons_zero]
              have hsz := hg.size
              have hgB : Below wa.heap.size wa w' := hg.below (fun k hk => ⟨hk, fun o => by rintro ⟨j, _, _, _, hw⟩; exact False.elim hw⟩)
              go_wp2
              exact ⟨_, rfl, GrowC.refl _, rfl⟩
            | 4, _ =>
              obtain rfl := Option.some.inj ho
              clear ho
              simp only [actsD, List.getD_cons_zero, List.getD_cons_succ, List.foldl_cons, List.foldl_nil, Act.put, List.setIfInBounds_toArray, List.set_cons_succ, List.set_cons_zero]
              obtain ⟨_, _, _, h3⟩ := hp 3 (by simp)
              simp only [PPy16] at h3
              have hsz := hg.size
              have hgB : Below wa.heap.size wa w' := hg.below (fun k hk => ⟨hk, fun o => by rintro ⟨j, _, _, _, hw⟩; exact False.elim hw⟩)
              rw [h3]
              have e0 := (hg.cell (gx) 2 bx.lt (by rintro ⟨j, _, hne, hb, hw⟩; exact False.elim hw)).trans (bx.cell 2 _ rfl)
              go_wp2
              exact ⟨_, rfl, GrowC.refl _, rfl⟩
            | 5, _ =>
              obtain rfl := Option.some.inj ho
              clear ho
              simp only [actsD, List.getD_cons_zero, List.getD_cons_succ, List.foldl_cons, List.foldl_nil, Act.put, List.setIfInBounds_toArray, List.set_cons_succ, List.set_cons_zero]
              obtain ⟨_, _, _, h0⟩ := hp 0 (by simp)
              simp only [PPy16] at h0
              obtain ⟨_, _, _, h2⟩ := hp 2 (by simp)
              simp only [PPy16] at h2
              obtain ⟨_, _, _, h4⟩ := hp 4 (by simp)
              simp only [PPy16] at h4
              have hsz := hg.size
              have hgB : Below wa.heap.size wa w' := hg.below (fun k hk => ⟨hk, fun o => by rintro ⟨j, _, _, _, hw⟩; exact False.elim hw⟩)
              rw [h0, h2, h4]
              have HA := HAT1.out.below hgB
              go_wp2_with fail
              refine (ask_lt HA.tab hN1 x2 lw _ nl HNL.out hN2 (HRW.out _ HA.bel)).mono ?_
              rintro e wc ⟨c, ao, m, cp, rfl, h1, h2, h3, h4, h5⟩
              have hcc : c = c0 := h1.eq HA.uT HA.uT (fun _ => Iff.rfl) HASK.out
              rw [hcc] at h2 h4
              go_wp2
              exact ⟨_, rfl, GrowC.of_grow h5, ao, m, cp, rfl, h2, h3, h4⟩
            | 6, _ =>
              obtain rfl := Option.some.inj ho
              clear ho
              simp only [actsD, List.getD_cons_zero, List.getD_cons_succ, List.foldl_cons, List.foldl_nil, Act.put, List.setIfInBounds_toArray, List.set_cons_succ, List.set_cons_zero]
              have hsz := hg.size
              have hgB : Below wa.heap.size wa w' := hg.below (fun k hk => ⟨hk, fun o => by rintro ⟨j, _, _, _, hw⟩; exact False.elim hw⟩)
              go_wp2
              exact ⟨_, rfl, GrowC.refl _, rfl⟩
            | 7, _ =>
              obtain rfl := Option.some.inj ho
              clear ho
              simp only [actsD, List.getD_cons_zero, List.getD_cons_succ, List.foldl_cons, List.foldl_nil, Act.put, List.setIfInBounds_toArray, List.set_cons_succ, List.set_cons_zero]
              have hsz := hg.size
              have hgB : Below wa.heap.size wa w' := hg.below (fun k hk => ⟨hk, fun o => by rintro ⟨j, _, _, _, hw⟩; exact False.elim hw⟩)
              go_wp2
              exact ⟨_, rfl, GrowC.refl _, rfl⟩
            | 8, _ =>
              obtain rfl := Option.some.inj ho
              clear ho
              simp only [actsD, List.getD_cons_zero, List.getD_cons_succ, List.foldl_cons, List.foldl_nil, Act.put, List.setIfInBounds_toArray, List.set_cons_succ, List.set_cons_zero]
              obtain ⟨_, _, _, h7⟩ := hp 7 (by simp)
              simp only [PPy16] at h7
              have hsz := hg.size
              have hgB : Below wa.heap.size wa w' := hg.below (fun k hk => ⟨hk, fun o => by rintro ⟨j, _, _, _, hw⟩; exact False.elim hw⟩)
              rw [h7]
              have e0 := (hg.cell (gx) 1 bx.lt (by rintro ⟨j, _, hne, hb, hw⟩; exact False.elim hw)).trans (bx.cell 1 _ rfl)
              go_wp2
              exact ⟨_, rfl, GrowC.refl _, rfl⟩
            | 9, _ =>
              obtain rfl := Option.some.inj ho
              clear ho
              simp only [actsD, List.getD_cons_zero, List.getD_cons_succ, List.foldl_cons, List.foldl_nil, Act.put, List.setIfInBounds_toArray, List.set_cons_succ, List.set_cons_zero]
              have hsz := hg.size
              have hgB : Below wa.heap.size wa w' := hg.below (fun k hk => ⟨hk, fun o => by rintro ⟨j, _, _, _, hw⟩; exact False.elim hw⟩)
              go_wp2
              exact ⟨_, rfl, GrowC.refl _, rfl⟩
            | 10, _ =>
              obtain rfl := Option.some.inj ho
              clear ho
              simp only [actsD, List.getD_cons_zero, List.getD_cons_succ, List.foldl_cons, List.foldl_nil, Act.put, List.setIfInBounds_toArray, List.set_cons_succ, List.set_cons_zero]
              obtain ⟨_, _, _, h9⟩ := hp 9 (by simp)
              simp only [PPy16] at h9
              have hsz := hg.size
              have hgB : Below wa.heap.size wa w' := hg.below (fun k hk => ⟨hk, fun o => by rintro ⟨j, _, _, _, hw⟩; exact False.elim hw⟩)
              rw [h9]
              have e0 := (hg.cell (gx) 2 bx.lt (by rintro ⟨j, _, hne, hb, hw⟩; exact False.elim hw)).trans (bx.cell 2 _ rfl)
              go_wp2
              exact ⟨_, rfl, GrowC.refl _, rfl⟩
            | 11, _ =>
              obtain rfl := Option.some.inj ho
              clear ho
              simp only [actsD, List.getD_cons_zero, List.getD_cons_succ, List.foldl_cons, List.foldl_nil, Act.put, List.setIfInBounds_toArray, List.set_cons_succ, List.set_cons_zero]
              obtain ⟨_, _, _, h10⟩ := hp 10 (by simp)
              simp only [PPy16] at h10
              have hsz := hg.size
              have hgB : Below wa.heap.size wa w' := hg.below (fun k hk => ⟨hk, fun o => by rintro ⟨j, _, _, _, hw⟩; exact False.elim hw⟩)
              rw [h10]
              have HA := HAT1.out.below hgB
              go_wp2_with fail
              refine (to_any lw _ nl HNL.out (by omega) _ (HRW.out _ HA.bel)).mono ?_
              rintro e wc ⟨ay, cy, rfl, g1, g2, g3⟩
              go_wp2
              exact ⟨_, rfl, GrowC.of_grow g3, ay, cy, rfl, g1⟩
            | 12, _ =>
              obtain rfl := Option.some.inj ho
              clear ho
              simp only [actsD, List.getD_cons_zero, List.getD_cons_succ, List.foldl_cons, List.foldl_nil, Act.put, List.setIfInBounds_toArray, List.set_cons_succ, List.set_cons_zero]
              obtain ⟨_, _, _, h6⟩ := hp 6 (by simp)
              simp only [PPy16] at h6
              obtain ⟨_, _, _, h8⟩ := hp 8 (by simp)
              simp only [PPy16] at h8
              obtain ⟨_, _, _, h11⟩ := hp 11 (by simp)
              simp only [PPy16] at h11
              have hsz := hg.size
              have hgB : Below wa.heap.size wa w' := hg.below (fun k hk => ⟨hk, fun o => by rintro ⟨j, _, _, _, hw⟩; exact False.elim hw⟩)
              rw [h6, h8]
              have HA := HAT1.out.below hgB
              obtain ⟨ay, cy, e11, g1⟩ := h11
              rw [e11]
              go_wp2_with fail
              refine (rask_lq HA.ref hN1 x2 lw _ nl HNL.out hN2 g1).mono ?_
              rintro e wc ⟨c, ao, m, cp, rfl, h1, h2, h3, h4, h5⟩
              have hcc : c = c0 := h1.eq HA.uM HA.uT (fun x => (HA.same x).symm) HASK.out
              rw [hcc] at h2 h4
              go_wp2
              exact ⟨_, rfl, GrowC.of_grow h5, ao, m, cp, rfl, h2, h3, h4⟩
            | 13, _ =>
              obtain rfl := Option.some.inj ho
              clear ho
              simp only [actsD, List.getD_cons_zero, List.getD_cons_succ, List.foldl_cons, List.foldl_nil, Act.put, List.setIfInBounds_toArray, List.set_cons_succ, List.set_cons_zero]
              obtain ⟨_, _, _, h5⟩ := hp 5 (by simp)
              simp only [PPy16] at h5
              obtain ⟨_, _, _, h12⟩ := hp 12 (by simp)
              simp only [PPy16] at h12
              have hsz := hg.size
              have hgB : Below wa.heap.size wa w' := hg.below (fun k hk => ⟨hk, fun o => by rintro ⟨j, _, _, _, hw⟩; exact False.elim hw⟩)
              obtain ⟨aA, mA, pA, eA, hA1, hA2, hA3⟩ := h5
              obtain ⟨aB, mB, pB, eB, hB1, hB2, hB3⟩ := h12
              obtain rfl : mA = mB := by omega
              rw [eA, eB]
              go_wp2_with fail
              refine (ints_same c0 _ _ mA hA1 (by omega) _ hA3 hB3).mono ?_
              rintro e wc ⟨rfl, hbc⟩
              go_wp2
              exact ⟨_, rfl, GrowC.of_grow hbc, rfl⟩
            | (q + 14), hq => exact absurd hq (by omega)
          intro vS lo hi w5 hg hp
          generalize hLL : List.drop 14 _ = LL
          simp only [List.drop_succ_cons, List.drop_zero, List.drop_nil] at hLL
          intro hd
          obtain ⟨_, _, _, h0⟩ := hp 0 (by decide)
          obtain ⟨_, _, _, h1⟩ := hp 1 (by decide)
          obtain ⟨_, _, _, h2⟩ := hp 2 (by decide)
          obtain ⟨_, _, _, h3⟩ := hp 3 (by decide)
          obtain ⟨_, _, _, h4⟩ := hp 4 (by decide)
          obtain ⟨_, _, _, h5⟩ := hp 5 (by decide)
          obtain ⟨_, _, _, h6⟩ := hp 6 (by decide)
          obtain ⟨_, _, _, h7⟩ := hp 7 (by decide)
          obtain ⟨_, _, _, h8⟩ := hp 8 (by decide)
          obtain ⟨_, _, _, h9⟩ := hp 9 (by decide)
          obtain ⟨_, _, _, h10⟩ := hp 10 (by decide)
          obtain ⟨_, _, _, h11⟩ := hp 11 (by decide)
          obtain ⟨_, _, _, h12⟩ := hp 12 (by decide)
          obtain ⟨_, _, _, h13⟩ := hp 13 (by decide)
          simp only [PPy16] at h0 h1 h2 h3 h4 h5 h6 h7 h8 h9 h10 h11 h12 h13
          clear hp hd
          have hsz := hg.size
          replace bx := bx.grow hg (by intro i _; rintro ⟨j, _, hw⟩; exact False.elim hw)
          replace hB := hB.trans (hg.below (fun k hk => ⟨by omega, fun o => by rintro ⟨j, _, hw⟩; exact False.elim hw⟩))
          subst hLL
          have hr : List.range 14 = [0, 1, 2, 3, 4, 5, 6, 7, 8, 9, 10, 11, 12, 13] := rfl
          rw [hr]
          clear hr
          simp only [List.drop_succ_cons, List.drop_zero, List.drop_nil, actsD, List.getD_cons_zero, List.getD_cons_succ, List.foldl_cons, List.foldl_nil, Act.put, List.setIfInBounds_toArray, List.set_cons_succ, List.set_cons_zero, h0, h1, h2, h3, h4, h6, h7, h8, h9, h10, h13]
          clear h0 h1 h2 h3 h4 h6 h7 h8 h9 h10 h13
          go_wp2_with fail
          go_meet
          exact ⟨rfl, bx, T, M, S, R, (HAT1.out.below hB).more (by omega)⟩
        case neg =>
          have hb5 : (x1 == 1) = false := by simp [hx1]
          clear hx1
          have cx1 := HBX.out.cell 1 _ rfl
          go_wp2_with fail
          refine (release_lt HAT1.out.tab hN1 x2).mono ?_
          rintro e w2 ⟨S2, rfl, ht2, hf2⟩
          have hbx2 := HBX.out.growx hf2.grow (fun hx => HSX.out gx hx rfl)
          have href2 := HAT1.out.ref.grow hf2.grow (fun k hr hs => HAT1.out.sep k hs hr) ht2.bel
          have hsep2 := hf2.disj HAT1.out.sep (fun k hk => (HAT1.out.ref.lt k hk).2)
          have HS2 := Lib.hid (show _ ∧ _ ∧ _ ∧ _ from ⟨ht2, hbx2, href2, hsep2⟩)
          clear cx1
          have cx1 := hbx2.cell 1 _ rfl
          clear ht2 hf2 hbx2 href2 hsep2
          go_wp2_with fail
          refine (rrelease_lq HS2.out.2.2.1 hN1 x2).mono ?_
          rintro e w3 ⟨R3, rfl, hr3, hf3⟩
          obtain ⟨g1, g2, g3, g4⟩ := HS2.out
          have hbx3 := g2.growx hf3.grow (fun hx => HRX.out gx hx rfl)
          have ht3 := g1.grow hf3.grow (fun k hs hr => g4 k hs hr) hr3.bel
          have hsep3 := hf3.disj g4.symm (fun k hk => (g1.lt k hk).2)
          clear g2 g3 g4 g1 HS2 cx1
          go_wp2_with fail
          go_meet
          exact ⟨rfl, hbx3, _, _, S2, R3, ht3.more (by omega), hr3.more (by omega), hsep3.symm, uniq_releaseL HAT1.out.uT x2, uniq_releaseL HAT1.out.uM x2, release_same HAT1.out.same x2⟩
    case rest =>
      obtain ⟨rfl, hbx, T3, M3, S3, R3, hat3⟩ := hcut
      have HAT3 := Lib.hid hat3
      have hN3 : N + nl ≤ 1048576 := by omega
      clear hat3 HAT1 HBX HSX HRX HSL HRL HRW HASK HZ HNL hHZN
      have bx := hbx
      have hB : Below wc.heap.size wc wc := Below.refl _ _
      go_wp2_with fail
      refine wp_region_partsDC (WPy17 tb tq gx nl cl (N + nl) x1 x2 al T3 M3) 8 [[], [], [1], [0, 1, 2], [], [], [5], [0, 1, 2, 3, 4, 5, 6]] [some 76, some 77, some 78, some 79, some 80, some 81, some 82, some 83, some 8, some 9] (by kernel_rfl) (by kernel_rfl) rfl (PPy17 tb tq gx nl cl (N + nl) x1 x2 al T3 M3) (PPy17_stable tb tq gx nl cl (N + nl) x1 x2 al T3 M3 ) ?pPy17 ?_
      case pPy17 =>
        intro i hi o ho vs lo hx_ w' hg hp
        match i, hi with
        | 0, _ =>
          obtain rfl := Option.some.inj ho
          clear ho
          simp only [actsD, List.getD_cons_zero, List.getD_cons_succ, List.foldl_cons, List.foldl_nil, Act.put, List.setIfInBounds_toArray, List.set_cons_succ, List.set_cons_zero]
          have hsz := hg.size
          have hgB : Below wc.heap.size wc w' := hg.below (fun k hk => ⟨hk, fun o => by rintro ⟨j, _, _, _, hw⟩; exact False.elim hw⟩)
          go_wp2
          exact ⟨_, rfl, GrowC.refl _, rfl⟩
        | 1, _ =>
          obtain rfl := Option.some.inj ho
          clear ho
          simp only [actsD, List.getD_cons_zero, List.getD_cons_succ, List.foldl_cons, List.foldl_nil, Act.put, List.setIfInBounds_toArray, List.set_cons_succ, List.set_cons_zero]
          have hsz := hg.size
          have hgB : Below wc.heap.size wc w' := hg.below (fun k hk => ⟨hk, fun o => by rintro ⟨j, _, _, _, hw⟩; exact False.elim hw⟩)
          go_wp2
          exact ⟨_, rfl, GrowC.refl _, rfl⟩
        | 2, _ =>
          obtain rfl := Option.some.inj ho
          clear ho
          simp only [actsD, List.getD_cons_zero, List.getD_cons_succ, List.foldl_cons, List.foldl_nil, Act.put, List.setIfInBounds_toArray, List.set_cons_succ, List.set_cons_zero]
          obtain ⟨_, _, _, h1⟩ := hp 1 (by simp)
          simp only [PPy17] at h1
          have hsz := hg.size
          have hgB : Below wc.heap.size wc w' := hg.below (fun k hk => ⟨hk, fun o => by rintro ⟨j, _, _, _, hw⟩; exact False.elim hw⟩)
          rw [h1]
          have e0 := (hg.cell (gx) 1 bx.lt (by rintro ⟨j, _, hne, hb, hw⟩; exact False.elim hw)).trans (bx.cell 1 _ rfl)
          go_wp2
          exact ⟨_, rfl, GrowC.refl _, rfl⟩
        | 3, _ =>
          obtain rfl := Option.some.inj ho
          clear ho
          simp only [actsD, List.getD_cons_zero, List.getD_cons_succ, List.foldl_cons, List.foldl_nil, Act.put, List.setIfInBounds_toArray, List.set_cons_succ, List.set_cons_zero]
          obtain ⟨_, _, _, h0⟩ := hp 0 (by simp)
          simp only [PPy17] at h0
          obtain ⟨_, _, _, h2⟩ := hp 2 (by simp)
          simp only [PPy17] at h2
          have hsz := hg.size
          have hgB : Below wc.heap.size wc w' := hg.below (fun k hk => ⟨hk, fun o => by rintro ⟨j, _, _, _, hw⟩; exact False.elim hw⟩)
          rw [h0, h2]
          have HA := HAT3.out.below hgB
          go_wp2_with fail
          refine (held_lt HA.tab hN3 x2).mono ?_
          rintro e wd ⟨c, ao, m, cp, rfl, g1, g2, g3, g4, g5⟩
          go_wp2
          exact ⟨_, rfl, GrowC.of_grow g5, c, ao, m, cp, rfl, g1, g2, g3, g4⟩
        | 4, _ =>
          obtain rfl := Option.some.inj ho
          clear ho
          simp only [actsD, List.getD_cons_zero, List.getD_cons_succ, List.foldl_cons, List.foldl_nil, Act.put, List.setIfInBounds_toArray, List.set_cons_succ, List.set_cons_zero]
          have hsz := hg.size
          have hgB : Below wc.heap.size wc w' := hg.below (fun k hk => ⟨hk, fun o => by rintro ⟨j, _, _, _, hw⟩; exact False.elim hw⟩)
          go_wp2
          exact ⟨_, rfl, GrowC.refl _, rfl⟩
        | 5, _ =>
          obtain rfl := Option.some.inj ho
          clear ho
          simp only [actsD, List.getD_cons_zero, List.getD_cons_succ, List.foldl_cons, List.foldl_nil, Act.put, List.setIfInBounds_toArray, List.set_cons_succ, List.set_cons_zero]
          have hsz := hg.size
          have hgB : Below wc.heap.size wc w' := hg.below (fun k hk => ⟨hk, fun o => by rintro ⟨j, _, _, _, hw⟩; exact False.elim hw⟩)
          go_wp2
          exact ⟨_, rfl, GrowC.refl _, rfl⟩
        | 6, _ =>
          obtain rfl := Option.some.inj ho
          clear ho
          simp only [actsD, List.getD_cons_zero, List.getD_cons_succ, List.foldl_cons, List.foldl_nil, Act.put, List.setIfInBounds_toArray, List.set_cons_succ, List.set_cons_zero]
          obtain ⟨_, _, _, h5⟩ := hp 5 (by simp)
          simp only [PPy17] at h5
          have hsz := hg.size
          have hgB : Below wc.heap.size wc w' := hg.below (fun k hk => ⟨hk, fun o => by rintro ⟨j, _, _, _, hw⟩; exact False.elim hw⟩)
          rw [h5]
          have e0 := (hg.cell (gx) 1 bx.lt (by rintro ⟨j, _, hne, hb, hw⟩; exact False.elim hw)).trans (bx.cell 1 _ rfl)
          go_wp2
          exact ⟨_, rfl, GrowC.refl _, rfl⟩
        | 7, _ =>
          obtain rfl := Option.some.inj ho
          clear ho
          simp only [actsD, List.getD_cons_zero, List.getD_cons_succ, List.foldl_cons, List.foldl_nil, Act.put, List.setIfInBounds_toArray, List.set_cons_succ, List.set_cons_zero]
          obtain ⟨_, _, _, h4⟩ := hp 4 (by simp)
          simp only [PPy17] at h4
          obtain ⟨_, _, _, h6⟩ := hp 6 (by simp)
          simp only [PPy17] at h6
          have hsz := hg.size
          have hgB : Below wc.heap.size wc w' := hg.below (fun k hk => ⟨hk, fun o => by rintro ⟨j, _, _, _, hw⟩; exact False.elim hw⟩)
          rw [h4, h6]
          have HA := HAT3.out.below hgB
          go_wp2_with fail
          refine (rheld_lq HA.ref hN3 x2).mono ?_
          rintro e wd ⟨c, ao, m, cp, rfl, g1, g2, g3, g4, g5⟩
          go_wp2
          exact ⟨_, rfl, GrowC.of_grow g5, c, ao, m, cp, rfl, g1, g2, g3, g4⟩
        | (q + 8), hq => exact absurd hq (by omega)
      intro vS lo hi w5 hg hp
      generalize hLL : List.drop 8 _ = LL
      simp only [List.drop_succ_cons, List.drop_zero, List.drop_nil] at hLL
      intro hd
      obtain ⟨_, _, _, h0⟩ := hp 0 (by decide)
      obtain ⟨_, _, _, h1⟩ := hp 1 (by decide)
      obtain ⟨_, _, _, h2⟩ := hp 2 (by decide)
      obtain ⟨_, _, _, h3⟩ := hp 3 (by decide)
      obtain ⟨_, _, _, h4⟩ := hp 4 (by decide)
      obtain ⟨_, _, _, h5⟩ := hp 5 (by decide)
      obtain ⟨_, _, _, h6⟩ := hp 6 (by decide)
      obtain ⟨_, _, _, h7⟩ := hp 7 (by decide)
      simp only [PPy17] at h0 h1 h2 h3 h4 h5 h6 h7
      clear hp hd
      have hsz := hg.size
      replace bx := bx.grow hg (by intro i _; rintro ⟨j, _, hw⟩; exact False.elim hw)
      replace hB := hB.trans (hg.below (fun k hk => ⟨by omega, fun o => by rintro ⟨j, _, hw⟩; exact False.elim hw⟩))
      subst hLL
      have hr : List.range 8 = [0, 1, 2, 3, 4, 5, 6, 7] := rfl
      rw [hr]
      clear hr
      simp only [List.drop_succ_cons, List.drop_zero, List.drop_nil, actsD, List.getD_cons_zero, List.getD_cons_succ, List.foldl_cons, List.foldl_nil, Act.put, List.setIfInBounds_toArray, List.set_cons_succ, List.set_cons_zero, h0, h1, h2, h4, h5, h6]
      clear h0 h1 h2 h4 h5 h6
      obtain ⟨cA, aA, mA, pA, eA, hA1, hA2, hA3, hA4⟩ := h3
      obtain ⟨cB, aB, mB, pB, eB, hB1, hB2, hB3, hB4⟩ := h7
      have hcc : cB = cA := held_eq HAT3.out.uM HAT3.out.uT (fun x => (HAT3.out.same x).symm) hB1 hA1
      rw [hcc] at hB2 hB4
      obtain rfl : mB = mA := by omega
      rw [eA, eB]
      have HA5 := Lib.hid (HAT3.out.below hB)
      have HRA := Lib.hid hA4
      have HRB := Lib.hid hB4
      have HCL := Lib.hid hA2
      have hne : (((mB : Nat) : Int) != ((mB : Nat) : Int)) = false := by simp
      have hmB : mB ≤ 9223372036854775807 := by omega
      clear hcc hA1 hA2 hA4 hB1 hB2 hB3 hB4 eA eB bx hbx hB HAT3 hsz hg
      obtain ⟨wo, rfl⟩ : ∃ wo : World, wo = wr := ⟨_, rfl⟩
      go_wp2_with fail
      go_loopw [10] (fun i wr => ∃ a : Nat, a ≤ mB ∧ i = .int .i64 a ∧ At7 w tb tq T3 M3 (N + nl) S3 R3 wr ∧ Below w5.heap.size w5 wr) (fun i _ => mB - (intOf i).toNat)
      case atStart => exact ⟨0, Nat.zero_le _, rfl, HA5.out, Below.refl _ _⟩
      case round =>
        obtain ⟨ix, hix, rfl, hat, hbw⟩ := hrel
        have HAU := Lib.hid hat
        have HBW := Lib.hid hbw
        clear hat hbw HA5 hne
        by_cases him : ix < mB
        case neg =>
          go_wp2_with fail
          go_roundw
          case rel => exact ⟨k + 1, T3, M3, S3, R3, by omega, by omega, by go_num, by rw [HTS.out]; exact HAU.out⟩
          case measure => simp [intOf]; omega
        have him1 : decide (ix < mB) = true := by simpa using him
        have hic : ix < cA.length := by rw [HCL.out]; exact him
        obtain ⟨ba, oa, c1, e1, hba0, _, hc1, hc2⟩ := Wns.at HRA.out ix him cA[ix] (List.getElem?_eq_getElem hic)
        obtain ⟨bb, ob, c2, e2, hbb0, _, hc3, hc4⟩ := Wns.at HRB.out ix him cA[ix] (List.getElem?_eq_getElem hic)
        injection e1 with e11 e12 e13
        subst e11 e13
        injection e2 with e21 e22 e23
        subst e21 e23
        clear e12 e22
        generalize cA[ix] = y at *
        obtain ⟨y1, y2⟩ := y
        have hd1 := (HBW.out.cell (p := ⟨ba, oa + ix * 2, none⟩) hba0).trans hc1
        have hd2 := (HBW.out.cell (p := ⟨ba, oa + ix * 2 + 1, none⟩) hba0).trans hc2
        have hd3 := (HBW.out.cell (p := ⟨bb, ob + ix * 2, none⟩) hbb0).trans hc3
        have hd4 := (HBW.out.cell (p := ⟨bb, ob + ix * 2 + 1, none⟩) hbb0).trans hc4
        try simp only at hd1 hd2 hd3 hd4
        have hba := Nat.lt_of_lt_of_le hba0 HBW.out.size
        have hbb := Nat.lt_of_lt_of_le hbb0 HBW.out.size
        clear hc1 hc2 hc3 hc4 hic hba0 hbb0
        have hB : Below wr.heap.size wr wr := Below.refl _ _
        go_wp2_with fail
        refine wp_region_partsDC (WPy23 tb tq ba oa mB pA bb ob pB ix y1 y2 M3) 41 [[], [], [0, 1], [0, 1, 2], [0, 1, 2, 3], [], [], [5, 6], [5, 6, 7], [5, 6, 7, 8], [0, 1, 2, 3, 4, 5, 6, 7, 8, 9], [0, 1, 2, 3, 4, 5, 6, 7, 8, 9, 10], [0, 1, 2, 3, 4, 5, 6, 7, 8, 9, 10, 11], [0, 1, 2, 3, 4, 5, 6, 7, 8, 9, 10, 11], [0, 1, 2, 3, 4, 5, 6, 7, 8, 9, 10, 11, 12, 13], [0, 1, 2, 3, 4, 5, 6, 7, 8, 9, 10, 11, 12, 13, 14], [0, 1, 2, 3, 4, 5, 6, 7, 8, 9, 10, 11, 12, 13, 14, 15], [0, 1, 2, 3, 4, 5, 6, 7, 8, 9, 10, 11], [0, 1, 2, 3, 4, 5, 6, 7, 8, 9, 10, 11], [0, 1, 2, 3, 4, 5, 6, 7, 8, 9, 10, 11, 17, 18], [0, 1, 2, 3, 4, 5, 6, 7, 8, 9, 10, 11, 17, 18, 19], [0, 1, 2, 3, 4, 5, 6, 7, 8, 9, 10, 11, 17, 18, 19, 20], [0, 1, 2, 3, 4, 5, 6, 7, 8, 9, 10, 11, 12, 13, 14, 15, 16, 17, 18, 19, 20, 21], [0, 1, 2, 3, 4, 5, 6, 7, 8, 9, 10, 11, 12, 13, 14, 15, 16, 17, 18, 19, 20, 21, 22], [0, 1, 2, 3, 4, 5, 6, 7, 8, 9, 10, 11, 12, 13, 14, 15, 16, 17, 18, 19, 20, 21, 22, 23], [0, 1, 2, 3, 4, 5, 6, 7, 8, 9, 10, 11, 12, 13, 14, 15, 16, 17, 18, 19, 20, 21, 22, 23, 24], [0, 1, 2, 3, 4, 5, 6, 7, 8, 9, 10, 11, 12, 13, 14, 15, 16, 17, 18, 19, 20, 21, 22, 23, 24], [0, 1, 2, 3, 4, 5, 6, 7, 8, 9, 10, 11, 12, 13, 14, 15, 16, 17, 18, 19, 20, 21, 22, 23, 24], [0, 1, 2, 3, 4, 5, 6, 7, 8, 9, 10, 11, 12, 13, 14, 15, 16, 17, 18, 19, 20, 21, 22, 23, 24, 26, 27], [0, 1, 2, 3, 4, 5, 6, 7, 8, 9, 10, 11, 12, 13, 14, 15, 16, 17, 18, 19, 20, 21, 22, 23, 24, 26, 27, 28], [0, 1, 2, 3, 4, 5, 6, 7, 8, 9, 10, 11, 12, 13, 14, 15, 16, 17, 18, 19, 20, 21, 22, 23, 24, 26, 27, 28, 29], [0, 1, 2, 3, 4, 5, 6, 7, 8, 9, 10, 11, 12, 13, 14, 15, 16, 17, 18, 19, 20, 21, 22, 23, 24, 25, 26, 27, 28, 29, 30], [0, 1, 2, 3, 4, 5, 6, 7, 8, 9, 10, 11, 12, 13, 14, 15, 16, 17, 18, 19, 20, 21, 22, 23, 24], [0, 1, 2, 3, 4, 5, 6, 7, 8, 9, 10, 11, 12, 13, 14, 15, 16, 17, 18, 19, 20, 21, 22, 23, 24], [0, 1, 2, 3, 4, 5, 6, 7, 8, 9, 10, 11, 12, 13, 14, 15, 16, 17, 18, 19, 20, 21, 22, 23, 24], [0, 1, 2, 3, 4, 5, 6, 7, 8, 9, 10, 11, 12, 13, 14, 15, 16, 17, 18, 19, 20, 21, 22, 23, 24, 33, 34], [0, 1, 2, 3, 4, 5, 6, 7, 8, 9, 10, 11, 12, 13, 14, 15, 16, 17, 18, 19, 20, 21, 22, 23, 24, 33, 34, 35], [0, 1, 2, 3, 4, 5, 6, 7, 8, 9, 10, 11, 12, 13, 14, 15, 16, 17, 18, 19, 20, 21, 22, 23, 24, 33, 34, 35, 36], [0, 1, 2, 3, 4, 5, 6, 7, 8, 9, 10, 11, 12, 13, 14, 15, 16, 17, 18, 19, 20, 21, 22, 23, 24, 25, 26, 27, 28, 29, 30, 31, 32, 33, 34, 35, 36, 37], [0, 1, 2, 3, 4, 5, 6, 7, 8, 9, 10, 11, 12, 13, 14, 15, 16, 17, 18, 19, 20, 21, 22, 23, 24, 25, 26, 27, 28, 29, 30, 31, 32, 33, 34, 35, 36, 37, 38], [0, 1, 2, 3, 4, 5, 6, 7, 8, 9, 10, 11, 12, 13, 14, 15, 16, 17, 18, 19, 20, 21, 22, 23, 24, 25, 26, 27, 28, 29, 30, 31, 32, 33, 34, 35, 36, 37, 38, 39]] [some 99, some 100, some 101, some 102, some 103, some 104, some 105, some 106, some 107, some 108, some 109, some 110, some 111, some 112, some 113, some 114, some 115, some 116, some 117, some 118, some 119, some 120, some 121, some 122, some 123, some 124, some 125, some 126, some 127, some 128, some 129, some 130, some 131, some 132, some 133, some 134, some 135, some 136, some 137, some 138, some 139, some 140] (by kernel_rfl) (by kernel_rfl) rfl (PPy23 tb tq ba oa mB pA bb ob pB ix y1 y2 M3) (PPy23_stable tb tq ba oa mB pA bb ob pB ix y1 y2 M3 ) ?pPy23 ?_
        case pPy23 =>
          intro i hi o ho vs lo hx_ w' hg hp
          match i, hi with
          | 0, _ =>
            obtain rfl := Option.some.inj ho
            clear ho
            simp only [actsD, List.getD_cons_zero, List.getD_cons_succ, List.foldl_cons, List.foldl_nil, Act.put, List.setIfInBounds_toArray, List.set_cons_succ, List.set_cons_zero]
            have hsz := hg.size
            have hgB : Below wr.heap.size wr w' := hg.below (fun k hk => ⟨hk, fun o => by rintro ⟨j, _, _, _, hw⟩; exact False.elim hw⟩)
            go_wp2
            exact ⟨_, rfl, GrowC.refl _, rfl⟩
          | 1, _ =>
            obtain rfl := Option.some.inj ho
            clear ho
            simp only [actsD, List.getD_cons_zero, List.getD_cons_succ, List.foldl_cons, List.foldl_nil, Act.put, List.setIfInBounds_toArray, List.set_cons_succ, List.set_cons_zero]
            have hsz := hg.size
            have hgB : Below wr.heap.size wr w' := hg.below (fun k hk => ⟨hk, fun o => by rintro ⟨j, _, _, _, hw⟩; exact False.elim hw⟩)
            go_wp2
            exact ⟨_, rfl, GrowC.refl _, rfl⟩
          | 2, _ =>
            obtain rfl := Option.some.inj ho
            clear ho
            simp only [actsD, List.getD_cons_zero, List.getD_cons_succ, List.foldl_cons, List.foldl_nil, Act.put, List.setIfInBounds_toArray, List.set_cons_succ, List.set_cons_zero]
            obtain ⟨_, _, _, h0⟩ := hp 0 (by simp)
            simp only [PPy23] at h0
            obtain ⟨_, _, _, h1⟩ := hp 1 (by simp)
            simp only [PPy23] at h1
            have hsz := hg.size
            have hgB : Below wr.heap.size wr w' := hg.below (fun k hk => ⟨hk, fun o => by rintro ⟨j, _, _, _, hw⟩; exact False.elim hw⟩)
            rw [h0, h1]
            go_wp2
            exact ⟨_, rfl, GrowC.refl _, rfl⟩
          | 3, _ =>
            obtain rfl := Option.some.inj ho
            clear ho
            simp only [actsD, List.getD_cons_zero, List.getD_cons_succ, List.foldl_cons, List.foldl_nil, Act.put, List.setIfInBounds_toArray, List.set_cons_succ, List.set_cons_zero]
            obtain ⟨_, _, _, h2⟩ := hp 2 (by simp)
            simp only [PPy23] at h2
            have hsz := hg.size
            have hgB : Below wr.heap.size wr w' := hg.below (fun k hk => ⟨hk, fun o => by rintro ⟨j, _, _, _, hw⟩; exact False.elim hw⟩)
            rw [h2]
            go_wp2
            exact ⟨_, rfl, GrowC.refl _, rfl⟩
          | 4, _ =>
            obtain rfl := Option.some.inj ho
            clear ho
            simp only [actsD, List.getD_cons_zero, List.getD_cons_succ, List.foldl_cons, List.foldl_nil, Act.put, List.setIfInBounds_toArray, List.set_cons_succ, List.set_cons_zero]
            obtain ⟨_, _, _, h3⟩ := hp 3 (by simp)
            simp only [PPy23] at h3
            have hsz := hg.size
            have hgB : Below wr.heap.size wr w' := hg.below (fun k hk => ⟨hk, fun o => by rintro ⟨j, _, _, _, hw⟩; exact False.elim hw⟩)
            rw [h3]
            have e0 := (hgB.cell (p := ⟨ba, oa + ix * 2, none⟩) hba).trans hd1
            go_wp2
            exact ⟨_, rfl, GrowC.refl _, rfl⟩
          | 5, _ =>
            obtain rfl := Option.some.inj ho
            clear ho
            simp only [actsD, List.getD_cons_zero, List.getD_cons_succ, List.foldl_cons, List.foldl_nil, Act.put, List.setIfInBounds_toArray, List.set_cons_succ, List.set_cons_zero]
            have hsz := hg.size
            have hgB : Below wr.heap.size wr w' := hg.below (fun k hk => ⟨hk, fun o => by rintro ⟨j, _, _, _, hw⟩; exact False.elim hw⟩)
            go_wp2
            exact ⟨_, rfl, GrowC.refl _, rfl⟩
          | 6, _ =>
            obtain rfl := Option.some.inj ho
            clear ho
            simp only [actsD, List.getD_cons_zero, List.getD_cons_succ, List.foldl_cons, List.foldl_nil, Act.put, List.setIfInBounds_toArray, List.set_cons_succ, List.set_cons_zero]
            have hsz := hg.size
            have hgB : Below wr.heap.size wr w' := hg.below (fun k hk => ⟨hk, fun o => by rintro ⟨j, _, _, _, hw⟩; exact False.elim hw⟩)
            go_wp2
            exact ⟨_, rfl, GrowC.refl _, rfl⟩
          | 7, _ =>
            obtain rfl := Option.some.inj ho
            clear ho
            simp only [actsD, List.getD_cons_zero, List.getD_cons_succ, List.foldl_cons, List.foldl_nil, Act.put, List.setIfInBounds_toArray, List.set_cons_succ, List.set_cons_zero]
            obtain ⟨_, _, _, h5⟩ := hp 5 (by simp)
            simp only [PPy23] at h5
            obtain ⟨_, _, _, h6⟩ := hp 6 (by simp)
            simp only [PPy23] at h6
            have hsz := hg.size
            have hgB : Below wr.heap.size wr w' := hg.below (fun k hk => ⟨hk, fun o => by rintro ⟨j, _, _, _, hw⟩; exact False.elim hw⟩)
            rw [h5, h6]
            go_wp2
            exact ⟨_, rfl, GrowC.refl _, rfl⟩
          | 8, _ =>
            obtain rfl := Option.some.inj ho
            clear ho
            simp only [actsD, List.getD_cons_zero, List.getD_cons_succ, List.foldl_cons, List.foldl_nil, Act.put, List.setIfInBounds_toArray, List.set_cons_succ, List.set_cons_zero]
            obtain ⟨_, _, _, h7⟩ := hp 7 (by simp)
            simp only [PPy23] at h7
            have hsz := hg.size
            have hgB : Below wr.heap.size wr w' := hg.below (fun k hk => ⟨hk, fun o => by rintro ⟨j, _, _, _, hw⟩; exact False.elim hw⟩)
            rw [h7]
            go_wp2
            exact ⟨_, rfl, GrowC.refl _, rfl⟩
          | 9, _ =>
            obtain rfl := Option.some.inj ho
            clear ho
            simp only [actsD, List.getD_cons_zero, List.getD_cons_succ, List.foldl_cons, List.foldl_nil, Act.put, List.setIfInBounds_toArray, List.set_cons_succ, List.set_cons_zero]
            obtain ⟨_, _, _, h8⟩ := hp 8 (by simp)
            simp only [PPy23] at h8
            have hsz := hg.size
            have hgB : Below wr.heap.size wr w' := hg.below (fun k hk => ⟨hk, fun o => by rintro ⟨j, _, _, _, hw⟩; exact False.elim hw⟩)
            rw [h8]
            have e0 := (hgB.cell (p := ⟨bb, ob + ix * 2, none⟩) hbb).trans hd3
            go_wp2
            exact ⟨_, rfl, GrowC.refl _, rfl⟩
          | 10, _ =>
            obtain rfl := Option.some.inj ho
            clear ho
            simp only [actsD, List.getD_cons_zero, List.getD_cons_succ, List.foldl_cons, List.foldl_nil, Act.put, List.setIfInBounds_toArray, List.set_cons_succ, List.set_cons_zero]
            obtain ⟨_, _, _, h4⟩ := hp 4 (by simp)
            simp only [PPy23] at h4
            obtain ⟨_, _, _, h9⟩ := hp 9 (by simp)
            simp only [PPy23] at h9
            have hsz := hg.size
            have hgB : Below wr.heap.size wr w' := hg.below (fun k hk => ⟨hk, fun o => by rintro ⟨j, _, _, _, hw⟩; exact False.elim hw⟩)
            rw [h4, h9]
            have hb1 : (y1.toList == y1.toList) = true := str_eq rfl
            have hb2 : (y1.toList != y1.toList) = false := by simp
            go_wp2
            exact ⟨_, rfl, GrowC.refl _, rfl⟩
          | 11, _ =>
            obtain rfl := Option.some.inj ho
            clear ho
            simp only [actsD, List.getD_cons_zero, List.getD_cons_succ, List.foldl_cons, List.foldl_nil, Act.put, List.setIfInBounds_toArray, List.set_cons_succ, List.set_cons_zero]
            obtain ⟨_, _, _, h10⟩ := hp 10 (by simp)
            simp only [PPy23] at h10
            have hsz := hg.size
            have hgB : Below wr.heap.size wr w' := hg.below (fun k hk => ⟨hk, fun o => by rintro ⟨j, _, _, _, hw⟩; exact False.elim hw⟩)
            rw [h10]
            go_wp2
            exact ⟨_, rfl, GrowC.refl _, rfl⟩
          | 12, _ =>
            obtain rfl := Option.some.inj ho
            clear ho
            simp only [actsD, List.getD_cons_zero, List.getD_cons_succ, List.foldl_cons, List.foldl_nil, Act.put, List.setIfInBounds_toArray, List.set_cons_succ, List.set_cons_zero]
            obtain ⟨_, _, _, h11⟩ := hp 11 (by simp)
            simp only [PPy23] at h11
            have hsz := hg.size
            have hgB : Below wr.heap.size wr w' := hg.below (fun k hk => ⟨hk, fun o => by rintro ⟨j, _, _, _, hw⟩; exact False.elim hw⟩)
            rw [h11]
            go_wp2
            exact ⟨_, rfl, GrowC.refl _, rfl⟩
          | 13, _ =>
            obtain rfl := Option.some.inj ho
            clear ho
            simp only [actsD, List.getD_cons_zero, List.getD_cons_succ, List.foldl_cons, List.foldl_nil, Act.put, List.setIfInBounds_toArray, List.set_cons_succ, List.set_cons_zero]
            obtain ⟨_, _, _, h11⟩ := hp 11 (by simp)
            simp only [PPy23] at h11
            have hsz := hg.size
            have hgB : Below wr.heap.size wr w' := hg.below (fun k hk => ⟨hk, fun o => by rintro ⟨j, _, _, _, hw⟩; exact False.elim hw⟩)
            rw [h11]
            go_wp2
            exact ⟨_, rfl, GrowC.refl _, rfl⟩
          | 14, _ =>
            obtain rfl := Option.some.inj ho
            clear ho
            simp only [actsD, List.getD_cons_zero, List.getD_cons_succ, List.foldl_cons, List.foldl_nil, Act.put, List.setIfInBounds_toArray, List.set_cons_succ, List.set_cons_zero]
            obtain ⟨_, _, _, h11⟩ := hp 11 (by simp)
            simp only [PPy23] at h11
            obtain ⟨_, _, _, h12⟩ := hp 12 (by simp)
            simp only [PPy23] at h12
            obtain ⟨_, _, _, h13⟩ := hp 13 (by simp)
            simp only [PPy23] at h13
            have hsz := hg.size
            have hgB : Below wr.heap.size wr w' := hg.below (fun k hk => ⟨hk, fun o => by rintro ⟨j, _, _, _, hw⟩; exact False.elim hw⟩)
            rw [h11, h12, h13]
            go_wp2
            exact ⟨_, rfl, GrowC.refl _, rfl⟩
          | 15, _ =>
            obtain rfl := Option.some.inj ho
            clear ho
            simp only [actsD, List.getD_cons_zero, List.getD_cons_succ, List.foldl_cons, List.foldl_nil, Act.put, List.setIfInBounds_toArray, List.set_cons_succ, List.set_cons_zero]
            obtain ⟨_, _, _, h11⟩ := hp 11 (by simp)
            simp only [PPy23] at h11
            obtain ⟨_, _, _, h14⟩ := hp 14 (by simp)
            simp only [PPy23] at h14
            have hsz := hg.size
            have hgB : Below wr.heap.size wr w' := hg.below (fun k hk => ⟨hk, fun o => by rintro ⟨j, _, _, _, hw⟩; exact False.elim hw⟩)
            rw [h11, h14]
            go_wp2
            exact ⟨_, rfl, GrowC.refl _, rfl⟩
          | 16, _ =>
            obtain rfl := Option.some.inj ho
            clear ho
            simp only [actsD, List.getD_cons_zero, List.getD_cons_succ, List.foldl_cons, List.foldl_nil, Act.put, List.setIfInBounds_toArray, List.set_cons_succ, List.set_cons_zero]
            obtain ⟨_, _, _, h11⟩ := hp 11 (by simp)
            simp only [PPy23] at h11
            obtain ⟨_, _, _, h15⟩ := hp 15 (by simp)
            simp only [PPy23] at h15
            have hsz := hg.size
            have hgB : Below wr.heap.size wr w' := hg.below (fun k hk => ⟨hk, fun o => by rintro ⟨j, _, _, _, hw⟩; exact False.elim hw⟩)
            rw [h11, h15]
            have e0 := (hgB.cell (p := ⟨ba, oa + ix * 2 + 1, none⟩) hba).trans hd2
            go_wp2
            exact ⟨_, rfl, GrowC.refl _, rfl⟩
          | 17, _ =>
            obtain rfl := Option.some.inj ho
            clear ho
            simp only [actsD, List.getD_cons_zero, List.getD_cons_succ, List.foldl_cons, List.foldl_nil, Act.put, List.setIfInBounds_toArray, List.set_cons_succ, List.set_cons_zero]
            obtain ⟨_, _, _, h11⟩ := hp 11 (by simp)
            simp only [PPy23] at h11
            have hsz := hg.size
            have hgB : Below wr.heap.size wr w' := hg.below (fun k hk => ⟨hk, fun o => by rintro ⟨j, _, _, _, hw⟩; exact False.elim hw⟩)
            rw [h11]
            go_wp2
            exact ⟨_, rfl, GrowC.refl _, rfl⟩
          | 18, _ =>
            obtain rfl := Option.some.inj ho
            clear ho
            simp only [actsD, List.getD_cons_zero, List.getD_cons_succ, List.foldl_cons, List.foldl_nil, Act.put, List.setIfInBounds_toArray, List.set_cons_succ, List.set_cons_zero]
            obtain ⟨_, _, _, h11⟩ := hp 11 (by simp)
            simp only [PPy23] at h11
            have hsz := hg.size
            have hgB : Below wr.heap.size wr w' := hg.below (fun k hk => ⟨hk, fun o => by rintro ⟨j, _, _, _, hw⟩; exact False.elim hw⟩)
            rw [h11]
            go_wp2
            exact ⟨_, rfl, GrowC.refl _, rfl⟩
          | 19, _ =>
            obtain rfl := Option.some.inj ho
            clear ho
            simp only [actsD, List.getD_cons_zero, List.getD_cons_succ, List.foldl_cons, List.foldl_nil, Act.put, List.setIfInBounds_toArray, List.set_cons_succ, List.set_cons_zero]
            obtain ⟨_, _, _, h11⟩ := hp 11 (by simp)
            simp only [PPy23] at h11
            obtain ⟨_, _, _, h17⟩ := hp 17 (by simp)
            simp only [PPy23] at h17
            obtain ⟨_, _, _, h18⟩ := hp 18 (by simp)
            simp only [PPy23] at h18
            have hsz := hg.size
            have hgB : Below wr.heap.size wr w' := hg.below (fun k hk => ⟨hk, fun o => by rintro ⟨j, _, _, _, hw⟩; exact False.elim hw⟩)
            rw [h11, h17, h18]
            go_wp2
            exact ⟨_, rfl, GrowC.refl _, rfl⟩
          | 20, _ =>
            obtain rfl := Option.some.inj ho
            clear ho
            simp only [actsD, List.getD_cons_zero, List.getD_cons_succ, List.foldl_cons, List.foldl_nil, Act.put, List.setIfInBounds_toArray, List.set_cons_succ, List.set_cons_zero]
            obtain ⟨_, _, _, h11⟩ := hp 11 (by simp)
            simp only [PPy23] at h11
            obtain ⟨_, _, _, h19⟩ := hp 19 (by simp)
            simp only [PPy23] at h19
            have hsz := hg.size
            have hgB : Below wr.heap.size wr w' := hg.below (fun k hk => ⟨hk, fun o => by rintro ⟨j, _, _, _, hw⟩; exact False.elim hw⟩)
            rw [h11, h19]
            go_wp2
            exact ⟨_, rfl, GrowC.refl _, rfl⟩
          | 21, _ =>
            obtain rfl := Option.some.inj ho
            clear ho
            simp only [actsD, List.getD_cons_zero, List.getD_cons_succ, List.foldl_cons, List.foldl_nil, Act.put, List.setIfInBounds_toArray, List.set_cons_succ, List.set_cons_zero]
            obtain ⟨_, _, _, h11⟩ := hp 11 (by simp)
            simp only [PPy23] at h11
            obtain ⟨_, _, _, h20⟩ := hp 20 (by simp)
            simp only [PPy23] at h20
            have hsz := hg.size
            have hgB : Below wr.heap.size wr w' := hg.below (fun k hk => ⟨hk, fun o => by rintro ⟨j, _, _, _, hw⟩; exact False.elim hw⟩)
            rw [h11, h20]
            have e0 := (hgB.cell (p := ⟨bb, ob + ix * 2 + 1, none⟩) hbb).trans hd4
            go_wp2
            exact ⟨_, rfl, GrowC.refl _, rfl⟩
          | 22, _ =>
            obtain rfl := Option.some.inj ho
            clear ho
            simp only [actsD, List.getD_cons_zero, List.getD_cons_succ, List.foldl_cons, List.foldl_nil, Act.put, List.setIfInBounds_toArray, List.set_cons_succ, List.set_cons_zero]
            obtain ⟨_, _, _, h11⟩ := hp 11 (by simp)
            simp only [PPy23] at h11
            obtain ⟨_, _, _, h16⟩ := hp 16 (by simp)
            simp only [PPy23] at h16
            obtain ⟨_, _, _, h21⟩ := hp 21 (by simp)
            simp only [PPy23] at h21
            have hsz := hg.size
            have hgB : Below wr.heap.size wr w' := hg.below (fun k hk => ⟨hk, fun o => by rintro ⟨j, _, _, _, hw⟩; exact False.elim hw⟩)
            rw [h11, h16, h21]
            have hb1 : (y2 != y2) = false := by simp
            go_wp2
            exact ⟨_, rfl, GrowC.refl _, rfl⟩
          | 23, _ =>
            obtain rfl := Option.some.inj ho
            clear ho
            simp only [actsD, List.getD_cons_zero, List.getD_cons_succ, List.foldl_cons, List.foldl_nil, Act.put, List.setIfInBounds_toArray, List.set_cons_succ, List.set_cons_zero]
            obtain ⟨_, _, _, h11⟩ := hp 11 (by simp)
            simp only [PPy23] at h11
            obtain ⟨_, _, _, h22⟩ := hp 22 (by simp)
            simp only [PPy23] at h22
            have hsz := hg.size
            have hgB : Below wr.heap.size wr w' := hg.below (fun k hk => ⟨hk, fun o => by rintro ⟨j, _, _, _, hw⟩; exact False.elim hw⟩)
            rw [h11, h22]
            go_wp2
            exact ⟨_, rfl, GrowC.refl _, rfl⟩
          | 24, _ =>
            obtain rfl := Option.some.inj ho
            clear ho
            simp only [actsD, List.getD_cons_zero, List.getD_cons_succ, List.foldl_cons, List.foldl_nil, Act.put, List.setIfInBounds_toArray, List.set_cons_succ, List.set_cons_zero]
            obtain ⟨_, _, _, h23⟩ := hp 23 (by simp)
            simp only [PPy23] at h23
            have hsz := hg.size
            have hgB : Below wr.heap.size wr w' := hg.below (fun k hk => ⟨hk, fun o => by rintro ⟨j, _, _, _, hw⟩; exact False.elim hw⟩)
            rw [h23]
            go_wp2
            exact ⟨_, rfl, GrowC.refl _, rfl⟩
          | 25, _ =>
            obtain rfl := Option.some.inj ho
            clear ho
            simp only [actsD, List.getD_cons_zero, List.getD_cons_succ, List.foldl_cons, List.foldl_nil, Act.put, List.setIfInBounds_toArray, List.set_cons_succ, List.set_cons_zero]
            obtain ⟨_, _, _, h24⟩ := hp 24 (by simp)
            simp only [PPy23] at h24
            have hsz := hg.size
            have hgB : Below wr.heap.size wr w' := hg.below (fun k hk => ⟨hk, fun o => by rintro ⟨j, _, _, _, hw⟩; exact False.elim hw⟩)
            rw [h24]
            go_wp2
            exact ⟨_, rfl, GrowC.refl _, rfl⟩
          | 26, _ =>
            obtain rfl := Option.some.inj ho
            clear ho
            simp only [actsD, List.getD_cons_zero, List.getD_cons_succ, List.foldl_cons, List.foldl_nil, Act.put, List.setIfInBounds_toArray, List.set_cons_succ, List.set_cons_zero]
            obtain ⟨_, _, _, h24⟩ := hp 24 (by simp)
            simp only [PPy23] at h24
            have hsz := hg.size
            have hgB : Below wr.heap.size wr w' := hg.below (fun k hk => ⟨hk, fun o => by rintro ⟨j, _, _, _, hw⟩; exact False.elim hw⟩)
            rw [h24]
            go_wp2
            exact ⟨_, rfl, GrowC.refl _, rfl⟩
          | 27, _ =>
            obtain rfl := Option.some.inj ho
            clear ho
            simp only [actsD, List.getD_cons_zero, List.getD_cons_succ, List.foldl_cons, List.foldl_nil, Act.put, List.setIfInBounds_toArray, List.set_cons_succ, List.set_cons_zero]
            obtain ⟨_, _, _, h24⟩ := hp 24 (by simp)
            simp only [PPy23] at h24
            have hsz := hg.size
            have hgB : Below wr.heap.size wr w' := hg.below (fun k hk => ⟨hk, fun o => by rintro ⟨j, _, _, _, hw⟩; exact False.elim hw⟩)
            rw [h24]
            go_wp2
            exact ⟨_, rfl, GrowC.refl _, rfl⟩
          | 28, _ =>
            obtain rfl := Option.some.inj ho
            clear ho
            simp only [actsD, List.getD_cons_zero, List.getD_cons_succ, List.foldl_cons, List.foldl_nil, Act.put, List.setIfInBounds_toArray, List.set_cons_succ, List.set_cons_zero]
            obtain ⟨_, _, _, h24⟩ := hp 24 (by simp)
            simp only [PPy23] at h24
            obtain ⟨_, _, _, h26⟩ := hp 26 (by simp)
            simp only [PPy23] at h26
            obtain ⟨_, _, _, h27⟩ := hp 27 (by simp)
            simp only [PPy23] at h27
            have hsz := hg.size
            have hgB : Below wr.heap.size wr w' := hg.below (fun k hk => ⟨hk, fun o => by rintro ⟨j, _, _, _, hw⟩; exact False.elim hw⟩)
            rw [h24, h26, h27]
            go_wp2
            exact ⟨_, rfl, GrowC.refl _, rfl⟩
          | 29, _ =>
            obtain rfl := Option.some.inj ho
            clear ho
            simp only [actsD, List.getD_cons_zero, List.getD_cons_succ, List.foldl_cons, List.foldl_nil, Act.put, List.setIfInBounds_toArray, List.set_cons_succ, List.set_cons_zero]
            obtain ⟨_, _, _, h24⟩ := hp 24 (by simp)
            simp only [PPy23] at h24
            obtain ⟨_, _, _, h28⟩ := hp 28 (by simp)
            simp only [PPy23] at h28
            have hsz := hg.size
            have hgB : Below wr.heap.size wr w' := hg.below (fun k hk => ⟨hk, fun o => by rintro ⟨j, _, _, _, hw⟩; exact False.elim hw⟩)
            rw [h24, h28]
            go_wp2
            exact ⟨_, rfl, GrowC.refl _, rfl⟩
          | 30, _ =>
            obtain rfl := Option.some.inj ho
            clear ho
            simp only [actsD, List.getD_cons_zero, List.getD_cons_succ, List.foldl_cons, List.foldl_nil, Act.put, List.setIfInBounds_toArray, List.set_cons_succ, List.set_cons_zero]
            obtain ⟨_, _, _, h24⟩ := hp 24 (by simp)
            simp only [PPy23] at h24
            obtain ⟨_, _, _, h29⟩ := hp 29 (by simp)
            simp only [PPy23] at h29
            have hsz := hg.size
            have hgB : Below wr.heap.size wr w' := hg.below (fun k hk => ⟨hk, fun o => by rintro ⟨j, _, _, _, hw⟩; exact False.elim hw⟩)
            rw [h24, h29]
            have e0 := (hgB.cell (p := ⟨ba, oa + ix * 2, none⟩) hba).trans hd1
            go_wp2
            exact ⟨_, rfl, GrowC.refl _, rfl⟩
          | 31, _ =>
            obtain rfl := Option.some.inj ho
            clear ho
            simp only [actsD, List.getD_cons_zero, List.getD_cons_succ, List.foldl_cons, List.foldl_nil, Act.put, List.setIfInBounds_toArray, List.set_cons_succ, List.set_cons_zero]
            obtain ⟨_, _, _, h24⟩ := hp 24 (by simp)
            simp only [PPy23] at h24
            obtain ⟨_, _, _, h25⟩ := hp 25 (by simp)
            simp only [PPy23] at h25
            obtain ⟨_, _, _, h30⟩ := hp 30 (by simp)
            simp only [PPy23] at h30
            have hsz := hg.size
            have hgB : Below wr.heap.size wr w' := hg.below (fun k hk => ⟨hk, fun o => by rintro ⟨j, _, _, _, hw⟩; exact False.elim hw⟩)
            rw [h24, h25, h30]
            have HA := HAU.out.below hgB
            go_wp2_with fail
            refine (holders_lt HA.tab hN3 y1).mono ?_
            rintro e wd ⟨c, ao, m, cp, rfl, g1, g2, g3, g4, g5⟩
            rw [hold_eq HA.uT HA.uM HA.same g1] at g2 g4
            go_wp2
            exact ⟨_, rfl, GrowC.of_grow g5, ao, m, cp, rfl, g2, by omega, g4⟩
          | 32, _ =>
            obtain rfl := Option.some.inj ho
            clear ho
            simp only [actsD, List.getD_cons_zero, List.getD_cons_succ, List.foldl_cons, List.foldl_nil, Act.put, List.setIfInBounds_toArray, List.set_cons_succ, List.set_cons_zero]
            obtain ⟨_, _, _, h24⟩ := hp 24 (by simp)
            simp only [PPy23] at h24
            have hsz := hg.size
            have hgB : Below wr.heap.size wr w' := hg.below (fun k hk => ⟨hk, fun o => by rintro ⟨j, _, _, _, hw⟩; exact False.elim hw⟩)
            rw [h24]
            go_wp2
            exact ⟨_, rfl, GrowC.refl _, rfl⟩
          | 33, _ =>
            obtain rfl := Option.some.inj ho
            clear ho
            simp only [actsD, List.getD_cons_zero, List.getD_cons_succ, List.foldl_cons, List.foldl_nil, Act.put, List.setIfInBounds_toArray, List.set_cons_succ, List.set_cons_zero]
            obtain ⟨_, _, _, h24⟩ := hp 24 (by simp)
            simp only [PPy23] at h24
            have hsz := hg.size
            have hgB : Below wr.heap.size wr w' := hg.below (fun k hk => ⟨hk, fun o => by rintro ⟨j, _, _, _, hw⟩; exact False.elim hw⟩)
            rw [h24]
            go_wp2
            exact ⟨_, rfl, GrowC.refl _, rfl⟩
          | 34, _ =>
            obtain rfl := Option.some.inj ho
            clear ho
            simp only [actsD, List.getD_cons_zero, List.getD_cons_succ, List.foldl_cons, List.foldl_nil, Act.put, List.setIfInBounds_toArray, List.set_cons_succ, List.set_cons_zero]
            obtain ⟨_, _, _, h24⟩ := hp 24 (by simp)
            simp only [PPy23] at h24
            have hsz := hg.size
            have hgB : Below wr.heap.size wr w' := hg.below (fun k hk => ⟨hk, fun o => by rintro ⟨j, _, _, _, hw⟩; exact False.elim hw⟩)
            rw [h24]
            go_wp2
            exact ⟨_, rfl, GrowC.refl _, rfl⟩
          | 35, _ =>
            obtain rfl := Option.some.inj ho
            clear ho
            simp only [actsD, List.getD_cons_zero, List.getD_cons_succ, List.foldl_cons, List.foldl_nil, Act.put, List.setIfInBounds_toArray, List.set_cons_succ, List.set_cons_zero]
            obtain ⟨_, _, _, h24⟩ := hp 24 (by simp)
            simp only [PPy23] at h24
            obtain ⟨_, _, _, h33⟩ := hp 33 (by simp)
            simp only [PPy23] at h33
            obtain ⟨_, _, _, h34⟩ := hp 34 (by simp)
            simp only [PPy23] at h34
            have hsz := hg.size
            have hgB : Below wr.heap.size wr w' := hg.below (fun k hk => ⟨hk, fun o => by rintro ⟨j, _, _, _, hw⟩; exact False.elim hw⟩)
            rw [h24, h33, h34]
            go_wp2
            exact ⟨_, rfl, GrowC.refl _, rfl⟩
          | 36, _ =>
            obtain rfl := Option.some.inj ho
            clear ho
            simp only [actsD, List.getD_cons_zero, List.getD_cons_succ, List.foldl_cons, List.foldl_nil, Act.put, List.setIfInBounds_toArray, List.set_cons_succ, List.set_cons_zero]
            obtain ⟨_, _, _, h24⟩ := hp 24 (by simp)
            simp only [PPy23] at h24
            obtain ⟨_, _, _, h35⟩ := hp 35 (by simp)
            simp only [PPy23] at h35
            have hsz := hg.size
            have hgB : Below wr.heap.size wr w' := hg.below (fun k hk => ⟨hk, fun o => by rintro ⟨j, _, _, _, hw⟩; exact False.elim hw⟩)
            rw [h24, h35]
            go_wp2
            exact ⟨_, rfl, GrowC.refl _, rfl⟩
          | 37, _ =>
            obtain rfl := Option.some.inj ho
            clear ho
            simp only [actsD, List.getD_cons_zero, List.getD_cons_succ, List.foldl_cons, List.foldl_nil, Act.put, List.setIfInBounds_toArray, List.set_cons_succ, List.set_cons_zero]
            obtain ⟨_, _, _, h24⟩ := hp 24 (by simp)
            simp only [PPy23] at h24
            obtain ⟨_, _, _, h36⟩ := hp 36 (by simp)
            simp only [PPy23] at h36
            have hsz := hg.size
            have hgB : Below wr.heap.size wr w' := hg.below (fun k hk => ⟨hk, fun o => by rintro ⟨j, _, _, _, hw⟩; exact False.elim hw⟩)
            rw [h24, h36]
            have e0 := (hgB.cell (p := ⟨ba, oa + ix * 2, none⟩) hba).trans hd1
            go_wp2
            exact ⟨_, rfl, GrowC.refl _, rfl⟩
          | 38, _ =>
            obtain rfl := Option.some.inj ho
            clear ho
            simp only [actsD, List.getD_cons_zero, List.getD_cons_succ, List.foldl_cons, List.foldl_nil, Act.put, List.setIfInBounds_toArray, List.set_cons_succ, List.set_cons_zero]
            obtain ⟨_, _, _, h24⟩ := hp 24 (by simp)
            simp only [PPy23] at h24
            obtain ⟨_, _, _, h32⟩ := hp 32 (by simp)
            simp only [PPy23] at h32
            obtain ⟨_, _, _, h37⟩ := hp 37 (by simp)
            simp only [PPy23] at h37
            have hsz := hg.size
            have hgB : Below wr.heap.size wr w' := hg.below (fun k hk => ⟨hk, fun o => by rintro ⟨j, _, _, _, hw⟩; exact False.elim hw⟩)
            rw [h24, h32, h37]
            have HA := HAU.out.below hgB
            go_wp2_with fail
            refine (rholders_lq HA.ref hN3 y1).mono ?_
            rintro e wd ⟨ao, m, cp, rfl, g2, g3, g4, g5⟩
            go_wp2
            exact ⟨_, rfl, GrowC.of_grow g5, ao, m, cp, rfl, g2, by omega, g4⟩
          | 39, _ =>
            obtain rfl := Option.some.inj ho
            clear ho
            simp only [actsD, List.getD_cons_zero, List.getD_cons_succ, List.foldl_cons, List.foldl_nil, Act.put, List.setIfInBounds_toArray, List.set_cons_succ, List.set_cons_zero]
            obtain ⟨_, _, _, h24⟩ := hp 24 (by simp)
            simp only [PPy23] at h24
            obtain ⟨_, _, _, h31⟩ := hp 31 (by simp)
            simp only [PPy23] at h31
            obtain ⟨_, _, _, h38⟩ := hp 38 (by simp)
            simp only [PPy23] at h38
            have hsz := hg.size
            have hgB : Below wr.heap.size wr w' := hg.below (fun k hk => ⟨hk, fun o => by rintro ⟨j, _, _, _, hw⟩; exact False.elim hw⟩)
            rw [h24]
            obtain ⟨aX, mX, pX, eX, hX1, hX2, hX3⟩ := h31
            obtain ⟨aY, mY, pY, eY, hY1, hY2, hY3⟩ := h38
            obtain rfl : mX = mY := by omega
            rw [eX, eY]
            go_wp2_with fail
            refine (ints_same (rholdL y1 M3) _ _ mX hX1 (by omega) _ hX3 hY3).mono ?_
            rintro e wd ⟨rfl, hbc⟩
            go_wp2
            exact ⟨_, rfl, GrowC.of_grow hbc, rfl⟩
          | 40, _ =>
            obtain rfl := Option.some.inj ho
            clear ho
            simp only [actsD, List.getD_cons_zero, List.getD_cons_succ, List.foldl_cons, List.foldl_nil, Act.put, List.setIfInBounds_toArray, List.set_cons_succ, List.set_cons_zero]
            obtain ⟨_, _, _, h24⟩ := hp 24 (by simp)
            simp only [PPy23] at h24
            obtain ⟨_, _, _, h39⟩ := hp 39 (by simp)
            simp only [PPy23] at h39
            have hsz := hg.size
            have hgB : Below wr.heap.size wr w' := hg.below (fun k hk => ⟨hk, fun o => by rintro ⟨j, _, _, _, hw⟩; exact False.elim hw⟩)
            rw [h24, h39]
            go_wp2
            exact ⟨_, rfl, GrowC.refl _, rfl⟩
          | (q + 41), hq => exact absurd hq (by omega)
        intro vS lo hi w7 hg hp
        generalize hLL : List.drop 41 _ = LL
        simp only [List.drop_succ_cons, List.drop_zero, List.drop_nil] at hLL
        intro hd
        obtain ⟨_, _, _, h0⟩ := hp 0 (by decide)
        obtain ⟨_, _, _, h1⟩ := hp 1 (by decide)
        obtain ⟨_, _, _, h2⟩ := hp 2 (by decide)
        obtain ⟨_, _, _, h3⟩ := hp 3 (by decide)
        obtain ⟨_, _, _, h4⟩ := hp 4 (by decide)
        obtain ⟨_, _, _, h5⟩ := hp 5 (by decide)
        obtain ⟨_, _, _, h6⟩ := hp 6 (by decide)
        obtain ⟨_, _, _, h7⟩ := hp 7 (by decide)
        obtain ⟨_, _, _, h8⟩ := hp 8 (by decide)
        obtain ⟨_, _, _, h9⟩ := hp 9 (by decide)
        obtain ⟨_, _, _, h10⟩ := hp 10 (by decide)
        obtain ⟨_, _, _, h11⟩ := hp 11 (by decide)
        obtain ⟨_, _, _, h12⟩ := hp 12 (by decide)
        obtain ⟨_, _, _, h13⟩ := hp 13 (by decide)
        obtain ⟨_, _, _, h14⟩ := hp 14 (by decide)
        obtain ⟨_, _, _, h15⟩ := hp 15 (by decide)
        obtain ⟨_, _, _, h16⟩ := hp 16 (by decide)
        obtain ⟨_, _, _, h17⟩ := hp 17 (by decide)
        obtain ⟨_, _, _, h18⟩ := hp 18 (by decide)
        obtain ⟨_, _, _, h19⟩ := hp 19 (by decide)
        obtain ⟨_, _, _, h20⟩ := hp 20 (by decide)
        obtain ⟨_, _, _, h21⟩ := hp 21 (by decide)
        obtain ⟨_, _, _, h22⟩ := hp 22 (by decide)
        obtain ⟨_, _, _, h23⟩ := hp 23 (by decide)
        obtain ⟨_, _, _, h24⟩ := hp 24 (by decide)
        obtain ⟨_, _, _, h25⟩ := hp 25 (by decide)
        obtain ⟨_, _, _, h26⟩ := hp 26 (by decide)
        obtain ⟨_, _, _, h27⟩ := hp 27 (by decide)
        obtain ⟨_, _, _, h28⟩ := hp 28 (by decide)
        obtain ⟨_, _, _, h29⟩ := hp 29 (by decide)
        obtain ⟨_, _, _, h30⟩ := hp 30 (by decide)
        obtain ⟨_, _, _, h31⟩ := hp 31 (by decide)
        obtain ⟨_, _, _, h32⟩ := hp 32 (by decide)
        obtain ⟨_, _, _, h33⟩ := hp 33 (by decide)
        obtain ⟨_, _, _, h34⟩ := hp 34 (by decide)
        obtain ⟨_, _, _, h35⟩ := hp 35 (by decide)
        obtain ⟨_, _, _, h36⟩ := hp 36 (by decide)
        obtain ⟨_, _, _, h37⟩ := hp 37 (by decide)
        obtain ⟨_, _, _, h38⟩ := hp 38 (by decide)
        obtain ⟨_, _, _, h39⟩ := hp 39 (by decide)
        obtain ⟨_, _, _, h40⟩ := hp 40 (by decide)
        simp only [PPy23] at h0 h1 h2 h3 h4 h5 h6 h7 h8 h9 h10 h11 h12 h13 h14 h15 h16 h17 h18 h19 h20 h21 h22 h23 h24 h25 h26 h27 h28 h29 h30 h31 h32 h33 h34 h35 h36 h37 h38 h39 h40
        clear hp hd
        have hsz := hg.size
        replace hB := hB.trans (hg.below (fun k hk => ⟨by omega, fun o => by rintro ⟨j, _, hw⟩; exact False.elim hw⟩))
        subst hLL
        have hr : List.range 41 = [0, 1, 2, 3, 4, 5, 6, 7, 8, 9, 10, 11, 12, 13, 14, 15, 16, 17, 18, 19, 20, 21, 22, 23, 24, 25, 26, 27, 28, 29, 30, 31, 32, 33, 34, 35, 36, 37, 38, 39, 40] := rfl
        rw [hr]
        clear hr
        simp only [List.drop_succ_cons, List.drop_zero, List.drop_nil, actsD, List.getD_cons_zero, List.getD_cons_succ, List.foldl_cons, List.foldl_nil, Act.put, List.setIfInBounds_toArray, List.set_cons_succ, List.set_cons_zero, h0, h1, h2, h3, h4, h5, h6, h7, h8, h9, h10, h11, h12, h13, h14, h15, h16, h17, h18, h19, h20, h21, h22, h23, h24, h25, h26, h27, h28, h29, h30, h32, h33, h34, h35, h36, h37, h39, h40]
        clear h0 h1 h2 h3 h4 h5 h6 h7 h8 h9 h10 h11 h12 h13 h14 h15 h16 h17 h18 h19 h20 h21 h22 h23 h24 h25 h26 h27 h28 h29 h30 h32 h33 h34 h35 h36 h37 h39 h40
        go_wp2_with fail
        go_roundw
        case rel => exact ⟨ix + 1, by omega, by go_num, HAU.out.below hB, HBW.out.trans (hB.mono HBW.out.size)⟩
        case measure => simp [intOf]; omega
    all_goals skip
end Go.Proofs.Ytoghmllkaafckaa

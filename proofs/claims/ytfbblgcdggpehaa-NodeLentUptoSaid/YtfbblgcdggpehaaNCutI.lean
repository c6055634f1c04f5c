/- What node.Cut answers at an inner node. Conditions: a node whose lists belong together, a place inside it. -/
import Derived.Test.YtfbblgcdggpehaaNCutK
namespace Go.Proofs.Ytfbblgcdggpehaa
set_option linter.unusedSimpArgs false
set_option linter.unusedVariables false
open Go.RowKit

/-- 'l[k:]' where k may be the end -/
theorem Texts.dropE {w : World} {b o n c : Nat} {L : List (List UInt8)} (h : Texts w (.slice (some ⟨b, o, none⟩) n c) L) (k m c' o' : Nat) (hn : L.length = n) (hk : k ≤ n) (hm : m = n - k) (hc' : m ≤ c') (ho : o' = if n = k then o else o + k) : Texts w (.slice (some ⟨b, o', none⟩) m c') (L.drop k) := by
  by_cases e : n = k
  · rw [if_pos e] at ho
    subst ho e
    have : L.drop n = [] := List.drop_eq_nil_of_le (by omega)
    rw [this]
    exact ⟨[], ⟨some ⟨b, o', none⟩, c', by simp [hm], rfl, by simp, fun h => absurd h (by simp)⟩, TextsAt.nil⟩
  · rw [if_neg e] at ho
    subst ho
    exact h.drop k m c' hn hk hm hc'

theorem Reads.takeI {w : World} {b o n c : Nat} {L : List Int} (h : Reads 1 w (.slice (some ⟨b, o, none⟩) n c) n (L.map I)) (k : Nat) (hk : k ≤ n) : Reads 1 w (.slice (some ⟨b, o, none⟩) k c) k ((L.take k).map I) := by
  obtain ⟨ao', cap', he, hl, hle, hc⟩ := h
  injection he with h1 h2 h3
  subst h1 h3
  refine ⟨_, _, rfl, by rw [List.length_map, List.length_take]; simp at hl; omega, by omega, fun hpos => ?_⟩
  obtain ⟨b', o', hb, hlt, hcell⟩ := hc (by omega)
  injection hb with hb
  injection hb with e1 e2
  subst e1 e2
  refine ⟨b, o, rfl, hlt, fun j u hu => ?_⟩
  rw [List.map_take, List.getElem?_take] at hu
  split at hu
  · exact hcell j u hu
  · cases hu

theorem Reads.dropI {w : World} {b o n c : Nat} {L : List Int} (h : Reads 1 w (.slice (some ⟨b, o, none⟩) n c) n (L.map I)) (k m c' : Nat) (hk : k ≤ n) (hm : m = n - k) (hc' : m ≤ c') : Reads 1 w (.slice (some ⟨b, o + k, none⟩) m c') m ((L.drop k).map I) := by
  subst hm
  obtain ⟨ao', cap', he, hl, hle, hc⟩ := h
  injection he with h1 h2 h3
  subst h1 h3
  have hl2 : L.length = n := by simpa using hl
  refine ⟨_, _, rfl, by rw [List.length_map, List.length_drop, hl2, Nat.mul_one], hc', fun hpos => ?_⟩
  obtain ⟨b', o', hb, hlt, hcell⟩ := hc (by omega)
  injection hb with hb
  injection hb with e1 e2
  subst e1 e2
  refine ⟨b, o + k, rfl, hlt, fun j u hu => ?_⟩
  rw [List.map_drop, List.getElem?_drop] at hu
  rw [Nat.add_assoc]
  exact hcell (k + j) u hu

theorem Reads.some_addr' {w : World} {K n c m : Nat} {ao : Option Addr} {xs : List Value} (h : Reads K w (.slice ao n c) m xs) (hn : 0 < m) : ∃ b off, ao = some ⟨b, off, none⟩ := by
  obtain ⟨ao', cap', he, hl, hle, hc⟩ := h
  injection he with h1 h2 h3
  subst h1
  obtain ⟨b, o, e, _⟩ := hc hn
  exact ⟨b, o, e⟩
def WCutB2 (g nk h kb ko kr db dd : Nat) (n : Int) (av : Option Addr) (j b o : Nat) : Prop := (j = 2 ∧ b = g + 1 ∧ o = 0) ∨ (j = 2 ∧ b = g + 1 ∧ o = 1) ∨ (j = 2 ∧ b = g + 1 ∧ o = 2) ∨ (j = 2 ∧ b = g + 1 ∧ o = 3) ∨ (j = 2 ∧ b = g + 1 ∧ o = 4) ∨ (j = 3 ∧ b = g + 1 + 1 ∧ o = 0) ∨ (j = 3 ∧ b = g + 1 + 1 ∧ o = 1) ∨ (j = 3 ∧ b = g + 1 + 1 ∧ o = 2) ∨ (j = 3 ∧ b = g + 1 + 1 ∧ o = 3) ∨ (j = 3 ∧ b = g + 1 + 1 ∧ o = 4)
def PCutB2 (g nk h kb ko kr db dd : Nat) (n : Int) (av : Option Addr) (i : Nat) (v : Value) (lo hi : Nat) (w : World) : Prop :=
  match i with
  | 0 => v = .agg #[.bool false, .slice (some ⟨kb, ko, none⟩) nk nk, .slice av 0 0, .slice (some ⟨db, dd, none⟩) (nk + 1) (nk + 1), .int .i64 n]
  | 1 => v = .agg #[.bool false, .slice (some ⟨kb, ko, none⟩) nk nk, .slice av 0 0, .slice (some ⟨db, dd, none⟩) (nk + 1) (nk + 1), .int .i64 n]
  | 2 => g + 1 < w.heap.size ∧ w.cell? ⟨g + 1, 0, none⟩ = some (.bool false) ∧ w.cell? ⟨g + 1, 1, none⟩ = some (.slice (some ⟨kb, ko, none⟩) nk nk) ∧ w.cell? ⟨g + 1, 2, none⟩ = some (.slice av 0 0) ∧ w.cell? ⟨g + 1, 3, none⟩ = some (.slice (some ⟨db, dd, none⟩) (nk + 1) (nk + 1)) ∧ w.cell? ⟨g + 1, 4, none⟩ = some (.int .i64 n)
  | 3 => g + 1 + 1 < w.heap.size ∧ w.cell? ⟨g + 1 + 1, 0, none⟩ = some (.bool false) ∧ w.cell? ⟨g + 1 + 1, 1, none⟩ = some (.slice (some ⟨kb, ko, none⟩) nk nk) ∧ w.cell? ⟨g + 1 + 1, 2, none⟩ = some (.slice av 0 0) ∧ w.cell? ⟨g + 1 + 1, 3, none⟩ = some (.slice (some ⟨db, dd, none⟩) (nk + 1) (nk + 1)) ∧ w.cell? ⟨g + 1 + 1, 4, none⟩ = some (.int .i64 n)
  | _ => True
theorem PCutB2_stable (g nk h kb ko kr db dd : Nat) (n : Int) (av : Option Addr)  : ∀ i j, i < 4 → j < 4 → j ≠ i → j ∉ ([[], [], [0], [0, 1, 2]] : List (List Nat)).getD i [] → ∀ v lo hi w w', PCutB2 g nk h kb ko kr db dd n av i v lo hi w → GrowC (WCutB2 g nk h kb ko kr db dd n av j) w w' → PCutB2 g nk h kb ko kr db dd n av i v lo hi w' := by
  intro i j hi hj hne hbs v lo hj2 w w' h hg
  match i, hi with
  | 0, _ =>
    simp only [PCutB2] at h ⊢
    exact h
  | 1, _ =>
    simp only [PCutB2] at h ⊢
    exact h
  | 2, _ =>
    simp only [PCutB2] at h ⊢
    obtain ⟨h0, h1, h2, h3, h4, h5⟩ := h
    exact ⟨Nat.lt_of_lt_of_le h0 hg.size, (hg.cell _ _ h0 (by simp only [WCutB2]; omega)).trans h1, (hg.cell _ _ h0 (by simp only [WCutB2]; omega)).trans h2, (hg.cell _ _ h0 (by simp only [WCutB2]; omega)).trans h3, (hg.cell _ _ h0 (by simp only [WCutB2]; omega)).trans h4, (hg.cell _ _ h0 (by simp only [WCutB2]; omega)).trans h5⟩
  | 3, _ =>
    simp only [PCutB2] at h ⊢
    obtain ⟨h0, h1, h2, h3, h4, h5⟩ := h
    exact ⟨Nat.lt_of_lt_of_le h0 hg.size, (hg.cell _ _ h0 (by simp only [WCutB2]; omega)).trans h1, (hg.cell _ _ h0 (by simp only [WCutB2]; omega)).trans h2, (hg.cell _ _ h0 (by simp only [WCutB2]; omega)).trans h3, (hg.cell _ _ h0 (by simp only [WCutB2]; omega)).trans h4, (hg.cell _ _ h0 (by simp only [WCutB2]; omega)).trans h5⟩
  | (q + 4), hq => exact absurd hq (by omega)
def WCutB8 (g nk h kb ko kr db dd : Nat) (n : Int) (av : Option Addr) (j b o : Nat) : Prop := (j = 10 ∧ b = g + 1 ∧ o = 1) ∨ (j = 12 ∧ b = g + 1 ∧ o = 3)
def PCutB8 (g nk h kb ko kr db dd : Nat) (n : Int) (av : Option Addr) (i : Nat) (v : Value) (lo hi : Nat) (w : World) : Prop :=
  match i with
  | 0 => v = .pointer (some ⟨g, 1, none⟩)
  | 1 => v = .slice (some ⟨kb, ko, none⟩) nk nk
  | 2 => v = .int .i64 h
  | 3 => v = .slice (some ⟨kb, ko, none⟩) h nk
  | 4 => v = .pointer (some ⟨g, 3, none⟩)
  | 5 => v = .slice (some ⟨db, dd, none⟩) (nk + 1) (nk + 1)
  | 6 => v = .int .i64 h
  | 7 => v = .int .i64 ((h : Int) + 1)
  | 8 => v = .slice (some ⟨db, dd, none⟩) (h + 1) (nk + 1)
  | 9 => v = .pointer (some ⟨g + 1, 1, none⟩)
  | 10 => g + 1 < w.heap.size ∧ w.cell? ⟨g + 1, 1, none⟩ = some (.slice (some ⟨kb, ko, none⟩) h nk)
  | 11 => v = .pointer (some ⟨g + 1, 3, none⟩)
  | 12 => g + 1 < w.heap.size ∧ w.cell? ⟨g + 1, 3, none⟩ = some (.slice (some ⟨db, dd, none⟩) (h + 1) (nk + 1))
  | _ => True
theorem PCutB8_stable (g nk h kb ko kr db dd : Nat) (n : Int) (av : Option Addr)  : ∀ i j, i < 13 → j < 13 → j ≠ i → j ∉ ([[], [0], [], [0, 1, 2], [], [4], [], [6], [4, 5, 6, 7], [0, 1, 2, 3], [0, 1, 2, 3, 9], [0, 1, 2, 3, 4, 5, 6, 7, 8, 9, 10], [0, 1, 2, 3, 4, 5, 6, 7, 8, 9, 10, 11]] : List (List Nat)).getD i [] → ∀ v lo hi w w', PCutB8 g nk h kb ko kr db dd n av i v lo hi w → GrowC (WCutB8 g nk h kb ko kr db dd n av j) w w' → PCutB8 g nk h kb ko kr db dd n av i v lo hi w' := by
  intro i j hi hj hne hbs v lo hj2 w w' h hg
  match i, hi with
  | 0, _ =>
    simp only [PCutB8] at h ⊢
    exact h
  | 1, _ =>
    simp only [PCutB8] at h ⊢
    exact h
  | 2, _ =>
    simp only [PCutB8] at h ⊢
    exact h
  | 3, _ =>
    simp only [PCutB8] at h ⊢
    exact h
  | 4, _ =>
    simp only [PCutB8] at h ⊢
    exact h
  | 5, _ =>
    simp only [PCutB8] at h ⊢
    exact h
  | 6, _ =>
    simp only [PCutB8] at h ⊢
    exact h
  | 7, _ =>
    simp only [PCutB8] at h ⊢
    exact h
  | 8, _ =>
    simp only [PCutB8] at h ⊢
    exact h
  | 9, _ =>
    simp only [PCutB8] at h ⊢
    exact h
  | 10, _ =>
    simp only [PCutB8] at h ⊢
    obtain ⟨h0, h1⟩ := h
    exact ⟨Nat.lt_of_lt_of_le h0 hg.size, (hg.cell _ _ h0 (by simp only [WCutB8]; omega)).trans h1⟩
  | 11, _ =>
    simp only [PCutB8] at h ⊢
    exact h
  | 12, _ =>
    simp only [PCutB8] at h ⊢
    obtain ⟨h0, h1⟩ := h
    exact ⟨Nat.lt_of_lt_of_le h0 hg.size, (hg.cell _ _ h0 (by simp only [WCutB8]; omega)).trans h1⟩
  | (q + 13), hq => exact absurd hq (by omega)
def WCutB9 (g nk h kb ko kr db dd : Nat) (n : Int) (av : Option Addr) (j b o : Nat) : Prop := (j = 11 ∧ b = g + 1 + 1 ∧ o = 1) ∨ (j = 13 ∧ b = g + 1 + 1 ∧ o = 3)
def PCutB9 (g nk h kb ko kr db dd : Nat) (n : Int) (av : Option Addr) (i : Nat) (v : Value) (lo hi : Nat) (w : World) : Prop :=
  match i with
  | 0 => v = .pointer (some ⟨g, 1, none⟩)
  | 1 => v = .slice (some ⟨kb, ko, none⟩) nk nk
  | 2 => v = .int .i64 h
  | 3 => v = .int .i64 ((h : Int) + 1)
  | 4 => v = .slice (some ⟨kb, kr, none⟩) (nk - (h + 1)) (nk - (h + 1))
  | 5 => v = .pointer (some ⟨g, 3, none⟩)
  | 6 => v = .slice (some ⟨db, dd, none⟩) (nk + 1) (nk + 1)
  | 7 => v = .int .i64 h
  | 8 => v = .int .i64 ((h : Int) + 1)
  | 9 => v = .slice (some ⟨db, dd + (h + 1), none⟩) (nk - h) (nk - h)
  | 10 => v = .pointer (some ⟨g + 1 + 1, 1, none⟩)
  | 11 => g + 1 + 1 < w.heap.size ∧ w.cell? ⟨g + 1 + 1, 1, none⟩ = some (.slice (some ⟨kb, kr, none⟩) (nk - (h + 1)) (nk - (h + 1)))
  | 12 => v = .pointer (some ⟨g + 1 + 1, 3, none⟩)
  | 13 => g + 1 + 1 < w.heap.size ∧ w.cell? ⟨g + 1 + 1, 3, none⟩ = some (.slice (some ⟨db, dd + (h + 1), none⟩) (nk - h) (nk - h))
  | _ => True
theorem PCutB9_stable (g nk h kb ko kr db dd : Nat) (n : Int) (av : Option Addr)  : ∀ i j, i < 14 → j < 14 → j ≠ i → j ∉ ([[], [0], [], [2], [0, 1, 2, 3], [], [5], [], [7], [5, 6, 7, 8], [0, 1, 2, 3, 4], [0, 1, 2, 3, 4, 10], [0, 1, 2, 3, 4, 5, 6, 7, 8, 9, 10, 11], [0, 1, 2, 3, 4, 5, 6, 7, 8, 9, 10, 11, 12]] : List (List Nat)).getD i [] → ∀ v lo hi w w', PCutB9 g nk h kb ko kr db dd n av i v lo hi w → GrowC (WCutB9 g nk h kb ko kr db dd n av j) w w' → PCutB9 g nk h kb ko kr db dd n av i v lo hi w' := by
  intro i j hi hj hne hbs v lo hj2 w w' h hg
  match i, hi with
  | 0, _ =>
    simp only [PCutB9] at h ⊢
    exact h
  | 1, _ =>
    simp only [PCutB9] at h ⊢
    exact h
  | 2, _ =>
    simp only [PCutB9] at h ⊢
    exact h
  | 3, _ =>
    simp only [PCutB9] at h ⊢
    exact h
  | 4, _ =>
    simp only [PCutB9] at h ⊢
    exact h
  | 5, _ =>
    simp only [PCutB9] at h ⊢
    exact h
  | 6, _ =>
    simp only [PCutB9] at h ⊢
    exact h
  | 7, _ =>
    simp only [PCutB9] at h ⊢
    exact h
  | 8, _ =>
    simp only [PCutB9] at h ⊢
    exact h
  | 9, _ =>
    simp only [PCutB9] at h ⊢
    exact h
  | 10, _ =>
    simp only [PCutB9] at h ⊢
    exact h
  | 11, _ =>
    simp only [PCutB9] at h ⊢
    obtain ⟨h0, h1⟩ := h
    exact ⟨Nat.lt_of_lt_of_le h0 hg.size, (hg.cell _ _ h0 (by simp only [WCutB9]; omega)).trans h1⟩
  | 12, _ =>
    simp only [PCutB9] at h ⊢
    exact h
  | 13, _ =>
    simp only [PCutB9] at h ⊢
    obtain ⟨h0, h1⟩ := h
    exact ⟨Nat.lt_of_lt_of_le h0 hg.size, (hg.cell _ _ h0 (by simp only [WCutB9]; omega)).trans h1⟩
  | (q + 14), hq => exact absurd hq (by omega)
def WCutB10 (W0 : World) (h nk kb ko kr db dd g m c0 : Nat) (n : Int) (av a0 : Option Addr) (K : List (List UInt8)) (D : List Int) (j b o : Nat) : Prop := (j = 9 ∧ b = g + 1 ∧ o = 0) ∨ (j = 9 ∧ b = g + 1 ∧ o = 1) ∨ (j = 9 ∧ b = g + 1 ∧ o = 2) ∨ (j = 9 ∧ b = g + 1 ∧ o = 3) ∨ (j = 9 ∧ b = g + 1 ∧ o = 4) ∨ (j = 11 ∧ b = g + 1 + 1 ∧ o = 0) ∨ (j = 11 ∧ b = g + 1 + 1 ∧ o = 1) ∨ (j = 11 ∧ b = g + 1 + 1 ∧ o = 2) ∨ (j = 11 ∧ b = g + 1 + 1 ∧ o = 3) ∨ (j = 11 ∧ b = g + 1 + 1 ∧ o = 4)
def PCutB10 (W0 : World) (h nk kb ko kr db dd g m c0 : Nat) (n : Int) (av a0 : Option Addr) (K : List (List UInt8)) (D : List Int) (i : Nat) (v : Value) (lo hi : Nat) (w : World) : Prop :=
  match i with
  | 0 => v = .agg #[.bool false, .slice (some ⟨kb, ko, none⟩) h nk, .slice av 0 0, .slice (some ⟨db, dd, none⟩) (h + 1) (nk + 1), .int .i64 0]
  | 1 => ∃ a1 a2 a3, v = .agg #[.bool false, .slice a1 (h) (h), .slice a2 0 0, .slice a3 (h + 1) (h + 1), .int .i64 0] ∧ Kept (fun k => k < W0.heap.size) w (fun w2 => NodeAt w2 (.slice a1 (h) (h)) (.slice a2 0 0) (.slice a3 (h + 1) (h + 1)) ⟨false, K.take h, [], D.take (h + 1), 0⟩)
  | 2 => v = .pointer (some ⟨g, 1, none⟩)
  | 3 => v = .slice (some ⟨kb, ko, none⟩) nk nk
  | 4 => v = .int .i64 h
  | 5 => v = .pointer (some ⟨kb, ko + h, none⟩)
  | 6 => v = .slice a0 m c0
  | 7 => v = .agg #[.bool false, .slice (some ⟨kb, kr, none⟩) (nk - (h + 1)) (nk - (h + 1)), .slice av 0 0, .slice (some ⟨db, dd + (h + 1), none⟩) (nk - h) (nk - h), .int .i64 n]
  | 8 => ∃ a1 a2 a3, v = .agg #[.bool false, .slice a1 (nk - (h + 1)) (nk - (h + 1)), .slice a2 0 0, .slice a3 (nk - h) (nk - h), .int .i64 n] ∧ Kept (fun k => k < W0.heap.size) w (fun w2 => NodeAt w2 (.slice a1 (nk - (h + 1)) (nk - (h + 1))) (.slice a2 0 0) (.slice a3 (nk - h) (nk - h)) ⟨false, K.drop (h + 1), [], D.drop (h + 1), n⟩)
  | 9 => g + 1 < w.heap.size ∧ ∃ a1 a2 a3, (w.cell? ⟨g + 1, 0, none⟩ = some (.bool false) ∧ w.cell? ⟨g + 1, 1, none⟩ = some (.slice a1 (h) (h)) ∧ w.cell? ⟨g + 1, 2, none⟩ = some (.slice a2 0 0) ∧ w.cell? ⟨g + 1, 3, none⟩ = some (.slice a3 (h + 1) (h + 1)) ∧ w.cell? ⟨g + 1, 4, none⟩ = some (.int .i64 0)) ∧ Kept (fun k => k < W0.heap.size) w (fun w2 => NodeAt w2 (.slice a1 (h) (h)) (.slice a2 0 0) (.slice a3 (h + 1) (h + 1)) ⟨false, K.take h, [], D.take (h + 1), 0⟩)
  | 10 => v = .slice a0 m c0
  | 11 => g + 1 + 1 < w.heap.size ∧ ∃ a1 a2 a3, (w.cell? ⟨g + 1 + 1, 0, none⟩ = some (.bool false) ∧ w.cell? ⟨g + 1 + 1, 1, none⟩ = some (.slice a1 (nk - (h + 1)) (nk - (h + 1))) ∧ w.cell? ⟨g + 1 + 1, 2, none⟩ = some (.slice a2 0 0) ∧ w.cell? ⟨g + 1 + 1, 3, none⟩ = some (.slice a3 (nk - h) (nk - h)) ∧ w.cell? ⟨g + 1 + 1, 4, none⟩ = some (.int .i64 n)) ∧ Kept (fun k => k < W0.heap.size) w (fun w2 => NodeAt w2 (.slice a1 (nk - (h + 1)) (nk - (h + 1))) (.slice a2 0 0) (.slice a3 (nk - h) (nk - h)) ⟨false, K.drop (h + 1), [], D.drop (h + 1), n⟩)
  | _ => True
theorem PCutB10_stable (W0 : World) (h nk kb ko kr db dd g m c0 : Nat) (n : Int) (av a0 : Option Addr) (K : List (List UInt8)) (D : List Int) (hW : g + 3 ≤ W0.heap.size) : ∀ i j, i < 12 → j < 12 → j ≠ i → j ∉ ([[], [0], [], [2], [], [2, 3, 4], [2, 3, 4, 5], [], [0, 1, 7], [0, 1, 7, 8], [0, 1, 2, 3, 4, 5, 6, 7, 8, 9], [0, 1, 2, 3, 4, 5, 6, 7, 8, 9, 10]] : List (List Nat)).getD i [] → ∀ v lo hi w w', PCutB10 W0 h nk kb ko kr db dd g m c0 n av a0 K D i v lo hi w → GrowC (WCutB10 W0 h nk kb ko kr db dd g m c0 n av a0 K D j) w w' → PCutB10 W0 h nk kb ko kr db dd g m c0 n av a0 K D i v lo hi w' := by
  intro i j hi hj hne hbs v lo hj2 w w' h hg
  match i, hi with
  | 0, _ =>
    simp only [PCutB10] at h ⊢
    exact h
  | 1, _ =>
    simp only [PCutB10] at h ⊢
    obtain ⟨a1, a2, a3, h1, h2⟩ := h; exact ⟨a1, a2, a3, h1, h2.grow (GrowX.of_growC hg (by simp only [WCutB10]; omega))⟩
  | 2, _ =>
    simp only [PCutB10] at h ⊢
    exact h
  | 3, _ =>
    simp only [PCutB10] at h ⊢
    exact h
  | 4, _ =>
    simp only [PCutB10] at h ⊢
    exact h
  | 5, _ =>
    simp only [PCutB10] at h ⊢
    exact h
  | 6, _ =>
    simp only [PCutB10] at h ⊢
    exact h
  | 7, _ =>
    simp only [PCutB10] at h ⊢
    exact h
  | 8, _ =>
    simp only [PCutB10] at h ⊢
    obtain ⟨a1, a2, a3, h1, h2⟩ := h; exact ⟨a1, a2, a3, h1, h2.grow (GrowX.of_growC hg (by simp only [WCutB10]; omega))⟩
  | 9, _ =>
    simp only [PCutB10] at h ⊢
    obtain ⟨h0, a1, a2, a3, ⟨c0, c1, c2, c3, c4⟩, h2⟩ := h; exact ⟨Nat.lt_of_lt_of_le h0 hg.size, a1, a2, a3, ⟨(hg.cell _ _ h0 (by simp only [WCutB10]; omega)).trans c0, (hg.cell _ _ h0 (by simp only [WCutB10]; omega)).trans c1, (hg.cell _ _ h0 (by simp only [WCutB10]; omega)).trans c2, (hg.cell _ _ h0 (by simp only [WCutB10]; omega)).trans c3, (hg.cell _ _ h0 (by simp only [WCutB10]; omega)).trans c4⟩, h2.grow (GrowX.of_growC hg (by simp only [WCutB10]; omega))⟩
  | 10, _ =>
    simp only [PCutB10] at h ⊢
    exact h
  | 11, _ =>
    simp only [PCutB10] at h ⊢
    obtain ⟨h0, a1, a2, a3, ⟨c0, c1, c2, c3, c4⟩, h2⟩ := h; exact ⟨Nat.lt_of_lt_of_le h0 hg.size, a1, a2, a3, ⟨(hg.cell _ _ h0 (by simp only [WCutB10]; omega)).trans c0, (hg.cell _ _ h0 (by simp only [WCutB10]; omega)).trans c1, (hg.cell _ _ h0 (by simp only [WCutB10]; omega)).trans c2, (hg.cell _ _ h0 (by simp only [WCutB10]; omega)).trans c3, (hg.cell _ _ h0 (by simp only [WCutB10]; omega)).trans c4⟩, h2.grow (GrowX.of_growC hg (by simp only [WCutB10]; omega))⟩
  | (q + 12), hq => exact absurd hq (by omega)
theorem WCutB10_9 (W0 : World) (h nk kb ko kr db dd g m c0 : Nat) (n : Int) (av a0 : Option Addr) (K : List (List UInt8)) (D : List Int) (k o : Nat) (e : k = g + 1 ∧ o < 5) : WCutB10 W0 h nk kb ko kr db dd g m c0 n av a0 K D 9 k o := by
  unfold WCutB10; omega
theorem WCutB10_11 (W0 : World) (h nk kb ko kr db dd g m c0 : Nat) (n : Int) (av a0 : Option Addr) (K : List (List UInt8)) (D : List Int) (k o : Nat) (e : k = g + 1 + 1 ∧ o < 5) : WCutB10 W0 h nk kb ko kr db dd g m c0 n av a0 K D 11 k o := by
  unfold WCutB10; omega

set_option maxRecDepth 100000 in
set_option maxHeartbeats 3200000 in
theorem cut_inner (K : List (List UInt8)) (D : List Int) (n : Int) (ks vs ds : Value) (h : Nat) (w : World) (hx : NodeAt w ks vs ds ⟨false, K, [], D, n⟩) (hok : (⟨false, K, [], D, n⟩ : Nd).ok) (hl : D.length = K.length + 1) (hh : h < K.length) :
    Calls Try.prog 28 #[.agg #[.bool false, ks, vs, ds, .int .i64 n], .int .i64 h] w fun e w' => CutEnd ⟨false, K, [], D, n⟩ h w e w' := by
  obtain ⟨g, hg0⟩ : ∃ g, w.heap.size = g := ⟨_, rfl⟩
  obtain ⟨nk, hnk⟩ : ∃ nk, K.length = nk := ⟨_, rfl⟩
  have hkb : nk ≤ 1099511627776 := hnk ▸ hok.keys
  rw [hnk] at hh hl
  have ba := ((Box.new w #[.bool false, ks, vs, ds, .int .i64 n] 25 hg0.symm).alloc (.cells #[.bool false, .slice none 0 0, .slice none 0 0, .slice none 0 0, .int .i64 0] 25)).alloc (.cells #[.bool false, .slice none 0 0, .slice none 0 0, .slice none 0 0, .int .i64 0] 25)
  have bb := (Box.new (w.alloc (.cells #[.bool false, ks, vs, ds, .int .i64 n] 25)) #[.bool false, .slice none 0 0, .slice none 0 0, .slice none 0 0, .int .i64 0] 25 (g := g + 1) (by simp; omega)).alloc (.cells #[.bool false, .slice none 0 0, .slice none 0 0, .slice none 0 0, .int .i64 0] 25)
  have bc := Box.new ((w.alloc (.cells #[.bool false, ks, vs, ds, .int .i64 n] 25)).alloc (.cells #[.bool false, .slice none 0 0, .slice none 0 0, .slice none 0 0, .int .i64 0] 25)) #[.bool false, .slice none 0 0, .slice none 0 0, .slice none 0 0, .int .i64 0] 25 (g := g + 1 + 1) (by simp; omega)
  have hB := (((Below.refl w.heap.size w).alloc (Nat.le_refl _) (.cells #[.bool false, ks, vs, ds, .int .i64 n] 25)).alloc (by simp) (.cells #[.bool false, .slice none 0 0, .slice none 0 0, .slice none 0 0, .int .i64 0] 25)).alloc (by simp; omega) (.cells #[.bool false, .slice none 0 0, .slice none 0 0, .slice none 0 0, .int .i64 0] 25)
  have HX := Lib.hid (hx.below hB (Nat.le_refl _))
  have HG := Lib.hid hg0
  have HNK := Lib.hid hnk
  have HL := Lib.hid hl
  simp only [] at ba bb bc
  clear hx hl hnk
  have ca0 := ba.cell 0 _ rfl
  have ca1 := ba.cell 1 _ rfl
  have ca2 := ba.cell 2 _ rfl
  have ca3 := ba.cell 3 _ rfl
  have ca4 := ba.cell 4 _ rfl
  have fa := ba.free
  go_enter Try.func28, Try.ntmps28
  go_wp2_with fail
  refine (copied_sl _ ks vs ds _ HX.out hok false n nk 0 (nk + 1) rfl rfl HNK.out rfl HL.out).mono ?_
  rintro e w1 ⟨ak, av, ad, rfl, hk, hb1⟩
  clear ca0 ca1 ca2 ca3 ca4 fa
  replace ba := ba.below hb1 (Nat.le_refl _)
  replace bb := bb.below hb1 (Nat.le_refl _)
  replace bc := bc.below hb1 (Nat.le_refl _)
  have hgs := ba.lt
  replace hB := hB.trans (Below.mono hb1 (by simp; omega))
  have hb2 : g + 3 ≤ w1.heap.size := by have := hb1.size; simp at this; omega
  replace hk := hk.mono (Y := fun k => k < g + 3) (fun k _ h => by have := HG.out; simp; omega)
  clear hb1 HX
  have ca0 := ba.cell 0 _ rfl
  have ca1 := ba.cell 1 _ rfl
  have ca2 := ba.cell 2 _ rfl
  have ca3 := ba.cell 3 _ rfl
  have ca4 := ba.cell 4 _ rfl
  have fa := ba.free
  go_wp2_with fail
  clear ca0 ca1 ca2 ca3 ca4 fa
  refine wp_world (fun w2 => Box w2 g [.bool false, .slice ak nk nk, .slice av 0 0, .slice ad (nk + 1) (nk + 1), .int .i64 n] ∧ GrowC (fun b _ => b = g) w1 w2) (ba.set5 _ _ _ _ _) ?_
  clear ba
  rintro w2 ⟨ba, hgc⟩
  replace bb := bb.grow hgc (by intros; omega)
  replace bc := bc.grow hgc (by intros; omega)
  replace hB := hB.trans (hgc.below (fun k hk => ⟨by have := HG.out; omega, fun _ => by have := HG.out; omega⟩))
  replace hk := hk.grow (GrowX.of_growC hgc (fun k o h => by subst h; omega))
  replace hb2 := Nat.le_trans hb2 hgc.size
  clear hgc hgs
  obtain ⟨kb, ko, rfl⟩ := hk.now.keys.some_addr (by rw [HNK.out]; omega)
  obtain ⟨db, dd, rfl⟩ := hk.now.kids.some_addr' (by rw [HL.out]; omega)
  have hgw : w.heap.size ≤ g := Nat.le_of_eq HG.out
  obtain ⟨kr, hkr⟩ : ∃ kr, kr = if nk = h + 1 then ko else ko + (h + 1) := ⟨_, rfl⟩
  have HKR := Lib.hid hkr
  clear hkr
  refine wp_region_partsDC (WCutB2 g nk h kb ko kr db dd n av) 4 [[], [], [0], [0, 1, 2]] [some 9, some 10, none, none] (by kernel_rfl) (by kernel_rfl) rfl (PCutB2 g nk h kb ko kr db dd n av) (PCutB2_stable g nk h kb ko kr db dd n av ) ?pCutB2 ?_
  case pCutB2 =>
    intro i hi o ho vs lo hx_ w' hg hp
    match i, hi with
    | 0, _ =>
      obtain rfl := Option.some.inj ho
      clear ho
      simp only [actsD, List.getD_cons_zero, List.getD_cons_succ, List.foldl_cons, List.foldl_nil, Act.put, List.setIfInBounds_toArray, List.set_cons_succ, List.set_cons_zero]
      have hsz := hg.size
      have e0 := (hg.cell (g) 0 ba.lt (by rintro ⟨j, _, hne, hb, hw⟩; simp only [WCutB2] at hw; omega)).trans (ba.cell 0 _ rfl)
      have e1 := (hg.cell (g) 1 ba.lt (by rintro ⟨j, _, hne, hb, hw⟩; simp only [WCutB2] at hw; omega)).trans (ba.cell 1 _ rfl)
      have e2 := (hg.cell (g) 2 ba.lt (by rintro ⟨j, _, hne, hb, hw⟩; simp only [WCutB2] at hw; omega)).trans (ba.cell 2 _ rfl)
      have e3 := (hg.cell (g) 3 ba.lt (by rintro ⟨j, _, hne, hb, hw⟩; simp only [WCutB2] at hw; omega)).trans (ba.cell 3 _ rfl)
      have e4 := (hg.cell (g) 4 ba.lt (by rintro ⟨j, _, hne, hb, hw⟩; simp only [WCutB2] at hw; omega)).trans (ba.cell 4 _ rfl)
      go_wp2
      exact ⟨_, rfl, GrowC.refl _, rfl⟩
    | 1, _ =>
      obtain rfl := Option.some.inj ho
      clear ho
      simp only [actsD, List.getD_cons_zero, List.getD_cons_succ, List.foldl_cons, List.foldl_nil, Act.put, List.setIfInBounds_toArray, List.set_cons_succ, List.set_cons_zero]
      have hsz := hg.size
      have e0 := (hg.cell (g) 0 ba.lt (by rintro ⟨j, _, hne, hb, hw⟩; simp only [WCutB2] at hw; omega)).trans (ba.cell 0 _ rfl)
      have e1 := (hg.cell (g) 1 ba.lt (by rintro ⟨j, _, hne, hb, hw⟩; simp only [WCutB2] at hw; omega)).trans (ba.cell 1 _ rfl)
      have e2 := (hg.cell (g) 2 ba.lt (by rintro ⟨j, _, hne, hb, hw⟩; simp only [WCutB2] at hw; omega)).trans (ba.cell 2 _ rfl)
      have e3 := (hg.cell (g) 3 ba.lt (by rintro ⟨j, _, hne, hb, hw⟩; simp only [WCutB2] at hw; omega)).trans (ba.cell 3 _ rfl)
      have e4 := (hg.cell (g) 4 ba.lt (by rintro ⟨j, _, hne, hb, hw⟩; simp only [WCutB2] at hw; omega)).trans (ba.cell 4 _ rfl)
      go_wp2
      exact ⟨_, rfl, GrowC.refl _, rfl⟩
    | 2, _ =>
      obtain rfl := Option.some.inj ho
      clear ho
      simp only [actsD, List.getD_cons_zero, List.getD_cons_succ, List.foldl_cons, List.foldl_nil, Act.put, List.setIfInBounds_toArray, List.set_cons_succ, List.set_cons_zero]
      obtain ⟨_, _, _, h0⟩ := hp 0 (by simp)
      simp only [PCutB2] at h0
      have hsz := hg.size
      rw [h0]
      have o0 := (hg.cell (g + 1) 0 bb.lt (by rintro ⟨j, _, hne, hb, hw⟩; simp only [WCutB2] at hw; omega)).trans (bb.cell 0 _ rfl)
      have o1 := (hg.cell (g + 1) 1 bb.lt (by rintro ⟨j, _, hne, hb, hw⟩; simp only [WCutB2] at hw; omega)).trans (bb.cell 1 _ rfl)
      have o2 := (hg.cell (g + 1) 2 bb.lt (by rintro ⟨j, _, hne, hb, hw⟩; simp only [WCutB2] at hw; omega)).trans (bb.cell 2 _ rfl)
      have o3 := (hg.cell (g + 1) 3 bb.lt (by rintro ⟨j, _, hne, hb, hw⟩; simp only [WCutB2] at hw; omega)).trans (bb.cell 3 _ rfl)
      have o4 := (hg.cell (g + 1) 4 bb.lt (by rintro ⟨j, _, hne, hb, hw⟩; simp only [WCutB2] at hw; omega)).trans (bb.cell 4 _ rfl)
      have fz : ∀ o, w'.frozen? ⟨g + 1, o, none⟩ = false := fun o => (hg.frozen _ o bb.lt).trans (bb.free o)
      have hlt : g + 1 < w'.heap.size := by have := bb.lt; omega
      go_wp2
      exact ⟨.bool true, rfl, ((((((GrowC.refl _).setCell (by unfold WCutB2; omega) hlt _).setCell (by unfold WCutB2; omega) hlt _).setCell (by unfold WCutB2; omega) hlt _).setCell (by unfold WCutB2; omega) hlt _).setCell (by unfold WCutB2; omega) hlt _), by simpa [World.setCell] using hlt, ((World.cell?_setCell_other _ _ _ _ (by simp)).trans ((World.cell?_setCell_other _ _ _ _ (by simp)).trans ((World.cell?_setCell_other _ _ _ _ (by simp)).trans ((World.cell?_setCell_other _ _ _ _ (by simp)).trans (World.cell?_setCell_same _ _ _ o0))))), ((World.cell?_setCell_other _ _ _ _ (by simp)).trans ((World.cell?_setCell_other _ _ _ _ (by simp)).trans ((World.cell?_setCell_other _ _ _ _ (by simp)).trans (World.cell?_setCell_same _ _ _ ((World.cell?_setCell_other _ _ _ _ (by simp)).trans o1))))), ((World.cell?_setCell_other _ _ _ _ (by simp)).trans ((World.cell?_setCell_other _ _ _ _ (by simp)).trans (World.cell?_setCell_same _ _ _ ((World.cell?_setCell_other _ _ _ _ (by simp)).trans ((World.cell?_setCell_other _ _ _ _ (by simp)).trans o2))))), ((World.cell?_setCell_other _ _ _ _ (by simp)).trans (World.cell?_setCell_same _ _ _ ((World.cell?_setCell_other _ _ _ _ (by simp)).trans ((World.cell?_setCell_other _ _ _ _ (by simp)).trans ((World.cell?_setCell_other _ _ _ _ (by simp)).trans o3))))), (World.cell?_setCell_same _ _ _ ((World.cell?_setCell_other _ _ _ _ (by simp)).trans ((World.cell?_setCell_other _ _ _ _ (by simp)).trans ((World.cell?_setCell_other _ _ _ _ (by simp)).trans ((World.cell?_setCell_other _ _ _ _ (by simp)).trans o4)))))⟩
    | 3, _ =>
      obtain rfl := Option.some.inj ho
      clear ho
      simp only [actsD, List.getD_cons_zero, List.getD_cons_succ, List.foldl_cons, List.foldl_nil, Act.put, List.setIfInBounds_toArray, List.set_cons_succ, List.set_cons_zero]
      obtain ⟨_, _, _, h1⟩ := hp 1 (by simp)
      simp only [PCutB2] at h1
      obtain ⟨_, _, _, h2⟩ := hp 2 (by simp)
      simp only [PCutB2] at h2
      have hsz := hg.size
      rw [h1]
      have o0 := (hg.cell (g + 1 + 1) 0 bc.lt (by rintro ⟨j, _, hne, hb, hw⟩; simp only [WCutB2] at hw; omega)).trans (bc.cell 0 _ rfl)
      have o1 := (hg.cell (g + 1 + 1) 1 bc.lt (by rintro ⟨j, _, hne, hb, hw⟩; simp only [WCutB2] at hw; omega)).trans (bc.cell 1 _ rfl)
      have o2 := (hg.cell (g + 1 + 1) 2 bc.lt (by rintro ⟨j, _, hne, hb, hw⟩; simp only [WCutB2] at hw; omega)).trans (bc.cell 2 _ rfl)
      have o3 := (hg.cell (g + 1 + 1) 3 bc.lt (by rintro ⟨j, _, hne, hb, hw⟩; simp only [WCutB2] at hw; omega)).trans (bc.cell 3 _ rfl)
      have o4 := (hg.cell (g + 1 + 1) 4 bc.lt (by rintro ⟨j, _, hne, hb, hw⟩; simp only [WCutB2] at hw; omega)).trans (bc.cell 4 _ rfl)
      have fz : ∀ o, w'.frozen? ⟨g + 1 + 1, o, none⟩ = false := fun o => (hg.frozen _ o bc.lt).trans (bc.free o)
      have hlt : g + 1 + 1 < w'.heap.size := by have := bc.lt; omega
      go_wp2
      exact ⟨.bool true, rfl, ((((((GrowC.refl _).setCell (by unfold WCutB2; omega) hlt _).setCell (by unfold WCutB2; omega) hlt _).setCell (by unfold WCutB2; omega) hlt _).setCell (by unfold WCutB2; omega) hlt _).setCell (by unfold WCutB2; omega) hlt _), by simpa [World.setCell] using hlt, ((World.cell?_setCell_other _ _ _ _ (by simp)).trans ((World.cell?_setCell_other _ _ _ _ (by simp)).trans ((World.cell?_setCell_other _ _ _ _ (by simp)).trans ((World.cell?_setCell_other _ _ _ _ (by simp)).trans (World.cell?_setCell_same _ _ _ o0))))), ((World.cell?_setCell_other _ _ _ _ (by simp)).trans ((World.cell?_setCell_other _ _ _ _ (by simp)).trans ((World.cell?_setCell_other _ _ _ _ (by simp)).trans (World.cell?_setCell_same _ _ _ ((World.cell?_setCell_other _ _ _ _ (by simp)).trans o1))))), ((World.cell?_setCell_other _ _ _ _ (by simp)).trans ((World.cell?_setCell_other _ _ _ _ (by simp)).trans (World.cell?_setCell_same _ _ _ ((World.cell?_setCell_other _ _ _ _ (by simp)).trans ((World.cell?_setCell_other _ _ _ _ (by simp)).trans o2))))), ((World.cell?_setCell_other _ _ _ _ (by simp)).trans (World.cell?_setCell_same _ _ _ ((World.cell?_setCell_other _ _ _ _ (by simp)).trans ((World.cell?_setCell_other _ _ _ _ (by simp)).trans ((World.cell?_setCell_other _ _ _ _ (by simp)).trans o3))))), (World.cell?_setCell_same _ _ _ ((World.cell?_setCell_other _ _ _ _ (by simp)).trans ((World.cell?_setCell_other _ _ _ _ (by simp)).trans ((World.cell?_setCell_other _ _ _ _ (by simp)).trans ((World.cell?_setCell_other _ _ _ _ (by simp)).trans o4)))))⟩
    | (q + 4), hq => exact absurd hq (by omega)
  intro vS lo hi w3 hg hp hd
  obtain ⟨_, _, _, h0⟩ := hp 0 (by omega)
  obtain ⟨_, _, _, h1⟩ := hp 1 (by omega)
  obtain ⟨_, _, _, h2⟩ := hp 2 (by omega)
  obtain ⟨_, _, _, h3⟩ := hp 3 (by omega)
  simp only [PCutB2] at h0 h1 h2 h3
  clear hp hd
  have hsz := hg.size
  replace ba := ba.grow hg (by intro i _; rintro ⟨j, _, hw⟩; simp only [WCutB2] at hw; omega)
  replace bb : Box w3 (g + 1) [.bool false, .slice (some ⟨kb, ko, none⟩) nk nk, .slice av 0 0, .slice (some ⟨db, dd, none⟩) (nk + 1) (nk + 1), .int .i64 n] := bb.upd hg (by
    intro i v hi
    match i, hi with
    | 0, hi => exact .inl (by obtain rfl := Option.some.inj hi; exact h2.2.1)
    | 1, hi => exact .inl (by obtain rfl := Option.some.inj hi; exact h2.2.2.1)
    | 2, hi => exact .inl (by obtain rfl := Option.some.inj hi; exact h2.2.2.2.1)
    | 3, hi => exact .inl (by obtain rfl := Option.some.inj hi; exact h2.2.2.2.2.1)
    | 4, hi => exact .inl (by obtain rfl := Option.some.inj hi; exact h2.2.2.2.2.2)
    | (q + 5), hi => cases hi)
  replace bc : Box w3 (g + 1 + 1) [.bool false, .slice (some ⟨kb, ko, none⟩) nk nk, .slice av 0 0, .slice (some ⟨db, dd, none⟩) (nk + 1) (nk + 1), .int .i64 n] := bc.upd hg (by
    intro i v hi
    match i, hi with
    | 0, hi => exact .inl (by obtain rfl := Option.some.inj hi; exact h3.2.1)
    | 1, hi => exact .inl (by obtain rfl := Option.some.inj hi; exact h3.2.2.1)
    | 2, hi => exact .inl (by obtain rfl := Option.some.inj hi; exact h3.2.2.2.1)
    | 3, hi => exact .inl (by obtain rfl := Option.some.inj hi; exact h3.2.2.2.2.1)
    | 4, hi => exact .inl (by obtain rfl := Option.some.inj hi; exact h3.2.2.2.2.2)
    | (q + 5), hi => cases hi)
  replace hB := hB.trans (hg.below (fun k hk => ⟨by omega, fun o => by rintro ⟨j, _, hw⟩; simp only [WCutB2] at hw; omega⟩))
  have hr : List.range 4 = [0, 1, 2, 3] := rfl
  rw [hr]
  clear hr
  simp only [List.drop_succ_cons, List.drop_zero, List.drop_nil, actsD, List.getD_cons_zero, List.getD_cons_succ, List.foldl_cons, List.foldl_nil, Act.put, List.setIfInBounds_toArray, List.set_cons_succ, List.set_cons_zero, h0, h1]
  clear h0 h1 h2 h3
  replace hk := hk.grow (GrowX.of_growC hg (by rintro k o ⟨j, _, hw⟩; simp only [WCutB2] at hw; omega))
  replace hb2 := Nat.le_trans hb2 hg.size
  clear hg hsz
  have cb0 := bb.cell 0 _ rfl
  have cb1 := bb.cell 1 _ rfl
  have cb2 := bb.cell 2 _ rfl
  have cb3 := bb.cell 3 _ rfl
  have cb4 := bb.cell 4 _ rfl
  have fb := bb.free
  have ca0 := ba.cell 0 _ rfl
  have fa := ba.free
  go_wp2_with fail
  clear cb0 cb1 cb2 cb3 cb4 fb
  clear ca0 fa
  refine wp_world (fun w4 => Box w4 (g + 1) [.bool false, .slice (some ⟨kb, ko, none⟩) nk nk, .slice av 0 0, .slice (some ⟨db, dd, none⟩) (nk + 1) (nk + 1), .int .i64 0] ∧ GrowC (fun b o => b = g + 1 ∧ o = 4) w3 w4) (bb.set1 4 _) ?_
  clear bb
  rintro w4 ⟨bb, hg⟩
  replace ba := ba.grow hg (by intros; omega)
  replace bc := bc.grow hg (by intros; omega)
  replace hB := hB.trans (hg.below (fun k hk => ⟨by omega, fun _ => by omega⟩))
  replace hk := hk.grow (GrowX.of_growC hg (by rintro k o ⟨rfl, _⟩; omega))
  replace hb2 := Nat.le_trans hb2 hg.size
  clear hg
  refine wp_region_partsDC (WCutB8 g nk h kb ko kr db dd n av) 13 [[], [0], [], [0, 1, 2], [], [4], [], [6], [4, 5, 6, 7], [0, 1, 2, 3], [0, 1, 2, 3, 9], [0, 1, 2, 3, 4, 5, 6, 7, 8, 9, 10], [0, 1, 2, 3, 4, 5, 6, 7, 8, 9, 10, 11]] [some 45, some 46, some 47, some 48, some 49, some 50, some 51, some 52, some 53, some 54, none, some 55, none] (by kernel_rfl) (by kernel_rfl) rfl (PCutB8 g nk h kb ko kr db dd n av) (PCutB8_stable g nk h kb ko kr db dd n av ) ?pCutB8 ?_
  case pCutB8 =>
    intro i hi o ho vs lo hx_ w' hg hp
    match i, hi with
    | 0, _ =>
      obtain rfl := Option.some.inj ho
      clear ho
      simp only [actsD, List.getD_cons_zero, List.getD_cons_succ, List.foldl_cons, List.foldl_nil, Act.put, List.setIfInBounds_toArray, List.set_cons_succ, List.set_cons_zero]
      have hsz := hg.size
      go_wp2
      exact ⟨_, rfl, GrowC.refl _, rfl⟩
    | 1, _ =>
      obtain rfl := Option.some.inj ho
      clear ho
      simp only [actsD, List.getD_cons_zero, List.getD_cons_succ, List.foldl_cons, List.foldl_nil, Act.put, List.setIfInBounds_toArray, List.set_cons_succ, List.set_cons_zero]
      obtain ⟨_, _, _, h0⟩ := hp 0 (by simp)
      simp only [PCutB8] at h0
      have hsz := hg.size
      rw [h0]
      have e0 := (hg.cell (g) 1 ba.lt (by rintro ⟨j, _, hne, hb, hw⟩; simp only [WCutB8] at hw; omega)).trans (ba.cell 1 _ rfl)
      go_wp2
      exact ⟨_, rfl, GrowC.refl _, rfl⟩
    | 2, _ =>
      obtain rfl := Option.some.inj ho
      clear ho
      simp only [actsD, List.getD_cons_zero, List.getD_cons_succ, List.foldl_cons, List.foldl_nil, Act.put, List.setIfInBounds_toArray, List.set_cons_succ, List.set_cons_zero]
      have hsz := hg.size
      go_wp2
      exact ⟨_, rfl, GrowC.refl _, rfl⟩
    | 3, _ =>
      obtain rfl := Option.some.inj ho
      clear ho
      simp only [actsD, List.getD_cons_zero, List.getD_cons_succ, List.foldl_cons, List.foldl_nil, Act.put, List.setIfInBounds_toArray, List.set_cons_succ, List.set_cons_zero]
      obtain ⟨_, _, _, h1⟩ := hp 1 (by simp)
      simp only [PCutB8] at h1
      obtain ⟨_, _, _, h2⟩ := hp 2 (by simp)
      simp only [PCutB8] at h2
      have hsz := hg.size
      rw [h1, h2]
      go_wp2
      exact ⟨_, rfl, GrowC.refl _, rfl⟩
    | 4, _ =>
      obtain rfl := Option.some.inj ho
      clear ho
      simp only [actsD, List.getD_cons_zero, List.getD_cons_succ, List.foldl_cons, List.foldl_nil, Act.put, List.setIfInBounds_toArray, List.set_cons_succ, List.set_cons_zero]
      have hsz := hg.size
      go_wp2
      exact ⟨_, rfl, GrowC.refl _, rfl⟩
    | 5, _ =>
      obtain rfl := Option.some.inj ho
      clear ho
      simp only [actsD, List.getD_cons_zero, List.getD_cons_succ, List.foldl_cons, List.foldl_nil, Act.put, List.setIfInBounds_toArray, List.set_cons_succ, List.set_cons_zero]
      obtain ⟨_, _, _, h4⟩ := hp 4 (by simp)
      simp only [PCutB8] at h4
      have hsz := hg.size
      rw [h4]
      have e0 := (hg.cell (g) 3 ba.lt (by rintro ⟨j, _, hne, hb, hw⟩; simp only [WCutB8] at hw; omega)).trans (ba.cell 3 _ rfl)
      go_wp2
      exact ⟨_, rfl, GrowC.refl _, rfl⟩
    | 6, _ =>
      obtain rfl := Option.some.inj ho
      clear ho
      simp only [actsD, List.getD_cons_zero, List.getD_cons_succ, List.foldl_cons, List.foldl_nil, Act.put, List.setIfInBounds_toArray, List.set_cons_succ, List.set_cons_zero]
      have hsz := hg.size
      go_wp2
      exact ⟨_, rfl, GrowC.refl _, rfl⟩
    | 7, _ =>
      obtain rfl := Option.some.inj ho
      clear ho
      simp only [actsD, List.getD_cons_zero, List.getD_cons_succ, List.foldl_cons, List.foldl_nil, Act.put, List.setIfInBounds_toArray, List.set_cons_succ, List.set_cons_zero]
      obtain ⟨_, _, _, h6⟩ := hp 6 (by simp)
      simp only [PCutB8] at h6
      have hsz := hg.size
      rw [h6]
      go_wp2
      exact ⟨_, rfl, GrowC.refl _, rfl⟩
    | 8, _ =>
      obtain rfl := Option.some.inj ho
      clear ho
      simp only [actsD, List.getD_cons_zero, List.getD_cons_succ, List.foldl_cons, List.foldl_nil, Act.put, List.setIfInBounds_toArray, List.set_cons_succ, List.set_cons_zero]
      obtain ⟨_, _, _, h5⟩ := hp 5 (by simp)
      simp only [PCutB8] at h5
      obtain ⟨_, _, _, h7⟩ := hp 7 (by simp)
      simp only [PCutB8] at h7
      have hsz := hg.size
      rw [h5, h7]
      go_wp2
      exact ⟨_, rfl, GrowC.refl _, rfl⟩
    | 9, _ =>
      obtain rfl := Option.some.inj ho
      clear ho
      simp only [actsD, List.getD_cons_zero, List.getD_cons_succ, List.foldl_cons, List.foldl_nil, Act.put, List.setIfInBounds_toArray, List.set_cons_succ, List.set_cons_zero]
      have hsz := hg.size
      go_wp2
      exact ⟨_, rfl, GrowC.refl _, rfl⟩
    | 10, _ =>
      obtain rfl := Option.some.inj ho
      clear ho
      simp only [actsD, List.getD_cons_zero, List.getD_cons_succ, List.foldl_cons, List.foldl_nil, Act.put, List.setIfInBounds_toArray, List.set_cons_succ, List.set_cons_zero]
      obtain ⟨_, _, _, h3⟩ := hp 3 (by simp)
      simp only [PCutB8] at h3
      obtain ⟨_, _, _, h9⟩ := hp 9 (by simp)
      simp only [PCutB8] at h9
      have hsz := hg.size
      rw [h3, h9]
      have o0 := (hg.cell (g + 1) 1 bb.lt (by rintro ⟨j, _, hne, hb, hw⟩; simp only [WCutB8] at hw; omega)).trans (bb.cell 1 _ rfl)
      have fz : ∀ o, w'.frozen? ⟨g + 1, o, none⟩ = false := fun o => (hg.frozen _ o bb.lt).trans (bb.free o)
      have hlt : g + 1 < w'.heap.size := by have := bb.lt; omega
      go_wp2
      exact ⟨.bool true, rfl, ((GrowC.refl _).setCell (by unfold WCutB8; omega) hlt _), by simpa [World.setCell] using hlt, World.cell?_setCell_same _ _ _ o0⟩
    | 11, _ =>
      obtain rfl := Option.some.inj ho
      clear ho
      simp only [actsD, List.getD_cons_zero, List.getD_cons_succ, List.foldl_cons, List.foldl_nil, Act.put, List.setIfInBounds_toArray, List.set_cons_succ, List.set_cons_zero]
      obtain ⟨_, _, _, h10⟩ := hp 10 (by simp)
      simp only [PCutB8] at h10
      have hsz := hg.size
      go_wp2
      exact ⟨_, rfl, GrowC.refl _, rfl⟩
    | 12, _ =>
      obtain rfl := Option.some.inj ho
      clear ho
      simp only [actsD, List.getD_cons_zero, List.getD_cons_succ, List.foldl_cons, List.foldl_nil, Act.put, List.setIfInBounds_toArray, List.set_cons_succ, List.set_cons_zero]
      obtain ⟨_, _, _, h8⟩ := hp 8 (by simp)
      simp only [PCutB8] at h8
      obtain ⟨_, _, _, h10⟩ := hp 10 (by simp)
      simp only [PCutB8] at h10
      obtain ⟨_, _, _, h11⟩ := hp 11 (by simp)
      simp only [PCutB8] at h11
      have hsz := hg.size
      rw [h8, h11]
      have o0 := (hg.cell (g + 1) 3 bb.lt (by rintro ⟨j, _, hne, hb, hw⟩; simp only [WCutB8] at hw; omega)).trans (bb.cell 3 _ rfl)
      have fz : ∀ o, w'.frozen? ⟨g + 1, o, none⟩ = false := fun o => (hg.frozen _ o bb.lt).trans (bb.free o)
      have hlt : g + 1 < w'.heap.size := by have := bb.lt; omega
      go_wp2
      exact ⟨.bool true, rfl, ((GrowC.refl _).setCell (by unfold WCutB8; omega) hlt _), by simpa [World.setCell] using hlt, World.cell?_setCell_same _ _ _ o0⟩
    | (q + 13), hq => exact absurd hq (by omega)
  intro vS lo hi w5 hg hp hd
  obtain ⟨_, _, _, h0⟩ := hp 0 (by omega)
  obtain ⟨_, _, _, h1⟩ := hp 1 (by omega)
  obtain ⟨_, _, _, h2⟩ := hp 2 (by omega)
  obtain ⟨_, _, _, h3⟩ := hp 3 (by omega)
  obtain ⟨_, _, _, h4⟩ := hp 4 (by omega)
  obtain ⟨_, _, _, h5⟩ := hp 5 (by omega)
  obtain ⟨_, _, _, h6⟩ := hp 6 (by omega)
  obtain ⟨_, _, _, h7⟩ := hp 7 (by omega)
  obtain ⟨_, _, _, h8⟩ := hp 8 (by omega)
  obtain ⟨_, _, _, h9⟩ := hp 9 (by omega)
  obtain ⟨_, _, _, h10⟩ := hp 10 (by omega)
  obtain ⟨_, _, _, h11⟩ := hp 11 (by omega)
  obtain ⟨_, _, _, h12⟩ := hp 12 (by omega)
  simp only [PCutB8] at h0 h1 h2 h3 h4 h5 h6 h7 h8 h9 h10 h11 h12
  clear hp hd
  have hsz := hg.size
  replace ba := ba.grow hg (by intro i _; rintro ⟨j, _, hw⟩; simp only [WCutB8] at hw; omega)
  replace bb : Box w5 (g + 1) [.bool false, .slice (some ⟨kb, ko, none⟩) h nk, .slice av 0 0, .slice (some ⟨db, dd, none⟩) (h + 1) (nk + 1), .int .i64 0] := bb.upd hg (by
    intro i v hi
    match i, hi with
    | 0, hi => exact .inr ⟨(by rintro ⟨j, _, hw⟩; simp only [WCutB8] at hw; omega), hi⟩
    | 1, hi => exact .inl (by obtain rfl := Option.some.inj hi; exact h10.2)
    | 2, hi => exact .inr ⟨(by rintro ⟨j, _, hw⟩; simp only [WCutB8] at hw; omega), hi⟩
    | 3, hi => exact .inl (by obtain rfl := Option.some.inj hi; exact h12.2)
    | 4, hi => exact .inr ⟨(by rintro ⟨j, _, hw⟩; simp only [WCutB8] at hw; omega), hi⟩
    | (q + 5), hi => cases hi)
  replace bc := bc.grow hg (by intro i _; rintro ⟨j, _, hw⟩; simp only [WCutB8] at hw; omega)
  replace hB := hB.trans (hg.below (fun k hk => ⟨by omega, fun o => by rintro ⟨j, _, hw⟩; simp only [WCutB8] at hw; omega⟩))
  have hr : List.range 13 = [0, 1, 2, 3, 4, 5, 6, 7, 8, 9, 10, 11, 12] := rfl
  rw [hr]
  clear hr
  simp only [List.drop_succ_cons, List.drop_zero, List.drop_nil, actsD, List.getD_cons_zero, List.getD_cons_succ, List.foldl_cons, List.foldl_nil, Act.put, List.setIfInBounds_toArray, List.set_cons_succ, List.set_cons_zero, h0, h1, h2, h3, h4, h5, h6, h7, h8, h9, h11]
  clear h0 h1 h2 h3 h4 h5 h6 h7 h8 h9 h10 h11 h12
  replace hk := hk.grow (GrowX.of_growC hg (by rintro k o ⟨j, _, hw⟩; simp only [WCutB8] at hw; omega))
  replace hb2 := Nat.le_trans hb2 hg.size
  clear hg hsz
  go_wp2_with fail
  refine wp_region_partsDC (WCutB9 g nk h kb ko kr db dd n av) 14 [[], [0], [], [2], [0, 1, 2, 3], [], [5], [], [7], [5, 6, 7, 8], [0, 1, 2, 3, 4], [0, 1, 2, 3, 4, 10], [0, 1, 2, 3, 4, 5, 6, 7, 8, 9, 10, 11], [0, 1, 2, 3, 4, 5, 6, 7, 8, 9, 10, 11, 12]] [some 56, some 57, some 58, some 59, some 60, some 61, some 62, some 63, some 64, some 65, some 66, none, some 67, none] (by kernel_rfl) (by kernel_rfl) rfl (PCutB9 g nk h kb ko kr db dd n av) (PCutB9_stable g nk h kb ko kr db dd n av ) ?pCutB9 ?_
  case pCutB9 =>
    intro i hi o ho vs lo hx_ w' hg hp
    match i, hi with
    | 0, _ =>
      obtain rfl := Option.some.inj ho
      clear ho
      simp only [actsD, List.getD_cons_zero, List.getD_cons_succ, List.foldl_cons, List.foldl_nil, Act.put, List.setIfInBounds_toArray, List.set_cons_succ, List.set_cons_zero]
      have hsz := hg.size
      go_wp2
      exact ⟨_, rfl, GrowC.refl _, rfl⟩
    | 1, _ =>
      obtain rfl := Option.some.inj ho
      clear ho
      simp only [actsD, List.getD_cons_zero, List.getD_cons_succ, List.foldl_cons, List.foldl_nil, Act.put, List.setIfInBounds_toArray, List.set_cons_succ, List.set_cons_zero]
      obtain ⟨_, _, _, h0⟩ := hp 0 (by simp)
      simp only [PCutB9] at h0
      have hsz := hg.size
      rw [h0]
      have e0 := (hg.cell (g) 1 ba.lt (by rintro ⟨j, _, hne, hb, hw⟩; simp only [WCutB9] at hw; omega)).trans (ba.cell 1 _ rfl)
      go_wp2
      exact ⟨_, rfl, GrowC.refl _, rfl⟩
    | 2, _ =>
      obtain rfl := Option.some.inj ho
      clear ho
      simp only [actsD, List.getD_cons_zero, List.getD_cons_succ, List.foldl_cons, List.foldl_nil, Act.put, List.setIfInBounds_toArray, List.set_cons_succ, List.set_cons_zero]
      have hsz := hg.size
      go_wp2
      exact ⟨_, rfl, GrowC.refl _, rfl⟩
    | 3, _ =>
      obtain rfl := Option.some.inj ho
      clear ho
      simp only [actsD, List.getD_cons_zero, List.getD_cons_succ, List.foldl_cons, List.foldl_nil, Act.put, List.setIfInBounds_toArray, List.set_cons_succ, List.set_cons_zero]
      obtain ⟨_, _, _, h2⟩ := hp 2 (by simp)
      simp only [PCutB9] at h2
      have hsz := hg.size
      rw [h2]
      go_wp2
      exact ⟨_, rfl, GrowC.refl _, rfl⟩
    | 4, _ =>
      obtain rfl := Option.some.inj ho
      clear ho
      simp only [actsD, List.getD_cons_zero, List.getD_cons_succ, List.foldl_cons, List.foldl_nil, Act.put, List.setIfInBounds_toArray, List.set_cons_succ, List.set_cons_zero]
      obtain ⟨_, _, _, h1⟩ := hp 1 (by simp)
      simp only [PCutB9] at h1
      obtain ⟨_, _, _, h3⟩ := hp 3 (by simp)
      simp only [PCutB9] at h3
      have hsz := hg.size
      rw [h1, h3]
      rcases Nat.lt_or_ge (h + 1) nk with hlt | hge
      · obtain rfl : kr = ko + (h + 1) := by rw [HKR.out, if_neg (by omega)]
        go_wp2
        exact ⟨_, rfl, GrowC.refl _, rfl⟩
      · obtain rfl : nk = h + 1 := by omega
        obtain rfl : kr = ko := by rw [HKR.out, if_pos rfl]
        go_wp2
        exact ⟨_, rfl, GrowC.refl _, by simp only [PCutB9]; simp⟩
    | 5, _ =>
      obtain rfl := Option.some.inj ho
      clear ho
      simp only [actsD, List.getD_cons_zero, List.getD_cons_succ, List.foldl_cons, List.foldl_nil, Act.put, List.setIfInBounds_toArray, List.set_cons_succ, List.set_cons_zero]
      have hsz := hg.size
      go_wp2
      exact ⟨_, rfl, GrowC.refl _, rfl⟩
    | 6, _ =>
      obtain rfl := Option.some.inj ho
      clear ho
      simp only [actsD, List.getD_cons_zero, List.getD_cons_succ, List.foldl_cons, List.foldl_nil, Act.put, List.setIfInBounds_toArray, List.set_cons_succ, List.set_cons_zero]
      obtain ⟨_, _, _, h5⟩ := hp 5 (by simp)
      simp only [PCutB9] at h5
      have hsz := hg.size
      rw [h5]
      have e0 := (hg.cell (g) 3 ba.lt (by rintro ⟨j, _, hne, hb, hw⟩; simp only [WCutB9] at hw; omega)).trans (ba.cell 3 _ rfl)
      go_wp2
      exact ⟨_, rfl, GrowC.refl _, rfl⟩
    | 7, _ =>
      obtain rfl := Option.some.inj ho
      clear ho
      simp only [actsD, List.getD_cons_zero, List.getD_cons_succ, List.foldl_cons, List.foldl_nil, Act.put, List.setIfInBounds_toArray, List.set_cons_succ, List.set_cons_zero]
      have hsz := hg.size
      go_wp2
      exact ⟨_, rfl, GrowC.refl _, rfl⟩
    | 8, _ =>
      obtain rfl := Option.some.inj ho
      clear ho
      simp only [actsD, List.getD_cons_zero, List.getD_cons_succ, List.foldl_cons, List.foldl_nil, Act.put, List.setIfInBounds_toArray, List.set_cons_succ, List.set_cons_zero]
      obtain ⟨_, _, _, h7⟩ := hp 7 (by simp)
      simp only [PCutB9] at h7
      have hsz := hg.size
      rw [h7]
      go_wp2
      exact ⟨_, rfl, GrowC.refl _, rfl⟩
    | 9, _ =>
      obtain rfl := Option.some.inj ho
      clear ho
      simp only [actsD, List.getD_cons_zero, List.getD_cons_succ, List.foldl_cons, List.foldl_nil, Act.put, List.setIfInBounds_toArray, List.set_cons_succ, List.set_cons_zero]
      obtain ⟨_, _, _, h6⟩ := hp 6 (by simp)
      simp only [PCutB9] at h6
      obtain ⟨_, _, _, h8⟩ := hp 8 (by simp)
      simp only [PCutB9] at h8
      have hsz := hg.size
      rw [h6, h8]
      go_wp2
      exact ⟨_, rfl, GrowC.refl _, rfl⟩
    | 10, _ =>
      obtain rfl := Option.some.inj ho
      clear ho
      simp only [actsD, List.getD_cons_zero, List.getD_cons_succ, List.foldl_cons, List.foldl_nil, Act.put, List.setIfInBounds_toArray, List.set_cons_succ, List.set_cons_zero]
      have hsz := hg.size
      go_wp2
      exact ⟨_, rfl, GrowC.refl _, rfl⟩
    | 11, _ =>
      obtain rfl := Option.some.inj ho
      clear ho
      simp only [actsD, List.getD_cons_zero, List.getD_cons_succ, List.foldl_cons, List.foldl_nil, Act.put, List.setIfInBounds_toArray, List.set_cons_succ, List.set_cons_zero]
      obtain ⟨_, _, _, h4⟩ := hp 4 (by simp)
      simp only [PCutB9] at h4
      obtain ⟨_, _, _, h10⟩ := hp 10 (by simp)
      simp only [PCutB9] at h10
      have hsz := hg.size
      rw [h4, h10]
      have o0 := (hg.cell (g + 1 + 1) 1 bc.lt (by rintro ⟨j, _, hne, hb, hw⟩; simp only [WCutB9] at hw; omega)).trans (bc.cell 1 _ rfl)
      have fz : ∀ o, w'.frozen? ⟨g + 1 + 1, o, none⟩ = false := fun o => (hg.frozen _ o bc.lt).trans (bc.free o)
      have hlt : g + 1 + 1 < w'.heap.size := by have := bc.lt; omega
      go_wp2
      exact ⟨.bool true, rfl, ((GrowC.refl _).setCell (by unfold WCutB9; omega) hlt _), by simpa [World.setCell] using hlt, World.cell?_setCell_same _ _ _ o0⟩
    | 12, _ =>
      obtain rfl := Option.some.inj ho
      clear ho
      simp only [actsD, List.getD_cons_zero, List.getD_cons_succ, List.foldl_cons, List.foldl_nil, Act.put, List.setIfInBounds_toArray, List.set_cons_succ, List.set_cons_zero]
      obtain ⟨_, _, _, h11⟩ := hp 11 (by simp)
      simp only [PCutB9] at h11
      have hsz := hg.size
      go_wp2
      exact ⟨_, rfl, GrowC.refl _, rfl⟩
    | 13, _ =>
      obtain rfl := Option.some.inj ho
      clear ho
      simp only [actsD, List.getD_cons_zero, List.getD_cons_succ, List.foldl_cons, List.foldl_nil, Act.put, List.setIfInBounds_toArray, List.set_cons_succ, List.set_cons_zero]
      obtain ⟨_, _, _, h9⟩ := hp 9 (by simp)
      simp only [PCutB9] at h9
      obtain ⟨_, _, _, h11⟩ := hp 11 (by simp)
      simp only [PCutB9] at h11
      obtain ⟨_, _, _, h12⟩ := hp 12 (by simp)
      simp only [PCutB9] at h12
      have hsz := hg.size
      rw [h9, h12]
      have o0 := (hg.cell (g + 1 + 1) 3 bc.lt (by rintro ⟨j, _, hne, hb, hw⟩; simp only [WCutB9] at hw; omega)).trans (bc.cell 3 _ rfl)
      have fz : ∀ o, w'.frozen? ⟨g + 1 + 1, o, none⟩ = false := fun o => (hg.frozen _ o bc.lt).trans (bc.free o)
      have hlt : g + 1 + 1 < w'.heap.size := by have := bc.lt; omega
      go_wp2
      exact ⟨.bool true, rfl, ((GrowC.refl _).setCell (by unfold WCutB9; omega) hlt _), by simpa [World.setCell] using hlt, World.cell?_setCell_same _ _ _ o0⟩
    | (q + 14), hq => exact absurd hq (by omega)
  intro vS lo hi w6 hg hp hd
  obtain ⟨_, _, _, h0⟩ := hp 0 (by omega)
  obtain ⟨_, _, _, h1⟩ := hp 1 (by omega)
  obtain ⟨_, _, _, h2⟩ := hp 2 (by omega)
  obtain ⟨_, _, _, h3⟩ := hp 3 (by omega)
  obtain ⟨_, _, _, h4⟩ := hp 4 (by omega)
  obtain ⟨_, _, _, h5⟩ := hp 5 (by omega)
  obtain ⟨_, _, _, h6⟩ := hp 6 (by omega)
  obtain ⟨_, _, _, h7⟩ := hp 7 (by omega)
  obtain ⟨_, _, _, h8⟩ := hp 8 (by omega)
  obtain ⟨_, _, _, h9⟩ := hp 9 (by omega)
  obtain ⟨_, _, _, h10⟩ := hp 10 (by omega)
  obtain ⟨_, _, _, h11⟩ := hp 11 (by omega)
  obtain ⟨_, _, _, h12⟩ := hp 12 (by omega)
  obtain ⟨_, _, _, h13⟩ := hp 13 (by omega)
  simp only [PCutB9] at h0 h1 h2 h3 h4 h5 h6 h7 h8 h9 h10 h11 h12 h13
  clear hp hd
  have hsz := hg.size
  replace ba := ba.grow hg (by intro i _; rintro ⟨j, _, hw⟩; simp only [WCutB9] at hw; omega)
  replace bb := bb.grow hg (by intro i _; rintro ⟨j, _, hw⟩; simp only [WCutB9] at hw; omega)
  replace bc : Box w6 (g + 1 + 1) [.bool false, .slice (some ⟨kb, kr, none⟩) (nk - (h + 1)) (nk - (h + 1)), .slice av 0 0, .slice (some ⟨db, dd + (h + 1), none⟩) (nk - h) (nk - h), .int .i64 n] := bc.upd hg (by
    intro i v hi
    match i, hi with
    | 0, hi => exact .inr ⟨(by rintro ⟨j, _, hw⟩; simp only [WCutB9] at hw; omega), hi⟩
    | 1, hi => exact .inl (by obtain rfl := Option.some.inj hi; exact h11.2)
    | 2, hi => exact .inr ⟨(by rintro ⟨j, _, hw⟩; simp only [WCutB9] at hw; omega), hi⟩
    | 3, hi => exact .inl (by obtain rfl := Option.some.inj hi; exact h13.2)
    | 4, hi => exact .inr ⟨(by rintro ⟨j, _, hw⟩; simp only [WCutB9] at hw; omega), hi⟩
    | (q + 5), hi => cases hi)
  replace hB := hB.trans (hg.below (fun k hk => ⟨by omega, fun o => by rintro ⟨j, _, hw⟩; simp only [WCutB9] at hw; omega⟩))
  have hr : List.range 14 = [0, 1, 2, 3, 4, 5, 6, 7, 8, 9, 10, 11, 12, 13] := rfl
  rw [hr]
  clear hr
  simp only [List.drop_succ_cons, List.drop_zero, List.drop_nil, actsD, List.getD_cons_zero, List.getD_cons_succ, List.foldl_cons, List.foldl_nil, Act.put, List.setIfInBounds_toArray, List.set_cons_succ, List.set_cons_zero, h0, h1, h2, h3, h4, h5, h6, h7, h8, h9, h10, h12]
  clear h0 h1 h2 h3 h4 h5 h6 h7 h8 h9 h10 h11 h12 h13
  replace hk := hk.grow (GrowX.of_growC hg (by rintro k o ⟨j, _, hw⟩; simp only [WCutB9] at hw; omega))
  replace hb2 := Nat.le_trans hb2 hg.size
  clear hg hsz
  go_wp2_with fail
  obtain ⟨a0, c0, hcs, ⟨hkb2, hkb3⟩, hrs⟩ := Texts.at_kept (hk.imp (fun _ h => h.keys)) h (by rw [HNK.out]; exact hh)
  have hld : K.getD h [] = K[h]'(by rw [HNK.out]; exact hh) := by rw [List.getD_eq_getElem?_getD, List.getElem?_eq_getElem (by rw [HNK.out]; exact hh)]; rfl
  rw [← hld] at hcs hrs
  have HLD := Lib.hid hld
  clear hld
  obtain ⟨l, hl0⟩ : ∃ l, K.getD h [] = l := ⟨_, rfl⟩
  rw [hl0] at hcs hrs
  obtain ⟨m, hm0⟩ : ∃ m, l.length = m := ⟨_, rfl⟩
  rw [hm0] at hcs hrs
  have e1 : (K.take h).length = h := by rw [List.length_take, HNK.out]; omega
  have e2 : (D.take (h + 1)).length = h + 1 := by rw [List.length_take, HL.out]; omega
  have e3 : (K.drop (h + 1)).length = nk - (h + 1) := by rw [List.length_drop, HNK.out]
  have e4 : (D.drop (h + 1)).length = nk - h := by rw [List.length_drop, HL.out]; omega
  have hL : Kept (fun k => k < g + 3) w6 (fun w2 => NodeAt w2 (.slice (some ⟨kb, ko, none⟩) h nk) (.slice av 0 0) (.slice (some ⟨db, dd, none⟩) (h + 1) (nk + 1)) ⟨false, K.take h, [], D.take (h + 1), 0⟩) := hk.imp fun w2 hk0 =>
    ⟨hk0.keys.take h h HNK.out (by omega) rfl, hk0.vals, by show Reads 1 _ _ (D.take (h + 1)).length _; rw [e2]; have hkd := hk0.kids; rw [HL.out] at hkd; exact hkd.takeI (h + 1) (by omega)⟩
  have hR : Kept (fun k => k < g + 3) w6 (fun w2 => NodeAt w2 (.slice (some ⟨kb, kr, none⟩) (nk - (h + 1)) (nk - (h + 1))) (.slice av 0 0) (.slice (some ⟨db, dd + (h + 1), none⟩) (nk - h) (nk - h)) ⟨false, K.drop (h + 1), [], D.drop (h + 1), n⟩) := hk.imp fun w2 hk0 =>
    ⟨hk0.keys.dropE (h + 1) (nk - (h + 1)) (nk - (h + 1)) kr HNK.out (by omega) rfl (Nat.le_refl _) HKR.out, hk0.vals, by show Reads 1 _ _ (D.drop (h + 1)).length _; rw [e4]; have hkd := hk0.kids; rw [HL.out] at hkd; exact hkd.dropI (h + 1) (nk - h) (nk - h) (by omega) (by omega) (Nat.le_refl _)⟩
  have hokL : (⟨false, K.take h, [], D.take (h + 1), 0⟩ : Nd).ok := hok.cut _ _ _ _ _ rfl (by intro l hl; exact List.mem_of_mem_take hl) (by intro l hl; cases hl) (by simp; omega) (by simp) (by simp; omega)
  have hokR : (⟨false, K.drop (h + 1), [], D.drop (h + 1), n⟩ : Nd).ok := hok.cut _ _ _ _ _ rfl (by intro l hl; exact List.mem_of_mem_drop hl) (by intro l hl; cases hl) (by simp) (by simp) (by simp)
  have HRL := Lib.hid hL
  have HRR := Lib.hid hR
  have HM := Lib.hid hm0
  have HL0 := Lib.hid hl0
  have ELK := Lib.hid e1
  have ELD := Lib.hid e2
  have ERK := Lib.hid e3
  have ERD := Lib.hid e4
  clear hL hR hm0 hl0 e1 e2 e3 e4 hk
  refine wp_region_partsDC (WCutB10 w6 h nk kb ko kr db dd g m c0 n av a0 K D) 12 [[], [0], [], [2], [], [2, 3, 4], [2, 3, 4, 5], [], [0, 1, 7], [0, 1, 7, 8], [0, 1, 2, 3, 4, 5, 6, 7, 8, 9], [0, 1, 2, 3, 4, 5, 6, 7, 8, 9, 10]] [some 68, some 69, some 70, some 71, some 72, some 73, some 74, some 75, some 76, none, some 5, none] (by kernel_rfl) (by kernel_rfl) rfl (PCutB10 w6 h nk kb ko kr db dd g m c0 n av a0 K D) (PCutB10_stable w6 h nk kb ko kr db dd g m c0 n av a0 K D hb2) ?pCutB10 ?_
  case pCutB10 =>
    intro i hi o ho vs lo hx_ w' hg hp
    match i, hi with
    | 0, _ =>
      obtain rfl := Option.some.inj ho
      clear ho
      simp only [actsD, List.getD_cons_zero, List.getD_cons_succ, List.foldl_cons, List.foldl_nil, Act.put, List.setIfInBounds_toArray, List.set_cons_succ, List.set_cons_zero]
      have hsz := hg.size
      have e0 := (hg.cell (g + 1) 0 bb.lt (by rintro ⟨j, _, hne, hb, hw⟩; simp only [WCutB10] at hw; rcases hw with ⟨rfl, e1, e2⟩ | ⟨rfl, e1, e2⟩ | ⟨rfl, e1, e2⟩ | ⟨rfl, e1, e2⟩ | ⟨rfl, e1, e2⟩ | ⟨rfl, e1, e2⟩ | ⟨rfl, e1, e2⟩ | ⟨rfl, e1, e2⟩ | ⟨rfl, e1, e2⟩ | ⟨rfl, e1, e2⟩ <;> first | omega | (exact hb (by decide)))).trans (bb.cell 0 _ rfl)
      have e1 := (hg.cell (g + 1) 1 bb.lt (by rintro ⟨j, _, hne, hb, hw⟩; simp only [WCutB10] at hw; rcases hw with ⟨rfl, e1, e2⟩ | ⟨rfl, e1, e2⟩ | ⟨rfl, e1, e2⟩ | ⟨rfl, e1, e2⟩ | ⟨rfl, e1, e2⟩ | ⟨rfl, e1, e2⟩ | ⟨rfl, e1, e2⟩ | ⟨rfl, e1, e2⟩ | ⟨rfl, e1, e2⟩ | ⟨rfl, e1, e2⟩ <;> first | omega | (exact hb (by decide)))).trans (bb.cell 1 _ rfl)
      have e2 := (hg.cell (g + 1) 2 bb.lt (by rintro ⟨j, _, hne, hb, hw⟩; simp only [WCutB10] at hw; rcases hw with ⟨rfl, e1, e2⟩ | ⟨rfl, e1, e2⟩ | ⟨rfl, e1, e2⟩ | ⟨rfl, e1, e2⟩ | ⟨rfl, e1, e2⟩ | ⟨rfl, e1, e2⟩ | ⟨rfl, e1, e2⟩ | ⟨rfl, e1, e2⟩ | ⟨rfl, e1, e2⟩ | ⟨rfl, e1, e2⟩ <;> first | omega | (exact hb (by decide)))).trans (bb.cell 2 _ rfl)
      have e3 := (hg.cell (g + 1) 3 bb.lt (by rintro ⟨j, _, hne, hb, hw⟩; simp only [WCutB10] at hw; rcases hw with ⟨rfl, e1, e2⟩ | ⟨rfl, e1, e2⟩ | ⟨rfl, e1, e2⟩ | ⟨rfl, e1, e2⟩ | ⟨rfl, e1, e2⟩ | ⟨rfl, e1, e2⟩ | ⟨rfl, e1, e2⟩ | ⟨rfl, e1, e2⟩ | ⟨rfl, e1, e2⟩ | ⟨rfl, e1, e2⟩ <;> first | omega | (exact hb (by decide)))).trans (bb.cell 3 _ rfl)
      have e4 := (hg.cell (g + 1) 4 bb.lt (by rintro ⟨j, _, hne, hb, hw⟩; simp only [WCutB10] at hw; rcases hw with ⟨rfl, e1, e2⟩ | ⟨rfl, e1, e2⟩ | ⟨rfl, e1, e2⟩ | ⟨rfl, e1, e2⟩ | ⟨rfl, e1, e2⟩ | ⟨rfl, e1, e2⟩ | ⟨rfl, e1, e2⟩ | ⟨rfl, e1, e2⟩ | ⟨rfl, e1, e2⟩ | ⟨rfl, e1, e2⟩ <;> first | omega | (exact hb (by decide)))).trans (bb.cell 4 _ rfl)
      go_wp2
      exact ⟨_, rfl, GrowC.refl _, rfl⟩
    | 1, _ =>
      obtain rfl := Option.some.inj ho
      clear ho
      simp only [actsD, List.getD_cons_zero, List.getD_cons_succ, List.foldl_cons, List.foldl_nil, Act.put, List.setIfInBounds_toArray, List.set_cons_succ, List.set_cons_zero]
      obtain ⟨_, _, _, h0⟩ := hp 0 (by simp)
      simp only [PCutB10] at h0
      have hsz := hg.size
      rw [h0]
      go_wp2_with fail
      refine (copied_sl _ _ _ _ _ (HRL.out w' (GrowX.of_growC hg (by rintro k o ⟨j, _, _, _, hw⟩; simp only [WCutB10] at hw; omega))) hokL false 0 (h) 0 (h + 1) rfl rfl ELK.out rfl ELD.out).mono ?_
      rintro e wz ⟨a1, a2, a3, rfl, hk1, hb⟩
      go_wp2
      exact ⟨_, rfl, GrowC.of_grow hb, a1, a2, a3, rfl, hk1.mono (fun k _ h => by omega)⟩
    | 2, _ =>
      obtain rfl := Option.some.inj ho
      clear ho
      simp only [actsD, List.getD_cons_zero, List.getD_cons_succ, List.foldl_cons, List.foldl_nil, Act.put, List.setIfInBounds_toArray, List.set_cons_succ, List.set_cons_zero]
      have hsz := hg.size
      go_wp2
      exact ⟨_, rfl, GrowC.refl _, rfl⟩
    | 3, _ =>
      obtain rfl := Option.some.inj ho
      clear ho
      simp only [actsD, List.getD_cons_zero, List.getD_cons_succ, List.foldl_cons, List.foldl_nil, Act.put, List.setIfInBounds_toArray, List.set_cons_succ, List.set_cons_zero]
      obtain ⟨_, _, _, h2⟩ := hp 2 (by simp)
      simp only [PCutB10] at h2
      have hsz := hg.size
      rw [h2]
      have e0 := (hg.cell (g) 1 ba.lt (by rintro ⟨j, _, hne, hb, hw⟩; simp only [WCutB10] at hw; omega)).trans (ba.cell 1 _ rfl)
      go_wp2
      exact ⟨_, rfl, GrowC.refl _, rfl⟩
    | 4, _ =>
      obtain rfl := Option.some.inj ho
      clear ho
      simp only [actsD, List.getD_cons_zero, List.getD_cons_succ, List.foldl_cons, List.foldl_nil, Act.put, List.setIfInBounds_toArray, List.set_cons_succ, List.set_cons_zero]
      have hsz := hg.size
      go_wp2
      exact ⟨_, rfl, GrowC.refl _, rfl⟩
    | 5, _ =>
      obtain rfl := Option.some.inj ho
      clear ho
      simp only [actsD, List.getD_cons_zero, List.getD_cons_succ, List.foldl_cons, List.foldl_nil, Act.put, List.setIfInBounds_toArray, List.set_cons_succ, List.set_cons_zero]
      obtain ⟨_, _, _, h3⟩ := hp 3 (by simp)
      simp only [PCutB10] at h3
      obtain ⟨_, _, _, h4⟩ := hp 4 (by simp)
      simp only [PCutB10] at h4
      have hsz := hg.size
      rw [h3, h4]
      go_wp2
      exact ⟨_, rfl, GrowC.refl _, rfl⟩
    | 6, _ =>
      obtain rfl := Option.some.inj ho
      clear ho
      simp only [actsD, List.getD_cons_zero, List.getD_cons_succ, List.foldl_cons, List.foldl_nil, Act.put, List.setIfInBounds_toArray, List.set_cons_succ, List.set_cons_zero]
      obtain ⟨_, _, _, h5⟩ := hp 5 (by simp)
      simp only [PCutB10] at h5
      have hsz := hg.size
      rw [h5]
      have e0 := (hg.cell kb (ko + h) hkb2 (by rintro ⟨j, _, hne, hb, hw⟩; simp only [WCutB10] at hw; omega)).trans hcs
      go_wp2
      exact ⟨_, rfl, GrowC.refl _, rfl⟩
    | 7, _ =>
      obtain rfl := Option.some.inj ho
      clear ho
      simp only [actsD, List.getD_cons_zero, List.getD_cons_succ, List.foldl_cons, List.foldl_nil, Act.put, List.setIfInBounds_toArray, List.set_cons_succ, List.set_cons_zero]
      have hsz := hg.size
      have e0 := (hg.cell (g + 1 + 1) 0 bc.lt (by rintro ⟨j, _, hne, hb, hw⟩; simp only [WCutB10] at hw; rcases hw with ⟨rfl, e1, e2⟩ | ⟨rfl, e1, e2⟩ | ⟨rfl, e1, e2⟩ | ⟨rfl, e1, e2⟩ | ⟨rfl, e1, e2⟩ | ⟨rfl, e1, e2⟩ | ⟨rfl, e1, e2⟩ | ⟨rfl, e1, e2⟩ | ⟨rfl, e1, e2⟩ | ⟨rfl, e1, e2⟩ <;> first | omega | (exact hb (by decide)))).trans (bc.cell 0 _ rfl)
      have e1 := (hg.cell (g + 1 + 1) 1 bc.lt (by rintro ⟨j, _, hne, hb, hw⟩; simp only [WCutB10] at hw; rcases hw with ⟨rfl, e1, e2⟩ | ⟨rfl, e1, e2⟩ | ⟨rfl, e1, e2⟩ | ⟨rfl, e1, e2⟩ | ⟨rfl, e1, e2⟩ | ⟨rfl, e1, e2⟩ | ⟨rfl, e1, e2⟩ | ⟨rfl, e1, e2⟩ | ⟨rfl, e1, e2⟩ | ⟨rfl, e1, e2⟩ <;> first | omega | (exact hb (by decide)))).trans (bc.cell 1 _ rfl)
      have e2 := (hg.cell (g + 1 + 1) 2 bc.lt (by rintro ⟨j, _, hne, hb, hw⟩; simp only [WCutB10] at hw; rcases hw with ⟨rfl, e1, e2⟩ | ⟨rfl, e1, e2⟩ | ⟨rfl, e1, e2⟩ | ⟨rfl, e1, e2⟩ | ⟨rfl, e1, e2⟩ | ⟨rfl, e1, e2⟩ | ⟨rfl, e1, e2⟩ | ⟨rfl, e1, e2⟩ | ⟨rfl, e1, e2⟩ | ⟨rfl, e1, e2⟩ <;> first | omega | (exact hb (by decide)))).trans (bc.cell 2 _ rfl)
      have e3 := (hg.cell (g + 1 + 1) 3 bc.lt (by rintro ⟨j, _, hne, hb, hw⟩; simp only [WCutB10] at hw; rcases hw with ⟨rfl, e1, e2⟩ | ⟨rfl, e1, e2⟩ | ⟨rfl, e1, e2⟩ | ⟨rfl, e1, e2⟩ | ⟨rfl, e1, e2⟩ | ⟨rfl, e1, e2⟩ | ⟨rfl, e1, e2⟩ | ⟨rfl, e1, e2⟩ | ⟨rfl, e1, e2⟩ | ⟨rfl, e1, e2⟩ <;> first | omega | (exact hb (by decide)))).trans (bc.cell 3 _ rfl)
      have e4 := (hg.cell (g + 1 + 1) 4 bc.lt (by rintro ⟨j, _, hne, hb, hw⟩; simp only [WCutB10] at hw; rcases hw with ⟨rfl, e1, e2⟩ | ⟨rfl, e1, e2⟩ | ⟨rfl, e1, e2⟩ | ⟨rfl, e1, e2⟩ | ⟨rfl, e1, e2⟩ | ⟨rfl, e1, e2⟩ | ⟨rfl, e1, e2⟩ | ⟨rfl, e1, e2⟩ | ⟨rfl, e1, e2⟩ | ⟨rfl, e1, e2⟩ <;> first | omega | (exact hb (by decide)))).trans (bc.cell 4 _ rfl)
      go_wp2
      exact ⟨_, rfl, GrowC.refl _, rfl⟩
    | 8, _ =>
      obtain rfl := Option.some.inj ho
      clear ho
      simp only [actsD, List.getD_cons_zero, List.getD_cons_succ, List.foldl_cons, List.foldl_nil, Act.put, List.setIfInBounds_toArray, List.set_cons_succ, List.set_cons_zero]
      obtain ⟨_, _, _, h7⟩ := hp 7 (by simp)
      simp only [PCutB10] at h7
      have hsz := hg.size
      rw [h7]
      go_wp2_with fail
      refine (copied_sl _ _ _ _ _ (HRR.out w' (GrowX.of_growC hg (by rintro k o ⟨j, _, _, _, hw⟩; simp only [WCutB10] at hw; omega))) hokR false n (nk - (h + 1)) 0 (nk - h) rfl rfl ERK.out rfl ERD.out).mono ?_
      rintro e wz ⟨a1, a2, a3, rfl, hk1, hb⟩
      go_wp2
      exact ⟨_, rfl, GrowC.of_grow hb, a1, a2, a3, rfl, hk1.mono (fun k _ h => by omega)⟩
    | 9, _ =>
      obtain rfl := Option.some.inj ho
      clear ho
      simp only [actsD, List.getD_cons_zero, List.getD_cons_succ, List.foldl_cons, List.foldl_nil, Act.put, List.setIfInBounds_toArray, List.set_cons_succ, List.set_cons_zero]
      obtain ⟨_, _, _, h1⟩ := hp 1 (by simp)
      simp only [PCutB10] at h1
      have hsz := hg.size
      obtain ⟨a1, a2, a3, h1, hk1⟩ := h1
      rw [h1]
      have bx := bb.grow hg (by intro i _; rintro ⟨j, _, hne, hb, hw⟩; simp only [WCutB10] at hw; omega)
      obtain ⟨bx2, hgx⟩ := bx.set5c (.bool false) (.slice a1 (h) (h)) (.slice a2 0 0) (.slice a3 (h + 1) (h + 1)) (.int .i64 0)
      have o0 := bx.cell 0 _ rfl
      have o1 := bx.cell 1 _ rfl
      have o2 := bx.cell 2 _ rfl
      have o3 := bx.cell 3 _ rfl
      have o4 := bx.cell 4 _ rfl
      have fz := bx.free
      have hlt := bx.lt
      clear bx
      go_wp2
      have hgq : GrowC (WCutB10 w6 h nk kb ko kr db dd g m c0 n av a0 K D 9) w' _ := hgx.mono (WCutB10_9 w6 h nk kb ko kr db dd g m c0 n av a0 K D)
      exact ⟨.bool true, rfl, hgq, bx2.lt, a1, a2, a3, ⟨bx2.cell 0 _ rfl, bx2.cell 1 _ rfl, bx2.cell 2 _ rfl, bx2.cell 3 _ rfl, bx2.cell 4 _ rfl⟩, hk1.grow (GrowX.of_growC hgx (by intro k o e; omega))⟩
    | 10, _ =>
      obtain rfl := Option.some.inj ho
      clear ho
      simp only [actsD, List.getD_cons_zero, List.getD_cons_succ, List.foldl_cons, List.foldl_nil, Act.put, List.setIfInBounds_toArray, List.set_cons_succ, List.set_cons_zero]
      obtain ⟨_, _, _, h6⟩ := hp 6 (by simp)
      simp only [PCutB10] at h6
      obtain ⟨_, _, _, h9⟩ := hp 9 (by simp)
      simp only [PCutB10] at h9
      have hsz := hg.size
      rw [h6]
      go_wp2
      exact ⟨_, rfl, GrowC.refl _, rfl⟩
    | 11, _ =>
      obtain rfl := Option.some.inj ho
      clear ho
      simp only [actsD, List.getD_cons_zero, List.getD_cons_succ, List.foldl_cons, List.foldl_nil, Act.put, List.setIfInBounds_toArray, List.set_cons_succ, List.set_cons_zero]
      obtain ⟨_, _, _, h8⟩ := hp 8 (by simp)
      simp only [PCutB10] at h8
      obtain ⟨_, _, _, h9⟩ := hp 9 (by simp)
      simp only [PCutB10] at h9
      have hsz := hg.size
      obtain ⟨a1, a2, a3, h8, hk1⟩ := h8
      rw [h8]
      have bx := bc.grow hg (by intro i _; rintro ⟨j, _, hne, hb, hw⟩; simp only [WCutB10] at hw; omega)
      obtain ⟨bx2, hgx⟩ := bx.set5c (.bool false) (.slice a1 (nk - (h + 1)) (nk - (h + 1))) (.slice a2 0 0) (.slice a3 (nk - h) (nk - h)) (.int .i64 n)
      have o0 := bx.cell 0 _ rfl
      have o1 := bx.cell 1 _ rfl
      have o2 := bx.cell 2 _ rfl
      have o3 := bx.cell 3 _ rfl
      have o4 := bx.cell 4 _ rfl
      have fz := bx.free
      have hlt := bx.lt
      clear bx
      go_wp2
      have hgq : GrowC (WCutB10 w6 h nk kb ko kr db dd g m c0 n av a0 K D 11) w' _ := hgx.mono (WCutB10_11 w6 h nk kb ko kr db dd g m c0 n av a0 K D)
      exact ⟨.bool true, rfl, hgq, bx2.lt, a1, a2, a3, ⟨bx2.cell 0 _ rfl, bx2.cell 1 _ rfl, bx2.cell 2 _ rfl, bx2.cell 3 _ rfl, bx2.cell 4 _ rfl⟩, hk1.grow (GrowX.of_growC hgx (by intro k o e; omega))⟩
    | (q + 12), hq => exact absurd hq (by omega)
  intro vS lo hi w7 hg hp hd
  obtain ⟨_, _, _, h0⟩ := hp 0 (by omega)
  obtain ⟨_, _, _, h1⟩ := hp 1 (by omega)
  obtain ⟨_, _, _, h2⟩ := hp 2 (by omega)
  obtain ⟨_, _, _, h3⟩ := hp 3 (by omega)
  obtain ⟨_, _, _, h4⟩ := hp 4 (by omega)
  obtain ⟨_, _, _, h5⟩ := hp 5 (by omega)
  obtain ⟨_, _, _, h6⟩ := hp 6 (by omega)
  obtain ⟨_, _, _, h7⟩ := hp 7 (by omega)
  obtain ⟨_, _, _, h8⟩ := hp 8 (by omega)
  obtain ⟨_, _, _, h9⟩ := hp 9 (by omega)
  obtain ⟨_, _, _, h10⟩ := hp 10 (by omega)
  obtain ⟨_, _, _, h11⟩ := hp 11 (by omega)
  simp only [PCutB10] at h0 h1 h2 h3 h4 h5 h6 h7 h8 h9 h10 h11
  clear hp hd
  have hsz := hg.size
  replace ba := ba.grow hg (by intro i _; rintro ⟨j, _, hw⟩; simp only [WCutB10] at hw; omega)
  replace hB := hB.trans (hg.below (fun k hk => ⟨by omega, fun o => by rintro ⟨j, _, hw⟩; simp only [WCutB10] at hw; omega⟩))
  have hr : List.range 12 = [0, 1, 2, 3, 4, 5, 6, 7, 8, 9, 10, 11] := rfl
  rw [hr]
  clear hr
  simp only [List.drop_succ_cons, List.drop_zero, List.drop_nil, actsD, List.getD_cons_zero, List.getD_cons_succ, List.foldl_cons, List.foldl_nil, Act.put, List.setIfInBounds_toArray, List.set_cons_succ, List.set_cons_zero, h0, h2, h3, h4, h5, h6, h7, h10]
  clear h0 h2 h3 h4 h5 h6 h7 h10
  obtain ⟨_, p1, p2, p3, ⟨cb0, cb1, cb2, cb3, cb4⟩, hk1⟩ := h9
  obtain ⟨_, q1, q2, q3, ⟨cc0, cc1, cc2, cc3, cc4⟩, hk8⟩ := h11
  have fb : ∀ o, w7.frozen? ⟨g + 1, o, none⟩ = false := fun o => (hg.frozen _ o bb.lt).trans (bb.free o)
  have fc : ∀ o, w7.frozen? ⟨g + 1 + 1, o, none⟩ = false := fun o => (hg.frozen _ o bc.lt).trans (bc.free o)
  have hks := hrs.grow (GrowX.of_growC hg (by rintro k o ⟨j, _, hw⟩; simp only [WCutB10] at hw; omega))
  have hgw6 : w.heap.size ≤ w6.heap.size := by omega
  have hgw3 : w.heap.size ≤ g + 3 := by omega
  clear h1 h8 hg hrs hsz bb bc
  generalize vS 1 = v1
  generalize vS 8 = v8
  go_wp2
  refine bodyPost_ret (v := .tuple #[nodeV ⟨false, K.take h, [], D.take (h + 1), 0⟩ (.slice p1 h h) (.slice p2 0 0) (.slice p3 (h + 1) (h + 1)), .slice a0 m c0, nodeV ⟨false, K.drop (h + 1), [], D.drop (h + 1), n⟩ (.slice q1 (nk - (h + 1)) (nk - (h + 1))) (.slice q2 0 0) (.slice q3 (nk - h) (nk - h))]) (by simp [results, Try.results28, go_sem, nodeV, cb0, cb1, cb2, cb3, cb4, cc0, cc1, cc2, cc3, cc4]) rfl ?_
  refine ⟨.slice p1 h h, .slice p2 0 0, .slice p3 (h + 1) (h + 1), .slice q1 (nk - (h + 1)) (nk - (h + 1)), .slice q2 0 0, .slice q3 (nk - h) (nk - h), .slice a0 m c0, rfl, ?_, hB⟩
  refine (((hk1.and hk8).mono (fun k _ h => Nat.lt_of_lt_of_le h hgw6)).and (hks.mono (fun k _ h => Nat.lt_of_lt_of_le h hgw3))).imp (fun w8 h => ⟨h.1.1, h.1.2, ?_⟩)
  have := h.2
  show Reads 1 w8 _ (K.getD _ []).length ((K.getD _ []).map B)
  rw [HL0.out, HM.out]
  exact this
end Go.Proofs.Ytfbblgcdggpehaa

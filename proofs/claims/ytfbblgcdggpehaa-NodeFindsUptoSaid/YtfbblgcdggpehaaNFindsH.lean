/- The walk of NodeFinds at leaves that have the key. Conditions: short lists. -/
import Derived.Test.YtfbblgcdggpehaaNField
namespace Go.Proofs.Ytfbblgcdggpehaa
set_option linter.unusedSimpArgs false
set_option linter.unusedVariables false
open Go.RowKit

def WFh4 (nk kc nv vc nd dc kl qc p g : Nat) (n : Int) (ka va da qa : Option Addr) (f : Bool) (k : List UInt8) (x : Nd) (j b o : Nat) : Prop := False
def PFh4 (nk kc nv vc nd dc kl qc p g : Nat) (n : Int) (ka va da qa : Option Addr) (f : Bool) (k : List UInt8) (x : Nd) (i : Nat) (v : Value) (lo hi : Nat) (w : World) : Prop :=
  match i with
  | 0 => v = .agg #[.bool true, .slice ka nk kc, .slice va nv vc, .slice da nd dc, .int .i64 n]
  | 1 => ∃ r1 r2, v = .agg #[.bool true, r1, r2, (.slice da nd dc), .int .i64 n] ∧ RefAt w r1 r2 (.slice da nd dc) x
  | 2 => v = .slice qa kl qc
  | 3 => v = .string ⟨k.toArray⟩
  | 4 => v = .tuple #[.int .i64 ((p : Nat) : Int), .bool true]
  | 5 => v = .tuple #[.int .i64 ((p : Nat) : Int), .bool true]
  | 6 => v = .int .i64 ((p : Nat) : Int)
  | 7 => v = .bool true
  | 8 => v = .int .i64 ((p : Nat) : Int)
  | _ => True
theorem PFh4_stable (nk kc nv vc nd dc kl qc p g : Nat) (n : Int) (ka va da qa : Option Addr) (f : Bool) (k : List UInt8) (x : Nd)  : ∀ i j, i < 9 → j < 9 → j ≠ i → j ∉ ([[], [0], [], [2], [0, 1, 2, 3], [0, 1, 2, 3, 4], [0, 1, 2, 3, 4, 5], [0, 1, 2, 3, 4, 5], [0, 1, 2, 3, 4, 5, 6]] : List (List Nat)).getD i [] → ∀ v lo hi w w', PFh4 nk kc nv vc nd dc kl qc p g n ka va da qa f k x i v lo hi w → GrowC (WFh4 nk kc nv vc nd dc kl qc p g n ka va da qa f k x j) w w' → PFh4 nk kc nv vc nd dc kl qc p g n ka va da qa f k x i v lo hi w' := by
  intro i j hi hj hne hbs v lo hj2 w w' h hg
  match i, hi with
  | 0, _ =>
    simp only [PFh4] at h ⊢
    exact h
  | 1, _ =>
    simp only [PFh4] at h ⊢
    obtain ⟨r1, r2, h1, h2⟩ := h; exact ⟨r1, r2, h1, h2.below (hg.below (B := w.heap.size) (fun k hk => ⟨hk, fun _ hw => False.elim hw⟩)) (Nat.le_refl _)⟩
  | 2, _ =>
    simp only [PFh4] at h ⊢
    exact h
  | 3, _ =>
    simp only [PFh4] at h ⊢
    exact h
  | 4, _ =>
    simp only [PFh4] at h ⊢
    exact h
  | 5, _ =>
    simp only [PFh4] at h ⊢
    exact h
  | 6, _ =>
    simp only [PFh4] at h ⊢
    exact h
  | 7, _ =>
    simp only [PFh4] at h ⊢
    exact h
  | 8, _ =>
    simp only [PFh4] at h ⊢
    exact h
  | (q + 9), hq => exact absurd hq (by omega)
def WFh7 (nk kc nv vc nd dc kl qc vl uc p g g3 g4 mk mv md ek ev ed sz mg mo : Nat) (n : Int) (ka va da qa ua ma mc ea eb ec : Option Addr) (f : Bool) (k vL : List UInt8) (x y z : Nd) (j b o : Nat) : Prop := False
def PFh7 (nk kc nv vc nd dc kl qc vl uc p g g3 g4 mk mv md ek ev ed sz mg mo : Nat) (n : Int) (ka va da qa ua ma mc ea eb ec : Option Addr) (f : Bool) (k vL : List UInt8) (x y z : Nd) (i : Nat) (v : Value) (lo hi : Nat) (w : World) : Prop :=
  match i with
  | 0 => v = .int .i64 ((p : Nat) : Int)
  | 1 => v = .int .i64 ((p : Nat) : Int)
  | 2 => v = .bool false
  | 3 => v = .bool false
  | 4 => v = .bool true
  | 5 => v = .bool true
  | 6 => v = .bool false
  | 7 => v = .bool false
  | 8 => v = .bool false
  | 9 => v = .agg #[.bool true, .slice ka nk kc, .slice va nv vc, .slice da nd dc, .int .i64 n]
  | 10 => v = .int .i64 ((sz : Nat) : Int)
  | 11 => v = .agg #[.bool true, .slice ka nk kc, .slice va nv vc, .slice da nd dc, .int .i64 n]
  | 12 => ∃ r1 r2, v = .agg #[.bool true, r1, r2, (.slice da nd dc), .int .i64 n] ∧ RefAt w r1 r2 (.slice da nd dc) x
  | 13 => v = .int .i64 ((sz : Nat) : Int)
  | 14 => v = .bool false
  | 15 => v = .bool false
  | _ => True
theorem PFh7_stable (nk kc nv vc nd dc kl qc vl uc p g g3 g4 mk mv md ek ev ed sz mg mo : Nat) (n : Int) (ka va da qa ua ma mc ea eb ec : Option Addr) (f : Bool) (k vL : List UInt8) (x y z : Nd)  : ∀ i j, i < 16 → j < 16 → j ≠ i → j ∉ ([[], [], [0, 1], [0, 1, 2], [0, 1, 2, 3], [0, 1, 2, 3], [0, 1, 2, 3, 4, 5], [0, 1, 2, 3, 4, 5, 6], [0, 1, 2, 3, 4, 5, 6, 7], [0, 1, 2, 3, 4, 5, 6, 7, 8], [0, 1, 2, 3, 4, 5, 6, 7, 8, 9], [0, 1, 2, 3, 4, 5, 6, 7, 8], [0, 1, 2, 3, 4, 5, 6, 7, 8, 9, 10, 11], [0, 1, 2, 3, 4, 5, 6, 7, 8, 9, 10, 11, 12], [0, 1, 2, 3, 4, 5, 6, 7, 8, 9, 10, 11, 12, 13], [0, 1, 2, 3, 4, 5, 6, 7, 8, 9, 10, 11, 12, 13, 14]] : List (List Nat)).getD i [] → ∀ v lo hi w w', PFh7 nk kc nv vc nd dc kl qc vl uc p g g3 g4 mk mv md ek ev ed sz mg mo n ka va da qa ua ma mc ea eb ec f k vL x y z i v lo hi w → GrowC (WFh7 nk kc nv vc nd dc kl qc vl uc p g g3 g4 mk mv md ek ev ed sz mg mo n ka va da qa ua ma mc ea eb ec f k vL x y z j) w w' → PFh7 nk kc nv vc nd dc kl qc vl uc p g g3 g4 mk mv md ek ev ed sz mg mo n ka va da qa ua ma mc ea eb ec f k vL x y z i v lo hi w' := by
  intro i j hi hj hne hbs v lo hj2 w w' h hg
  match i, hi with
  | 0, _ =>
    simp only [PFh7] at h ⊢
    exact h
  | 1, _ =>
    simp only [PFh7] at h ⊢
    exact h
  | 2, _ =>
    simp only [PFh7] at h ⊢
    exact h
  | 3, _ =>
    simp only [PFh7] at h ⊢
    exact h
  | 4, _ =>
    simp only [PFh7] at h ⊢
    exact h
  | 5, _ =>
    simp only [PFh7] at h ⊢
    exact h
  | 6, _ =>
    simp only [PFh7] at h ⊢
    exact h
  | 7, _ =>
    simp only [PFh7] at h ⊢
    exact h
  | 8, _ =>
    simp only [PFh7] at h ⊢
    exact h
  | 9, _ =>
    simp only [PFh7] at h ⊢
    exact h
  | 10, _ =>
    simp only [PFh7] at h ⊢
    exact h
  | 11, _ =>
    simp only [PFh7] at h ⊢
    exact h
  | 12, _ =>
    simp only [PFh7] at h ⊢
    obtain ⟨r1, r2, h1, h2⟩ := h; exact ⟨r1, r2, h1, h2.below (hg.below (B := w.heap.size) (fun k hk => ⟨hk, fun _ hw => False.elim hw⟩)) (Nat.le_refl _)⟩
  | 13, _ =>
    simp only [PFh7] at h ⊢
    exact h
  | 14, _ =>
    simp only [PFh7] at h ⊢
    exact h
  | 15, _ =>
    simp only [PFh7] at h ⊢
    exact h
  | (q + 16), hq => exact absurd hq (by omega)
def WFh12 (nk kc nv vc nd dc kl qc vl uc p g g3 g4 mk mv md ek ev ed sz mg mo : Nat) (n : Int) (ka va da qa ua ma mc ea eb ec : Option Addr) (f : Bool) (s0 : Option Addr) (c0 : Nat) (k vL : List UInt8) (x y z : Nd) (j b o : Nat) : Prop := False
def PFh12 (nk kc nv vc nd dc kl qc vl uc p g g3 g4 mk mv md ek ev ed sz mg mo : Nat) (n : Int) (ka va da qa ua ma mc ea eb ec : Option Addr) (f : Bool) (s0 : Option Addr) (c0 : Nat) (k vL : List UInt8) (x y z : Nd) (i : Nat) (v : Value) (lo hi : Nat) (w : World) : Prop :=
  match i with
  | 0 => v = .bool true
  | 1 => v = .bool false
  | 2 => v = .bool false
  | 3 => v = .int .i64 ((p : Nat) : Int)
  | 4 => v = .int .i64 ((p : Nat) : Int)
  | 5 => v = .bool false
  | 6 => v = .bool false
  | 7 => v = .bool false
  | 8 => v = .pointer (some ⟨g3, 2, none⟩)
  | 9 => v = .slice (some ⟨mg, mo, none⟩) mv mv
  | 10 => v = .int .i64 ((mv : Nat) : Int)
  | 11 => v = .int .i64 ((p : Nat) : Int)
  | 12 => v = .bool false
  | 13 => v = .bool false
  | 14 => v = .bool false
  | 15 => v = .pointer (some ⟨g3, 2, none⟩)
  | 16 => v = .slice (some ⟨mg, mo, none⟩) mv mv
  | 17 => v = .int .i64 ((p : Nat) : Int)
  | 18 => v = .pointer (some ⟨mg, mo + p, none⟩)
  | 19 => v = .slice s0 vl c0
  | 20 => v = .string ⟨vL.toArray⟩
  | 21 => v = .slice ua vl uc
  | 22 => v = .string ⟨vL.toArray⟩
  | 23 => v = .bool false
  | 24 => v = .bool false
  | 25 => v = .bool false
  | 26 => v = .bool true
  | 27 => v = .bool true
  | 28 => v = .bool false
  | 29 => v = .bool false
  | 30 => v = .bool false
  | 31 => v = .pointer (some ⟨g3, 4, none⟩)
  | 32 => v = .int .i64 n
  | 33 => v = .pointer (some ⟨g, 4, none⟩)
  | 34 => v = .int .i64 n
  | 35 => v = .bool false
  | 36 => v = .bool false
  | _ => True
theorem PFh12_stable (nk kc nv vc nd dc kl qc vl uc p g g3 g4 mk mv md ek ev ed sz mg mo : Nat) (n : Int) (ka va da qa ua ma mc ea eb ec : Option Addr) (f : Bool) (s0 : Option Addr) (c0 : Nat) (k vL : List UInt8) (x y z : Nd)  : ∀ i j, i < 37 → j < 37 → j ≠ i → j ∉ ([[], [0], [0, 1], [0, 1, 2], [0, 1, 2], [0, 1, 2, 3, 4], [0, 1, 2, 3, 4, 5], [0, 1, 2, 3, 4, 5, 6], [0, 1, 2, 3, 4, 5, 6, 7], [0, 1, 2, 3, 4, 5, 6, 7, 8], [0, 1, 2, 3, 4, 5, 6, 7, 8, 9], [0, 1, 2, 3, 4, 5, 6, 7], [0, 1, 2, 3, 4, 5, 6, 7, 8, 9, 10, 11], [0, 1, 2, 3, 4, 5, 6, 7, 8, 9, 10, 11, 12], [0, 1, 2, 3, 4, 5, 6, 7, 8, 9, 10, 11, 12, 13], [0, 1, 2, 3, 4, 5, 6, 7, 8, 9, 10, 11, 12, 13, 14], [0, 1, 2, 3, 4, 5, 6, 7, 8, 9, 10, 11, 12, 13, 14, 15], [0, 1, 2, 3, 4, 5, 6, 7, 8, 9, 10, 11, 12, 13, 14], [0, 1, 2, 3, 4, 5, 6, 7, 8, 9, 10, 11, 12, 13, 14, 15, 16, 17], [0, 1, 2, 3, 4, 5, 6, 7, 8, 9, 10, 11, 12, 13, 14, 15, 16, 17, 18], [0, 1, 2, 3, 4, 5, 6, 7, 8, 9, 10, 11, 12, 13, 14, 15, 16, 17, 18, 19], [0, 1, 2, 3, 4, 5, 6, 7, 8, 9, 10, 11, 12, 13, 14], [0, 1, 2, 3, 4, 5, 6, 7, 8, 9, 10, 11, 12, 13, 14, 21], [0, 1, 2, 3, 4, 5, 6, 7, 8, 9, 10, 11, 12, 13, 14, 15, 16, 17, 18, 19, 20, 21, 22], [0, 1, 2, 3, 4, 5, 6, 7, 8, 9, 10, 11, 12, 13, 14, 15, 16, 17, 18, 19, 20, 21, 22, 23], [0, 1, 2, 3, 4, 5, 6, 7, 8, 9, 10, 11, 12, 13, 14, 15, 16, 17, 18, 19, 20, 21, 22, 23, 24], [0, 1, 2, 3, 4, 5, 6, 7, 8, 9, 10, 11, 12, 13, 14, 15, 16, 17, 18, 19, 20, 21, 22, 23, 24, 25], [0, 1, 2, 3, 4, 5, 6, 7, 8, 9, 10, 11, 12, 13, 14, 15, 16, 17, 18, 19, 20, 21, 22, 23, 24, 25], [0, 1, 2, 3, 4, 5, 6, 7, 8, 9, 10, 11, 12, 13, 14, 15, 16, 17, 18, 19, 20, 21, 22, 23, 24, 25, 26, 27], [0, 1, 2, 3, 4, 5, 6, 7, 8, 9, 10, 11, 12, 13, 14, 15, 16, 17, 18, 19, 20, 21, 22, 23, 24, 25, 26, 27, 28], [0, 1, 2, 3, 4, 5, 6, 7, 8, 9, 10, 11, 12, 13, 14, 15, 16, 17, 18, 19, 20, 21, 22, 23, 24, 25, 26, 27, 28, 29], [0, 1, 2, 3, 4, 5, 6, 7, 8, 9, 10, 11, 12, 13, 14, 15, 16, 17, 18, 19, 20, 21, 22, 23, 24, 25, 26, 27, 28, 29, 30], [0, 1, 2, 3, 4, 5, 6, 7, 8, 9, 10, 11, 12, 13, 14, 15, 16, 17, 18, 19, 20, 21, 22, 23, 24, 25, 26, 27, 28, 29, 30, 31], [0, 1, 2, 3, 4, 5, 6, 7, 8, 9, 10, 11, 12, 13, 14, 15, 16, 17, 18, 19, 20, 21, 22, 23, 24, 25, 26, 27, 28, 29, 30], [0, 1, 2, 3, 4, 5, 6, 7, 8, 9, 10, 11, 12, 13, 14, 15, 16, 17, 18, 19, 20, 21, 22, 23, 24, 25, 26, 27, 28, 29, 30, 33], [0, 1, 2, 3, 4, 5, 6, 7, 8, 9, 10, 11, 12, 13, 14, 15, 16, 17, 18, 19, 20, 21, 22, 23, 24, 25, 26, 27, 28, 29, 30, 31, 32, 33, 34], [0, 1, 2, 3, 4, 5, 6, 7, 8, 9, 10, 11, 12, 13, 14, 15, 16, 17, 18, 19, 20, 21, 22, 23, 24, 25, 26, 27, 28, 29, 30, 31, 32, 33, 34, 35]] : List (List Nat)).getD i [] → ∀ v lo hi w w', PFh12 nk kc nv vc nd dc kl qc vl uc p g g3 g4 mk mv md ek ev ed sz mg mo n ka va da qa ua ma mc ea eb ec f s0 c0 k vL x y z i v lo hi w → GrowC (WFh12 nk kc nv vc nd dc kl qc vl uc p g g3 g4 mk mv md ek ev ed sz mg mo n ka va da qa ua ma mc ea eb ec f s0 c0 k vL x y z j) w w' → PFh12 nk kc nv vc nd dc kl qc vl uc p g g3 g4 mk mv md ek ev ed sz mg mo n ka va da qa ua ma mc ea eb ec f s0 c0 k vL x y z i v lo hi w' := by
  intro i j hi hj hne hbs v lo hj2 w w' h hg
  match i, hi with
  | 0, _ =>
    simp only [PFh12] at h ⊢
    exact h
  | 1, _ =>
    simp only [PFh12] at h ⊢
    exact h
  | 2, _ =>
    simp only [PFh12] at h ⊢
    exact h
  | 3, _ =>
    simp only [PFh12] at h ⊢
    exact h
  | 4, _ =>
    simp only [PFh12] at h ⊢
    exact h
  | 5, _ =>
    simp only [PFh12] at h ⊢
    exact h
  | 6, _ =>
    simp only [PFh12] at h ⊢
    exact h
  | 7, _ =>
    simp only [PFh12] at h ⊢
    exact h
  | 8, _ =>
    simp only [PFh12] at h ⊢
    exact h
  | 9, _ =>
    simp only [PFh12] at h ⊢
    exact h
  | 10, _ =>
    simp only [PFh12] at h ⊢
    exact h
  | 11, _ =>
    simp only [PFh12] at h ⊢
    exact h
  | 12, _ =>
    simp only [PFh12] at h ⊢
    exact h
  | 13, _ =>
    simp only [PFh12] at h ⊢
    exact h
  | 14, _ =>
    simp only [PFh12] at h ⊢
    exact h
  | 15, _ =>
    simp only [PFh12] at h ⊢
    exact h
  | 16, _ =>
    simp only [PFh12] at h ⊢
    exact h
  | 17, _ =>
    simp only [PFh12] at h ⊢
    exact h
  | 18, _ =>
    simp only [PFh12] at h ⊢
    exact h
  | 19, _ =>
    simp only [PFh12] at h ⊢
    exact h
  | 20, _ =>
    simp only [PFh12] at h ⊢
    exact h
  | 21, _ =>
    simp only [PFh12] at h ⊢
    exact h
  | 22, _ =>
    simp only [PFh12] at h ⊢
    exact h
  | 23, _ =>
    simp only [PFh12] at h ⊢
    exact h
  | 24, _ =>
    simp only [PFh12] at h ⊢
    exact h
  | 25, _ =>
    simp only [PFh12] at h ⊢
    exact h
  | 26, _ =>
    simp only [PFh12] at h ⊢
    exact h
  | 27, _ =>
    simp only [PFh12] at h ⊢
    exact h
  | 28, _ =>
    simp only [PFh12] at h ⊢
    exact h
  | 29, _ =>
    simp only [PFh12] at h ⊢
    exact h
  | 30, _ =>
    simp only [PFh12] at h ⊢
    exact h
  | 31, _ =>
    simp only [PFh12] at h ⊢
    exact h
  | 32, _ =>
    simp only [PFh12] at h ⊢
    exact h
  | 33, _ =>
    simp only [PFh12] at h ⊢
    exact h
  | 34, _ =>
    simp only [PFh12] at h ⊢
    exact h
  | 35, _ =>
    simp only [PFh12] at h ⊢
    exact h
  | 36, _ =>
    simp only [PFh12] at h ⊢
    exact h
  | (q + 37), hq => exact absurd hq (by omega)
def WFh18 (nk kc nv vc nd dc kl qc vl uc p g g3 g4 mk mv md ek ev ed sz mg mo : Nat) (n : Int) (ka va da qa ua ma mc ea eb ec : Option Addr) (f : Bool) (k vL : List UInt8) (x y z : Nd) (j b o : Nat) : Prop := False
def PFh18 (nk kc nv vc nd dc kl qc vl uc p g g3 g4 mk mv md ek ev ed sz mg mo : Nat) (n : Int) (ka va da qa ua ma mc ea eb ec : Option Addr) (f : Bool) (k vL : List UInt8) (x y z : Nd) (i : Nat) (v : Value) (lo hi : Nat) (w : World) : Prop :=
  match i with
  | 0 => v = .pointer (some ⟨g3, 1, none⟩)
  | 1 => v = .slice ma mk mk
  | 2 => v = .int .i64 ((mk : Nat) : Int)
  | 3 => v = .int .i64 ((nk : Nat) : Int)
  | 4 => v = .bool false
  | 5 => v = .bool false
  | 6 => v = .bool false
  | 7 => v = .bool false
  | 8 => v = .bool false
  | 9 => v = .bool true
  | 10 => v = .bool true
  | 11 => v = .pointer (some ⟨g4, 1, none⟩)
  | 12 => v = .slice ea ek ek
  | 13 => v = .int .i64 ((ek : Nat) : Int)
  | 14 => v = .pointer (some ⟨g, 1, none⟩)
  | 15 => v = .slice ka nk kc
  | 16 => v = .int .i64 ((nk : Nat) : Int)
  | 17 => v = .int .i64 (((nk : Nat) : Int) - 1)
  | 18 => v = .bool false
  | 19 => v = .bool false
  | 20 => v = .bool false
  | 21 => v = .bool false
  | 22 => v = .bool true
  | 23 => v = .bool false
  | 24 => v = .bool false
  | 25 => v = undef
  | 26 => v = undef
  | 27 => v = undef
  | 28 => v = undef
  | 29 => v = undef
  | 30 => v = undef
  | 31 => v = .bool false
  | 32 => v = .bool false
  | _ => True
theorem PFh18_stable (nk kc nv vc nd dc kl qc vl uc p g g3 g4 mk mv md ek ev ed sz mg mo : Nat) (n : Int) (ka va da qa ua ma mc ea eb ec : Option Addr) (f : Bool) (k vL : List UInt8) (x y z : Nd)  : ∀ i j, i < 33 → j < 33 → j ≠ i → j ∉ ([[], [0], [0, 1], [], [0, 1, 2, 3], [0, 1, 2, 3, 4], [0, 1, 2, 3, 4, 5], [0, 1, 2, 3, 4, 5, 6], [0, 1, 2, 3, 4, 5, 6, 7], [0, 1, 2, 3, 4, 5, 6, 7, 8], [0, 1, 2, 3, 4, 5, 6, 7, 8, 9], [0, 1, 2, 3, 4, 5, 6, 7, 8, 9, 10], [0, 1, 2, 3, 4, 5, 6, 7, 8, 9, 10, 11], [0, 1, 2, 3, 4, 5, 6, 7, 8, 9, 10, 11, 12], [0, 1, 2, 3, 4, 5, 6, 7, 8, 9, 10], [0, 1, 2, 3, 4, 5, 6, 7, 8, 9, 10, 14], [0, 1, 2, 3, 4, 5, 6, 7, 8, 9, 10, 14, 15], [0, 1, 2, 3, 4, 5, 6, 7, 8, 9, 10, 14, 15, 16], [0, 1, 2, 3, 4, 5, 6, 7, 8, 9, 10, 11, 12, 13, 14, 15, 16, 17], [0, 1, 2, 3, 4, 5, 6, 7, 8, 9, 10, 11, 12, 13, 14, 15, 16, 17, 18], [0, 1, 2, 3, 4, 5, 6, 7, 8, 9, 10, 11, 12, 13, 14, 15, 16, 17, 18, 19], [0, 1, 2, 3, 4, 5, 6, 7, 8, 9, 10, 11, 12, 13, 14, 15, 16, 17, 18, 19, 20], [0, 1, 2, 3, 4, 5, 6, 7, 8, 9, 10, 11, 12, 13, 14, 15, 16, 17, 18, 19, 20, 21], [0, 1, 2, 3, 4, 5, 6, 7, 8, 9, 10, 11, 12, 13, 14, 15, 16, 17, 18, 19, 20, 21, 22], [0, 1, 2, 3, 4, 5, 6, 7, 8, 9, 10, 11, 12, 13, 14, 15, 16, 17, 18, 19, 20, 21, 22, 23], [0, 1, 2, 3, 4, 5, 6, 7, 8, 9, 10, 11, 12, 13, 14, 15, 16, 17, 18, 19, 20, 21, 22, 23, 24], [0, 1, 2, 3, 4, 5, 6, 7, 8, 9, 10, 11, 12, 13, 14, 15, 16, 17, 18, 19, 20, 21, 22, 23, 24, 25], [0, 1, 2, 3, 4, 5, 6, 7, 8, 9, 10, 11, 12, 13, 14, 15, 16, 17, 18, 19, 20, 21, 22, 23, 24], [0, 1, 2, 3, 4, 5, 6, 7, 8, 9, 10, 11, 12, 13, 14, 15, 16, 17, 18, 19, 20, 21, 22, 23, 24, 25, 26, 27], [0, 1, 2, 3, 4, 5, 6, 7, 8, 9, 10, 11, 12, 13, 14, 15, 16, 17, 18, 19, 20, 21, 22, 23, 24, 25, 26, 27, 28], [0, 1, 2, 3, 4, 5, 6, 7, 8, 9, 10, 11, 12, 13, 14, 15, 16, 17, 18, 19, 20, 21, 22, 23, 24, 25, 26, 27, 28, 29], [0, 1, 2, 3, 4, 5, 6, 7, 8, 9, 10, 11, 12, 13, 14, 15, 16, 17, 18, 19, 20, 21, 22, 23, 24, 25, 26, 27, 28, 29, 30], [0, 1, 2, 3, 4, 5, 6, 7, 8, 9, 10, 11, 12, 13, 14, 15, 16, 17, 18, 19, 20, 21, 22, 23, 24, 25, 26, 27, 28, 29, 30, 31]] : List (List Nat)).getD i [] → ∀ v lo hi w w', PFh18 nk kc nv vc nd dc kl qc vl uc p g g3 g4 mk mv md ek ev ed sz mg mo n ka va da qa ua ma mc ea eb ec f k vL x y z i v lo hi w → GrowC (WFh18 nk kc nv vc nd dc kl qc vl uc p g g3 g4 mk mv md ek ev ed sz mg mo n ka va da qa ua ma mc ea eb ec f k vL x y z j) w w' → PFh18 nk kc nv vc nd dc kl qc vl uc p g g3 g4 mk mv md ek ev ed sz mg mo n ka va da qa ua ma mc ea eb ec f k vL x y z i v lo hi w' := by
  intro i j hi hj hne hbs v lo hj2 w w' h hg
  match i, hi with
  | 0, _ =>
    simp only [PFh18] at h ⊢
    exact h
  | 1, _ =>
    simp only [PFh18] at h ⊢
    exact h
  | 2, _ =>
    simp only [PFh18] at h ⊢
    exact h
  | 3, _ =>
    simp only [PFh18] at h ⊢
    exact h
  | 4, _ =>
    simp only [PFh18] at h ⊢
    exact h
  | 5, _ =>
    simp only [PFh18] at h ⊢
    exact h
  | 6, _ =>
    simp only [PFh18] at h ⊢
    exact h
  | 7, _ =>
    simp only [PFh18] at h ⊢
    exact h
  | 8, _ =>
    simp only [PFh18] at h ⊢
    exact h
  | 9, _ =>
    simp only [PFh18] at h ⊢
    exact h
  | 10, _ =>
    simp only [PFh18] at h ⊢
    exact h
  | 11, _ =>
    simp only [PFh18] at h ⊢
    exact h
  | 12, _ =>
    simp only [PFh18] at h ⊢
    exact h
  | 13, _ =>
    simp only [PFh18] at h ⊢
    exact h
  | 14, _ =>
    simp only [PFh18] at h ⊢
    exact h
  | 15, _ =>
    simp only [PFh18] at h ⊢
    exact h
  | 16, _ =>
    simp only [PFh18] at h ⊢
    exact h
  | 17, _ =>
    simp only [PFh18] at h ⊢
    exact h
  | 18, _ =>
    simp only [PFh18] at h ⊢
    exact h
  | 19, _ =>
    simp only [PFh18] at h ⊢
    exact h
  | 20, _ =>
    simp only [PFh18] at h ⊢
    exact h
  | 21, _ =>
    simp only [PFh18] at h ⊢
    exact h
  | 22, _ =>
    simp only [PFh18] at h ⊢
    exact h
  | 23, _ =>
    simp only [PFh18] at h ⊢
    exact h
  | 24, _ =>
    simp only [PFh18] at h ⊢
    exact h
  | 25, _ =>
    simp only [PFh18] at h ⊢
    exact h
  | 26, _ =>
    simp only [PFh18] at h ⊢
    exact h
  | 27, _ =>
    simp only [PFh18] at h ⊢
    exact h
  | 28, _ =>
    simp only [PFh18] at h ⊢
    exact h
  | 29, _ =>
    simp only [PFh18] at h ⊢
    exact h
  | 30, _ =>
    simp only [PFh18] at h ⊢
    exact h
  | 31, _ =>
    simp only [PFh18] at h ⊢
    exact h
  | 32, _ =>
    simp only [PFh18] at h ⊢
    exact h
  | (q + 33), hq => exact absurd hq (by omega)
def WFh21 (nk kc nv vc nd dc g g5 tk tv td : Nat) (n : Int) (ka va da ta tb tc : Option Addr) (x : Nd) (j b o : Nat) : Prop := False
def PFh21 (nk kc nv vc nd dc g g5 tk tv td : Nat) (n : Int) (ka va da ta tb tc : Option Addr) (x : Nd) (i : Nat) (v : Value) (lo hi : Nat) (w : World) : Prop :=
  match i with
  | 0 => v = .bool true
  | 1 => v = .bool true
  | 2 => v = undef
  | 3 => v = undef
  | 4 => v = undef
  | 5 => v = undef
  | 6 => v = undef
  | 7 => v = .bool true
  | 8 => v = .bool true
  | 9 => v = .bool true
  | 10 => v = .bool true
  | _ => True
theorem PFh21_stable (nk kc nv vc nd dc g g5 tk tv td : Nat) (n : Int) (ka va da ta tb tc : Option Addr) (x : Nd)  : ∀ i j, i < 11 → j < 11 → j ≠ i → j ∉ ([[], [0], [0, 1], [0, 1, 2], [0, 1], [0, 1, 2, 3, 4], [0, 1, 2, 3, 4, 5], [0, 1, 2, 3, 4, 5, 6], [0, 1, 2, 3, 4, 5, 6, 7], [0, 1, 2, 3, 4, 5, 6, 7, 8], [0, 1, 2, 3, 4, 5, 6, 7, 8, 9]] : List (List Nat)).getD i [] → ∀ v lo hi w w', PFh21 nk kc nv vc nd dc g g5 tk tv td n ka va da ta tb tc x i v lo hi w → GrowC (WFh21 nk kc nv vc nd dc g g5 tk tv td n ka va da ta tb tc x j) w w' → PFh21 nk kc nv vc nd dc g g5 tk tv td n ka va da ta tb tc x i v lo hi w' := by
  intro i j hi hj hne hbs v lo hj2 w w' h hg
  match i, hi with
  | 0, _ =>
    simp only [PFh21] at h ⊢
    exact h
  | 1, _ =>
    simp only [PFh21] at h ⊢
    exact h
  | 2, _ =>
    simp only [PFh21] at h ⊢
    exact h
  | 3, _ =>
    simp only [PFh21] at h ⊢
    exact h
  | 4, _ =>
    simp only [PFh21] at h ⊢
    exact h
  | 5, _ =>
    simp only [PFh21] at h ⊢
    exact h
  | 6, _ =>
    simp only [PFh21] at h ⊢
    exact h
  | 7, _ =>
    simp only [PFh21] at h ⊢
    exact h
  | 8, _ =>
    simp only [PFh21] at h ⊢
    exact h
  | 9, _ =>
    simp only [PFh21] at h ⊢
    exact h
  | 10, _ =>
    simp only [PFh21] at h ⊢
    exact h
  | (q + 11), hq => exact absurd hq (by omega)

set_option maxRecDepth 100000 in
set_option maxHeartbeats 12800000 in
theorem finds_has (x : Nd) (hsm : x.small) (hlf : x.leaf = true) (hft : x.Fit) (ks vs ds : Value) (k v : List UInt8) (hhas : fhas x.keys k = true) (kv vv : Value) (w : World) (hx : NodeAt w ks vs ds x) (hk : Reads 1 w kv k.length (k.map B)) (hv : Reads 1 w vv v.length (v.map B))
    (hkl : k.length ≤ 1048576) (hvl : v.length ≤ 1048576) (hk1 : x.keys.length + 1 ≤ 1048576) (hv1 : x.vals.length + 1 ≤ 1048576) (n : Int) (hn : x.next = n) :
    Calls Try.prog 7 #[.agg #[.bool true, ks, vs, ds, .int .i64 n], kv, vv] w fun e w' => e = .returned (.bool true) ∧ Below w.heap.size w w' := by
  have hf := hhas
  obtain ⟨p, hp⟩ : ∃ p, fpos x.keys k = p := ⟨_, rfl⟩
  obtain ⟨y, hy⟩ : ∃ y, x.put k v = y := ⟨_, rfl⟩
  obtain ⟨z, hz⟩ : ∃ z, x.del k = z := ⟨_, rfl⟩
  have hyl : y.leaf = true := by rw [← hy, Nd.put_leaf]; exact hlf
  have hyn : y.next = n := by rw [← hy, Nd.put_next]; exact hn
  have hzl : z.leaf = true := by rw [← hz, Nd.del_leaf]; exact hlf
  have hzn : z.next = n := by rw [← hz, Nd.del_next]; exact hn
  have hys : y.small := by rw [← hy]; exact hsm.put hk1 hv1 hkl hvl
  have hzs : z.small := by rw [← hz]; exact hsm.del k
  obtain ⟨mk, hmk⟩ : ∃ q, y.keys.length = q := ⟨_, rfl⟩
  obtain ⟨mv, hmv⟩ : ∃ q, y.vals.length = q := ⟨_, rfl⟩
  obtain ⟨md, hmd⟩ : ∃ q, y.kids.length = q := ⟨_, rfl⟩
  obtain ⟨ek, hek⟩ : ∃ q, z.keys.length = q := ⟨_, rfl⟩
  obtain ⟨ev, hev⟩ : ∃ q, z.vals.length = q := ⟨_, rfl⟩
  obtain ⟨ed, hed⟩ : ∃ q, z.kids.length = q := ⟨_, rfl⟩
  have hok : x.delOk k = true := (Nd.delOk_leaf k hlf hft.fits).trans hhas
  have hsize : psize x = rsize x x.keys.length := psize_eq hft.fits
  obtain ⟨sz, hsz0⟩ : ∃ q, psize x = q := ⟨_, rfl⟩
  have HHF := Lib.hid hf
  have HPP := Lib.hid hp
  have HY := Lib.hid hy
  have HZ := Lib.hid hz
  have HYL := Lib.hid hyl
  have HYN := Lib.hid hyn
  have HZL := Lib.hid hzl
  have HZN := Lib.hid hzn
  have HMK := Lib.hid hmk
  have HMV := Lib.hid hmv
  have HMD := Lib.hid hmd
  have HEK := Lib.hid hek
  have HEV := Lib.hid hev
  have HED := Lib.hid hed
  have HOK := Lib.hid hok
  have HSZ := Lib.hid hsz0
  have HSR := Lib.hid (hsize.symm.trans hsz0)
  obtain ⟨hyf, hyp, hyv⟩ := Nd.put_find (x := x) k v hlf hft.fits
  rw [hy] at hyf hyp hyv
  rw [hp] at hyp hyv
  have hgone : fhas z.keys k = false := by rw [← hz]; exact Nd.del_find k hlf hft.fits hft.1.2
  have hmlen : mk = x.keys.length + 0 := by rw [← hmk, ← hy, Nd.put_len k v hlf hft.fits, hhas]; rfl
  have HYF := Lib.hid hyf
  have HYP := Lib.hid hyp
  have HYV := Lib.hid hyv
  have HGONE := Lib.hid hgone
  have HMLEN := Lib.hid hmlen
  obtain ⟨zp, hzp⟩ : ∃ q, fpos z.keys k = q := ⟨_, rfl⟩
  have HZP := Lib.hid hzp
  have helen : ek = x.keys.length - 1 := by rw [← hek, ← hz, Nd.del_yes hok]; show (x.keys.eraseIdx _).length = _; rw [List.length_eraseIdx, if_pos (fhas_lt hhas).1]
  have HELEN := Lib.hid helen
  have hkpos := (fhas_lt hhas).1
  have HKPOS := Lib.hid hkpos
  clear helen hkpos
  clear hyf hyp hyv hgone hmlen hzp hhas
  clear hf hp hy hz hyl hyn hzl hzn hmk hmv hmd hek hev hed hok hsize hsz0
  obtain ⟨_, ⟨ka, kc, rfl, _⟩, _⟩ := id hx.keys
  obtain ⟨_, ⟨va, vc, rfl, _⟩, _⟩ := id hx.vals
  obtain ⟨da, dc, rfl⟩ := hx.kids.shape
  obtain ⟨qa, qc, rfl⟩ := hk.shape
  obtain ⟨ua, uc, rfl⟩ := hv.shape
  obtain ⟨nk, hnk⟩ : ∃ nk, x.keys.length = nk := ⟨_, rfl⟩
  obtain ⟨nv, hnv⟩ : ∃ nv, x.vals.length = nv := ⟨_, rfl⟩
  obtain ⟨nd, hnd⟩ : ∃ nd, x.kids.length = nd := ⟨_, rfl⟩
  obtain ⟨kl, hkl2⟩ : ∃ q, k.length = q := ⟨_, rfl⟩
  obtain ⟨vl, hvl2⟩ : ∃ q, v.length = q := ⟨_, rfl⟩
  have hkm : nk + 1 ≤ 1048576 := hnk ▸ hk1
  have hvm : nv + 1 ≤ 1048576 := hnv ▸ hv1
  have hdm : nd ≤ 1048577 := hnd ▸ hsm.kids
  have HKQ := Lib.hid hkl
  have HVQ := Lib.hid hvl
  have HK1 := Lib.hid hk1
  have HV1 := Lib.hid hv1
  have hbase : ∀ u, Below w.heap.size w u → Reads 1 u (.slice qa k.length qc) k.length (k.map B) ∧ Reads 1 u (.slice ua v.length uc) v.length (v.map B) := fun u hb => ⟨hk.below hb (Nat.le_refl _), hv.below hb (Nat.le_refl _)⟩
  simp only [hnk, hnv, hnd, hkl2, hvl2] at hx hk hv hkl hvl hbase ⊢
  obtain ⟨g, hg0⟩ : ∃ g, w.heap.size = g := ⟨_, rfl⟩
  have ba := Box.new w #[.bool true, .slice ka nk kc, .slice va nv vc, .slice da nd dc, .int .i64 n] 25 hg0.symm
  have hB := (Below.refl w.heap.size w).alloc (Nat.le_refl _) (.cells #[.bool true, .slice ka nk kc, .slice va nv vc, .slice da nd dc, .int .i64 n] 25)
  have hs0 : g + 1 ≤ (w.alloc (.cells #[.bool true, .slice ka nk kc, .slice va nv vc, .slice da nd dc, .int .i64 n] 25)).heap.size := by simp; omega
  have hx0 := hx.below hB (Nat.le_refl _)
  have HW := Lib.hid (And.intro ba (And.intro hB (And.intro hx0 hs0)))
  have HG := Lib.hid hg0
  have HBASE := Lib.hid hbase
  have HNK := Lib.hid hnk
  have HNV := Lib.hid hnv
  have HND := Lib.hid hnd
  have HKL := Lib.hid hkl2
  have HVL := Lib.hid hvl2
  have HLF := Lib.hid hlf
  have HN := Lib.hid hn
  have HF := Lib.hid hft
  clear hx hk hv hnk hnv hnd hkl2 hvl2 hk1 hv1 hbase ba hB hs0 hx0 hg0 hlf hn hft
  go_enter Try.func7, Try.ntmps7
  go_wp2_with fail
  have hgw : w.heap.size ≤ g := Nat.le_of_eq HG.out
  rw [HG.out]
  refine calls_world (fun u => Box u g [.bool true, .slice ka nk kc, .slice va nv vc, .slice da nd dc, .int .i64 n] ∧ Below w.heap.size w u ∧ NodeAt u (.slice ka nk kc) (.slice va nv vc) (.slice da nd dc) x ∧ g + 1 ≤ u.heap.size) HW.out ?_
  clear HW
  rintro w1 ⟨ba, hB, hx, hs⟩
  have HX := Lib.hid hx
  clear hx
  refine (lfit_any x hsm _ _ _ w1 HX.out true n HLF.out HN.out).mono ?_
  rintro e w2 ⟨r, rfl, hr, hb2⟩
  obtain rfl : r = true := hr.2 HF.out
  clear hr
  replace ba := ba.below hb2 (Nat.le_refl _)
  replace hB := hB.trans (hb2.mono (by omega))
  replace HX := Lib.hid (HX.out.below hb2 (Nat.le_refl _))
  replace hs := Nat.le_trans hs hb2.size
  clear hb2
  have ca0 := ba.cell 0 _ rfl
  have ca1 := ba.cell 1 _ rfl
  have ca2 := ba.cell 2 _ rfl
  have ca3 := ba.cell 3 _ rfl
  have ca4 := ba.cell 4 _ rfl
  have fa := ba.free
  go_wp2_with fail
  clear ca0 ca1 ca2 ca3 ca4 fa
  have hkb := HBASE.out w2 hB
  refine (find_any x.keys true n (.slice ka nk kc) (.slice va nv vc) (.slice da nd dc) (.slice qa kl qc) rfl rfl k kl w2 HX.out.keys hkb.1 (by rw [HNK.out]; omega)).mono ?_
  rintro e w3 ⟨rfl, hb3⟩
  rw [HPP.out, HHF.out]
  clear hkb
  replace ba := ba.below hb3 (Nat.le_refl _)
  replace hB := hB.trans (hb3.mono (by omega))
  replace HX := Lib.hid (HX.out.below hb3 (Nat.le_refl _))
  replace hs := Nat.le_trans hs hb3.size
  clear hb3
  go_wp2_with fail
  have hgu : g < w3.heap.size := by omega
  refine wp_region_partsDC (WFh4 nk kc nv vc nd dc kl qc p g n ka va da qa true k x) 9 [[], [0], [], [2], [0, 1, 2, 3], [0, 1, 2, 3, 4], [0, 1, 2, 3, 4, 5], [0, 1, 2, 3, 4, 5], [0, 1, 2, 3, 4, 5, 6]] [some 32, some 33, some 34, some 35, some 36, some 31, some 37, some 38, some 9, some 10] (by kernel_rfl) (by kernel_rfl) rfl (PFh4 nk kc nv vc nd dc kl qc p g n ka va da qa true k x) (PFh4_stable nk kc nv vc nd dc kl qc p g n ka va da qa true k x ) ?pFh4 ?_
  case pFh4 =>
    intro i hi o ho vs lo hx_ w' hg hp
    match i, hi with
    | 0, _ =>
      obtain rfl := Option.some.inj ho
      clear ho
      simp only [actsD, List.getD_cons_zero, List.getD_cons_succ, List.foldl_cons, List.foldl_nil, Act.put, List.setIfInBounds_toArray, List.set_cons_succ, List.set_cons_zero]
      have hsz := hg.size
      have hgB : Below w3.heap.size w3 w' := hg.below (fun k hk => ⟨hk, fun o => by rintro ⟨j, _, _, _, hw⟩; exact False.elim hw⟩)
      have e0 := (hg.cell (g) 0 ba.lt (by rintro ⟨j, _, hne, hb, hw⟩; exact False.elim hw)).trans (ba.cell 0 _ rfl)
      have e1 := (hg.cell (g) 1 ba.lt (by rintro ⟨j, _, hne, hb, hw⟩; exact False.elim hw)).trans (ba.cell 1 _ rfl)
      have e2 := (hg.cell (g) 2 ba.lt (by rintro ⟨j, _, hne, hb, hw⟩; exact False.elim hw)).trans (ba.cell 2 _ rfl)
      have e3 := (hg.cell (g) 3 ba.lt (by rintro ⟨j, _, hne, hb, hw⟩; exact False.elim hw)).trans (ba.cell 3 _ rfl)
      have e4 := (hg.cell (g) 4 ba.lt (by rintro ⟨j, _, hne, hb, hw⟩; exact False.elim hw)).trans (ba.cell 4 _ rfl)
      go_wp2
      exact ⟨_, rfl, GrowC.refl _, rfl⟩
    | 1, _ =>
      obtain rfl := Option.some.inj ho
      clear ho
      simp only [actsD, List.getD_cons_zero, List.getD_cons_succ, List.foldl_cons, List.foldl_nil, Act.put, List.setIfInBounds_toArray, List.set_cons_succ, List.set_cons_zero]
      obtain ⟨_, _, _, h0⟩ := hp 0 (by simp)
      simp only [PFh4] at h0
      have hsz := hg.size
      have hgB : Below w3.heap.size w3 w' := hg.below (fun k hk => ⟨hk, fun o => by rintro ⟨j, _, _, _, hw⟩; exact False.elim hw⟩)
      rw [h0]
      go_wp2_with fail
      refine (to_small _ _ _ _ _ (HX.out.below hgB (Nat.le_refl _)) hsm true n HLF.out HN.out).mono ?_
      rintro e wz ⟨r1, r2, rfl, hr, hb⟩
      go_wp2
      exact ⟨_, rfl, GrowC.of_grow hb, r1, r2, rfl, hr⟩
    | 2, _ =>
      obtain rfl := Option.some.inj ho
      clear ho
      simp only [actsD, List.getD_cons_zero, List.getD_cons_succ, List.foldl_cons, List.foldl_nil, Act.put, List.setIfInBounds_toArray, List.set_cons_succ, List.set_cons_zero]
      have hsz := hg.size
      have hgB : Below w3.heap.size w3 w' := hg.below (fun k hk => ⟨hk, fun o => by rintro ⟨j, _, _, _, hw⟩; exact False.elim hw⟩)
      go_wp2
      exact ⟨_, rfl, GrowC.refl _, rfl⟩
    | 3, _ =>
      obtain rfl := Option.some.inj ho
      clear ho
      simp only [actsD, List.getD_cons_zero, List.getD_cons_succ, List.foldl_cons, List.foldl_nil, Act.put, List.setIfInBounds_toArray, List.set_cons_succ, List.set_cons_zero]
      obtain ⟨_, _, _, h2⟩ := hp 2 (by simp)
      simp only [PFh4] at h2
      have hsz := hg.size
      have hgB : Below w3.heap.size w3 w' := hg.below (fun k hk => ⟨hk, fun o => by rintro ⟨j, _, _, _, hw⟩; exact False.elim hw⟩)
      rw [h2]
      have hkb := HBASE.out w' (hB.trans (hgB.mono (by have := hB.size; omega)))
      have cv := run_str_reads (P := Try.prog) (src := 28) (dst := 9) Try.underlying28 Try.underlying5 Try.underlying9 _ hkb.1
      clear hkb
      go_wp2
      exact ⟨_, rfl, GrowC.refl _, rfl⟩
    | 4, _ =>
      obtain rfl := Option.some.inj ho
      clear ho
      simp only [actsD, List.getD_cons_zero, List.getD_cons_succ, List.foldl_cons, List.foldl_nil, Act.put, List.setIfInBounds_toArray, List.set_cons_succ, List.set_cons_zero]
      obtain ⟨_, _, _, h1⟩ := hp 1 (by simp)
      simp only [PFh4] at h1
      obtain ⟨_, _, _, h3⟩ := hp 3 (by simp)
      simp only [PFh4] at h3
      have hsz := hg.size
      have hgB : Below w3.heap.size w3 w' := hg.below (fun k hk => ⟨hk, fun o => by rintro ⟨j, _, _, _, hw⟩; exact False.elim hw⟩)
      obtain ⟨r1, r2, h1, hr1⟩ := h1
      obtain ⟨ra1, ra2, rfl⟩ := hr1.keys.shape
      obtain ⟨rb1, rb2, rfl⟩ := hr1.vals.shape
      rw [h1, h3]
      go_wp2_with fail
      refine (rfind_any x.keys true n _ _ _ rfl rfl k w' hr1.keys (by rw [HNK.out]; omega)).mono ?_
      rintro e wz ⟨rfl, hb⟩
      rw [HPP.out, HHF.out]
      go_wp2
      exact ⟨_, rfl, GrowC.of_grow hb, rfl⟩
    | 5, _ =>
      obtain rfl := Option.some.inj ho
      clear ho
      simp only [actsD, List.getD_cons_zero, List.getD_cons_succ, List.foldl_cons, List.foldl_nil, Act.put, List.setIfInBounds_toArray, List.set_cons_succ, List.set_cons_zero]
      obtain ⟨_, _, _, h4⟩ := hp 4 (by simp)
      simp only [PFh4] at h4
      have hsz := hg.size
      have hgB : Below w3.heap.size w3 w' := hg.below (fun k hk => ⟨hk, fun o => by rintro ⟨j, _, _, _, hw⟩; exact False.elim hw⟩)
      rw [h4]
      go_wp2
      exact ⟨_, rfl, GrowC.refl _, rfl⟩
    | 6, _ =>
      obtain rfl := Option.some.inj ho
      clear ho
      simp only [actsD, List.getD_cons_zero, List.getD_cons_succ, List.foldl_cons, List.foldl_nil, Act.put, List.setIfInBounds_toArray, List.set_cons_succ, List.set_cons_zero]
      obtain ⟨_, _, _, h5⟩ := hp 5 (by simp)
      simp only [PFh4] at h5
      have hsz := hg.size
      have hgB : Below w3.heap.size w3 w' := hg.below (fun k hk => ⟨hk, fun o => by rintro ⟨j, _, _, _, hw⟩; exact False.elim hw⟩)
      rw [h5]
      go_wp2
      exact ⟨_, rfl, GrowC.refl _, rfl⟩
    | 7, _ =>
      obtain rfl := Option.some.inj ho
      clear ho
      simp only [actsD, List.getD_cons_zero, List.getD_cons_succ, List.foldl_cons, List.foldl_nil, Act.put, List.setIfInBounds_toArray, List.set_cons_succ, List.set_cons_zero]
      obtain ⟨_, _, _, h5⟩ := hp 5 (by simp)
      simp only [PFh4] at h5
      have hsz := hg.size
      have hgB : Below w3.heap.size w3 w' := hg.below (fun k hk => ⟨hk, fun o => by rintro ⟨j, _, _, _, hw⟩; exact False.elim hw⟩)
      rw [h5]
      go_wp2
      exact ⟨_, rfl, GrowC.refl _, rfl⟩
    | 8, _ =>
      obtain rfl := Option.some.inj ho
      clear ho
      simp only [actsD, List.getD_cons_zero, List.getD_cons_succ, List.foldl_cons, List.foldl_nil, Act.put, List.setIfInBounds_toArray, List.set_cons_succ, List.set_cons_zero]
      obtain ⟨_, _, _, h6⟩ := hp 6 (by simp)
      simp only [PFh4] at h6
      have hsz := hg.size
      have hgB : Below w3.heap.size w3 w' := hg.below (fun k hk => ⟨hk, fun o => by rintro ⟨j, _, _, _, hw⟩; exact False.elim hw⟩)
      rw [h6]
      go_wp2
      exact ⟨_, rfl, GrowC.refl _, rfl⟩
    | (q + 9), hq => exact absurd hq (by omega)
  intro vS lo hi w4 hg hp hd
  obtain ⟨_, _, _, h0⟩ := hp 0 (by omega)
  obtain ⟨_, _, _, h1⟩ := hp 1 (by omega)
  obtain ⟨_, _, _, h2⟩ := hp 2 (by omega)
  obtain ⟨_, _, _, h3⟩ := hp 3 (by omega)
  obtain ⟨_, _, _, h4⟩ := hp 4 (by omega)
  obtain ⟨_, _, _, h5⟩ := hp 5 (by omega)
  obtain ⟨_, _, _, h6⟩ := hp 6 (by omega)
  obtain ⟨_, _, _, h7⟩ := hp 7 (by omega)
  obtain ⟨_, _, _, h8⟩ := hp 8 (by omega)
  simp only [PFh4] at h0 h1 h2 h3 h4 h5 h6 h7 h8
  clear hp hd
  have hsz := hg.size
  replace ba := ba.grow hg (by intro i _; rintro ⟨j, _, hw⟩; exact False.elim hw)
  replace hB := hB.trans (hg.below (fun k hk => ⟨by omega, fun o => by rintro ⟨j, _, hw⟩; exact False.elim hw⟩))
  have hr : List.range 9 = [0, 1, 2, 3, 4, 5, 6, 7, 8] := rfl
  rw [hr]
  clear hr
  simp only [List.drop_succ_cons, List.drop_zero, List.drop_nil, actsD, List.getD_cons_zero, List.getD_cons_succ, List.foldl_cons, List.foldl_nil, Act.put, List.setIfInBounds_toArray, List.set_cons_succ, List.set_cons_zero, h0, h2, h3, h4, h5, h6, h7, h8]
  clear h0 h2 h3 h4 h5 h6 h7 h8
  have hb4 : Below w3.heap.size w3 w4 := hg.below (fun k hk => ⟨hk, fun o => by rintro ⟨j, _, hw⟩; exact hw⟩)
  replace HX := Lib.hid (HX.out.below hb4 (Nat.le_refl _))
  replace hs := Nat.le_trans hs hb4.size
  clear h1 hg hb4 hsz hgu
  have ca0 := ba.cell 0 _ rfl
  have ca1 := ba.cell 1 _ rfl
  have ca2 := ba.cell 2 _ rfl
  have ca3 := ba.cell 3 _ rfl
  have ca4 := ba.cell 4 _ rfl
  have fa := ba.free
  go_wp2_with fail
  clear ca0 ca1 ca2 ca3 ca4 fa
  have hkb := HBASE.out w4 hB
  have hput := put_any x hsm (.slice ka nk kc) (.slice va nv vc) (.slice da nd dc) k v (.slice qa kl qc) (.slice ua vl uc) w4 HX.out (by rw [HKL.out]; exact hkb.1) (by rw [HVL.out]; exact hkb.2) HKQ.out HVQ.out
  rw [HLF.out, HN.out] at hput
  refine hput.mono ?_
  rintro e w5 ⟨r, rfl, ma, mb, mc, rfl, hky, hb5⟩
  clear hput hkb
  rw [HY.out, HMK.out, HMV.out, HMD.out] at hky
  simp only [nodeV, HY.out, HYL.out, HYN.out, HMK.out, HMV.out, HMD.out]
  replace hky := hky.now.node
  obtain ⟨mg, mo, mq, s0, c0, he, hmc, hmg, hmr⟩ := hky.vals.at' p v HYV.out
  obtain rfl := (Value.slice.inj he).1
  rw [HVL.out] at hmc hmr
  clear he
  replace ba := ba.below hb5 (Nat.le_refl _)
  replace hB := hB.trans (hb5.mono (by omega))
  replace HX := Lib.hid (HX.out.below hb5 (Nat.le_refl _))
  replace hs := Nat.le_trans hs hb5.size
  clear hb5
  obtain ⟨g3, hg3⟩ : ∃ g3, w5.heap.size = g3 := ⟨_, rfl⟩
  have bm := Box.new w5 #[.bool true, .slice ma mk mk, .slice (some ⟨mg, mo, none⟩) mv mv, .slice mc md md, .int .i64 n] 25 hg3.symm
  have hgr := (Below.refl w5.heap.size w5).alloc (Nat.le_refl _) (.cells #[.bool true, .slice ma mk mk, .slice (some ⟨mg, mo, none⟩) mv mv, .slice mc md md, .int .i64 n] 25)
  have h3g : g < g3 := by omega
  have hlt0 := ba.lt
  have HG3 := Lib.hid hg3
  have hs3 : g3 + 1 ≤ (w5.alloc (.cells #[.bool true, .slice ma mk mk, .slice (some ⟨mg, mo, none⟩) mv mv, .slice mc md md, .int .i64 n] 25)).heap.size := by simp; omega
  have HW := Lib.hid (And.intro (ba.below hgr (Nat.le_refl _)) (And.intro bm (And.intro (hB.trans (hgr.mono (by omega))) (And.intro (HX.out.below hgr (Nat.le_refl _)) (And.intro (hky.below hgr (Nat.le_refl _)) (And.intro ((hgr.cell (p := ⟨mg, mo + p, none⟩) hmg).trans hmc) (And.intro (hmr.below hgr (Nat.le_refl _)) (And.intro (Nat.lt_of_lt_of_le hmg hgr.size) hs3))))))))
  clear bm hgr hg3 hky hB HX hs3 hs
  clear hmc hmr hmg
  have ca0 := ba.cell 0 _ rfl
  have ca1 := ba.cell 1 _ rfl
  have ca2 := ba.cell 2 _ rfl
  have ca3 := ba.cell 3 _ rfl
  have ca4 := ba.cell 4 _ rfl
  have fa := ba.free
  go_wp2_with fail
  clear ca0 ca1 ca2 ca3 ca4 fa
  clear ba hlt0
  rw [HG3.out]
  refine calls_world (fun u => Box u g [.bool true, .slice ka nk kc, .slice va nv vc, .slice da nd dc, .int .i64 n] ∧ Box u g3 [.bool true, .slice ma mk mk, .slice (some ⟨mg, mo, none⟩) mv mv, .slice mc md md, .int .i64 n] ∧ Below w.heap.size w u ∧ NodeAt u (.slice ka nk kc) (.slice va nv vc) (.slice da nd dc) x ∧ NodeAt u (.slice ma mk mk) (.slice (some ⟨mg, mo, none⟩) mv mv) (.slice mc md md) y ∧ u.cell? ⟨mg, mo + p, none⟩ = some (.slice s0 vl c0) ∧ Reads 1 u (.slice s0 vl c0) vl (v.map B) ∧ mg < u.heap.size ∧ g3 + 1 ≤ u.heap.size) HW.out ?_
  clear HW
  rintro w6 ⟨ba, bm, hB, hx, hy, hmc, hmr, hmg, hs⟩
  have HX := Lib.hid hx
  have HYAT := Lib.hid hy
  have HMC := Lib.hid hmc
  have HMR := Lib.hid hmr
  clear hmc hmr
  clear hx hy
  have hkb := HBASE.out w6 hB
  have hdel := del_any x hsm (.slice ka nk kc) (.slice va nv vc) (.slice da nd dc) k (.slice qa kl qc) w6 HX.out (by rw [HKL.out]; exact hkb.1) HKQ.out
  rw [HLF.out, HN.out, HOK.out] at hdel
  refine hdel.mono ?_
  rintro e w7 ⟨r, rfl, ea, eb, ec, rfl, hkz, hb7⟩
  clear hdel hkb
  rw [HZ.out, HEK.out, HEV.out, HED.out] at hkz
  simp only [nodeV, HZ.out, HZL.out, HZN.out, HEK.out, HEV.out, HED.out]
  replace hkz := hkz.now.node
  have hmc7 := (hb7.cell (p := ⟨mg, mo + p, none⟩) hmg).trans HMC.out
  replace HMC := Lib.hid hmc7
  replace HMR := Lib.hid (HMR.out.below hb7 (Nat.le_refl _))
  replace hmg := Nat.lt_of_lt_of_le hmg hb7.size
  clear hmc7
  replace ba := ba.below hb7 (Nat.le_refl _)
  replace bm := bm.below hb7 (Nat.le_refl _)
  replace hB := hB.trans (hb7.mono (by omega))
  replace HX := Lib.hid (HX.out.below hb7 (Nat.le_refl _))
  replace HYAT := Lib.hid (HYAT.out.below hb7 (Nat.le_refl _))
  replace hs := Nat.le_trans hs hb7.size
  clear hb7
  obtain ⟨g4, hg4⟩ : ∃ g4, w7.heap.size = g4 := ⟨_, rfl⟩
  have bd := Box.new w7 #[.bool true, .slice ea ek ek, .slice eb ev ev, .slice ec ed ed, .int .i64 n] 25 hg4.symm
  have hgr := (Below.refl w7.heap.size w7).alloc (Nat.le_refl _) (.cells #[.bool true, .slice ea ek ek, .slice eb ev ev, .slice ec ed ed, .int .i64 n] 25)
  have h4g : g3 < g4 := by omega
  have hlt0 := ba.lt
  have hlt1 := bm.lt
  have HG4 := Lib.hid hg4
  have hs4 : g4 + 1 ≤ (w7.alloc (.cells #[.bool true, .slice ea ek ek, .slice eb ev ev, .slice ec ed ed, .int .i64 n] 25)).heap.size := by simp; omega
  have HW := Lib.hid (And.intro (ba.below hgr (Nat.le_refl _)) (And.intro (bm.below hgr (Nat.le_refl _)) (And.intro bd (And.intro (hB.trans (hgr.mono (by omega))) (And.intro (HX.out.below hgr (Nat.le_refl _)) (And.intro (HYAT.out.below hgr (Nat.le_refl _)) (And.intro (hkz.below hgr (Nat.le_refl _)) (And.intro ((hgr.cell (p := ⟨mg, mo + p, none⟩) hmg).trans HMC.out) (And.intro (HMR.out.below hgr (Nat.le_refl _)) (And.intro (Nat.lt_of_lt_of_le hmg hgr.size) hs4))))))))))
  clear bd hgr hg4 hkz hB HX HYAT hs4 hs
  clear HMC HMR hmg
  have ca0 := ba.cell 0 _ rfl
  have ca1 := ba.cell 1 _ rfl
  have ca2 := ba.cell 2 _ rfl
  have ca3 := ba.cell 3 _ rfl
  have ca4 := ba.cell 4 _ rfl
  have fa := ba.free
  have cm0 := bm.cell 0 _ rfl
  have cm1 := bm.cell 1 _ rfl
  have cm2 := bm.cell 2 _ rfl
  have cm3 := bm.cell 3 _ rfl
  have cm4 := bm.cell 4 _ rfl
  have fm := bm.free
  go_wp2_with fail
  clear ca0 ca1 ca2 ca3 ca4 fa
  clear cm0 cm1 cm2 cm3 cm4 fm
  clear ba bm hlt0 hlt1
  rw [HG4.out]
  refine wp_world (fun u => Box u g [.bool true, .slice ka nk kc, .slice va nv vc, .slice da nd dc, .int .i64 n] ∧ Box u g3 [.bool true, .slice ma mk mk, .slice (some ⟨mg, mo, none⟩) mv mv, .slice mc md md, .int .i64 n] ∧ Box u g4 [.bool true, .slice ea ek ek, .slice eb ev ev, .slice ec ed ed, .int .i64 n] ∧ Below w.heap.size w u ∧ NodeAt u (.slice ka nk kc) (.slice va nv vc) (.slice da nd dc) x ∧ NodeAt u (.slice ma mk mk) (.slice (some ⟨mg, mo, none⟩) mv mv) (.slice mc md md) y ∧ NodeAt u (.slice ea ek ek) (.slice eb ev ev) (.slice ec ed ed) z ∧ u.cell? ⟨mg, mo + p, none⟩ = some (.slice s0 vl c0) ∧ Reads 1 u (.slice s0 vl c0) vl (v.map B) ∧ mg < u.heap.size ∧ g4 + 1 ≤ u.heap.size) HW.out ?_
  clear HW
  rintro w8 ⟨ba, bm, bd, hB, hx, hy, hz, hmc, hmr, hmg, hs⟩
  have HX := Lib.hid hx
  have HYAT := Lib.hid hy
  have HZAT := Lib.hid hz
  clear hx hy hz
  have HMC := Lib.hid hmc
  have HMR := Lib.hid hmr
  clear hmc hmr
  refine wp_region_partsDC (WFh7 nk kc nv vc nd dc kl qc vl uc p g g3 g4 mk mv md ek ev ed sz mg mo n ka va da qa ua ma mc ea eb ec true k v x y z) 16 [[], [], [0, 1], [0, 1, 2], [0, 1, 2, 3], [0, 1, 2, 3], [0, 1, 2, 3, 4, 5], [0, 1, 2, 3, 4, 5, 6], [0, 1, 2, 3, 4, 5, 6, 7], [0, 1, 2, 3, 4, 5, 6, 7, 8], [0, 1, 2, 3, 4, 5, 6, 7, 8, 9], [0, 1, 2, 3, 4, 5, 6, 7, 8], [0, 1, 2, 3, 4, 5, 6, 7, 8, 9, 10, 11], [0, 1, 2, 3, 4, 5, 6, 7, 8, 9, 10, 11, 12], [0, 1, 2, 3, 4, 5, 6, 7, 8, 9, 10, 11, 12, 13], [0, 1, 2, 3, 4, 5, 6, 7, 8, 9, 10, 11, 12, 13, 14]] [some 49, some 50, some 51, some 52, some 53, some 54, some 55, some 56, some 57, some 58, some 59, some 60, some 61, some 62, some 63, some 64] (by kernel_rfl) (by kernel_rfl) rfl (PFh7 nk kc nv vc nd dc kl qc vl uc p g g3 g4 mk mv md ek ev ed sz mg mo n ka va da qa ua ma mc ea eb ec true k v x y z) (PFh7_stable nk kc nv vc nd dc kl qc vl uc p g g3 g4 mk mv md ek ev ed sz mg mo n ka va da qa ua ma mc ea eb ec true k v x y z ) ?pFh7 ?_
  case pFh7 =>
    intro i hi o ho vs lo hx_ w' hg hp
    match i, hi with
    | 0, _ =>
      obtain rfl := Option.some.inj ho
      clear ho
      simp only [actsD, List.getD_cons_zero, List.getD_cons_succ, List.foldl_cons, List.foldl_nil, Act.put, List.setIfInBounds_toArray, List.set_cons_succ, List.set_cons_zero]
      have hsz := hg.size
      have hgB : Below w8.heap.size w8 w' := hg.below (fun k hk => ⟨hk, fun o => by rintro ⟨j, _, _, _, hw⟩; exact False.elim hw⟩)
      go_wp2
      exact ⟨_, rfl, GrowC.refl _, rfl⟩
    | 1, _ =>
      obtain rfl := Option.some.inj ho
      clear ho
      simp only [actsD, List.getD_cons_zero, List.getD_cons_succ, List.foldl_cons, List.foldl_nil, Act.put, List.setIfInBounds_toArray, List.set_cons_succ, List.set_cons_zero]
      have hsz := hg.size
      have hgB : Below w8.heap.size w8 w' := hg.below (fun k hk => ⟨hk, fun o => by rintro ⟨j, _, _, _, hw⟩; exact False.elim hw⟩)
      go_wp2
      exact ⟨_, rfl, GrowC.refl _, rfl⟩
    | 2, _ =>
      obtain rfl := Option.some.inj ho
      clear ho
      simp only [actsD, List.getD_cons_zero, List.getD_cons_succ, List.foldl_cons, List.foldl_nil, Act.put, List.setIfInBounds_toArray, List.set_cons_succ, List.set_cons_zero]
      obtain ⟨_, _, _, h0⟩ := hp 0 (by simp)
      simp only [PFh7] at h0
      obtain ⟨_, _, _, h1⟩ := hp 1 (by simp)
      simp only [PFh7] at h1
      have hsz := hg.size
      have hgB : Below w8.heap.size w8 w' := hg.below (fun k hk => ⟨hk, fun o => by rintro ⟨j, _, _, _, hw⟩; exact False.elim hw⟩)
      rw [h0, h1]
      go_wp2
      exact ⟨_, rfl, GrowC.refl _, rfl⟩
    | 3, _ =>
      obtain rfl := Option.some.inj ho
      clear ho
      simp only [actsD, List.getD_cons_zero, List.getD_cons_succ, List.foldl_cons, List.foldl_nil, Act.put, List.setIfInBounds_toArray, List.set_cons_succ, List.set_cons_zero]
      obtain ⟨_, _, _, h2⟩ := hp 2 (by simp)
      simp only [PFh7] at h2
      have hsz := hg.size
      have hgB : Below w8.heap.size w8 w' := hg.below (fun k hk => ⟨hk, fun o => by rintro ⟨j, _, _, _, hw⟩; exact False.elim hw⟩)
      rw [h2]
      go_wp2
      exact ⟨_, rfl, GrowC.refl _, rfl⟩
    | 4, _ =>
      obtain rfl := Option.some.inj ho
      clear ho
      simp only [actsD, List.getD_cons_zero, List.getD_cons_succ, List.foldl_cons, List.foldl_nil, Act.put, List.setIfInBounds_toArray, List.set_cons_succ, List.set_cons_zero]
      obtain ⟨_, _, _, h3⟩ := hp 3 (by simp)
      simp only [PFh7] at h3
      have hsz := hg.size
      have hgB : Below w8.heap.size w8 w' := hg.below (fun k hk => ⟨hk, fun o => by rintro ⟨j, _, _, _, hw⟩; exact False.elim hw⟩)
      rw [h3]
      go_wp2
      exact ⟨_, rfl, GrowC.refl _, rfl⟩
    | 5, _ =>
      obtain rfl := Option.some.inj ho
      clear ho
      simp only [actsD, List.getD_cons_zero, List.getD_cons_succ, List.foldl_cons, List.foldl_nil, Act.put, List.setIfInBounds_toArray, List.set_cons_succ, List.set_cons_zero]
      obtain ⟨_, _, _, h3⟩ := hp 3 (by simp)
      simp only [PFh7] at h3
      have hsz := hg.size
      have hgB : Below w8.heap.size w8 w' := hg.below (fun k hk => ⟨hk, fun o => by rintro ⟨j, _, _, _, hw⟩; exact False.elim hw⟩)
      rw [h3]
      go_wp2
      exact ⟨_, rfl, GrowC.refl _, rfl⟩
    | 6, _ =>
      obtain rfl := Option.some.inj ho
      clear ho
      simp only [actsD, List.getD_cons_zero, List.getD_cons_succ, List.foldl_cons, List.foldl_nil, Act.put, List.setIfInBounds_toArray, List.set_cons_succ, List.set_cons_zero]
      obtain ⟨_, _, _, h3⟩ := hp 3 (by simp)
      simp only [PFh7] at h3
      obtain ⟨_, _, _, h4⟩ := hp 4 (by simp)
      simp only [PFh7] at h4
      obtain ⟨_, _, _, h5⟩ := hp 5 (by simp)
      simp only [PFh7] at h5
      have hsz := hg.size
      have hgB : Below w8.heap.size w8 w' := hg.below (fun k hk => ⟨hk, fun o => by rintro ⟨j, _, _, _, hw⟩; exact False.elim hw⟩)
      rw [h3, h4, h5]
      go_wp2
      exact ⟨_, rfl, GrowC.refl _, rfl⟩
    | 7, _ =>
      obtain rfl := Option.some.inj ho
      clear ho
      simp only [actsD, List.getD_cons_zero, List.getD_cons_succ, List.foldl_cons, List.foldl_nil, Act.put, List.setIfInBounds_toArray, List.set_cons_succ, List.set_cons_zero]
      obtain ⟨_, _, _, h3⟩ := hp 3 (by simp)
      simp only [PFh7] at h3
      obtain ⟨_, _, _, h6⟩ := hp 6 (by simp)
      simp only [PFh7] at h6
      have hsz := hg.size
      have hgB : Below w8.heap.size w8 w' := hg.below (fun k hk => ⟨hk, fun o => by rintro ⟨j, _, _, _, hw⟩; exact False.elim hw⟩)
      rw [h3, h6]
      go_wp2
      exact ⟨_, rfl, GrowC.refl _, rfl⟩
    | 8, _ =>
      obtain rfl := Option.some.inj ho
      clear ho
      simp only [actsD, List.getD_cons_zero, List.getD_cons_succ, List.foldl_cons, List.foldl_nil, Act.put, List.setIfInBounds_toArray, List.set_cons_succ, List.set_cons_zero]
      obtain ⟨_, _, _, h7⟩ := hp 7 (by simp)
      simp only [PFh7] at h7
      have hsz := hg.size
      have hgB : Below w8.heap.size w8 w' := hg.below (fun k hk => ⟨hk, fun o => by rintro ⟨j, _, _, _, hw⟩; exact False.elim hw⟩)
      rw [h7]
      go_wp2
      exact ⟨_, rfl, GrowC.refl _, rfl⟩
    | 9, _ =>
      obtain rfl := Option.some.inj ho
      clear ho
      simp only [actsD, List.getD_cons_zero, List.getD_cons_succ, List.foldl_cons, List.foldl_nil, Act.put, List.setIfInBounds_toArray, List.set_cons_succ, List.set_cons_zero]
      obtain ⟨_, _, _, h8⟩ := hp 8 (by simp)
      simp only [PFh7] at h8
      have hsz := hg.size
      have hgB : Below w8.heap.size w8 w' := hg.below (fun k hk => ⟨hk, fun o => by rintro ⟨j, _, _, _, hw⟩; exact False.elim hw⟩)
      rw [h8]
      have e0 := (hg.cell (g) 0 ba.lt (by rintro ⟨j, _, hne, hb, hw⟩; exact False.elim hw)).trans (ba.cell 0 _ rfl)
      have e1 := (hg.cell (g) 1 ba.lt (by rintro ⟨j, _, hne, hb, hw⟩; exact False.elim hw)).trans (ba.cell 1 _ rfl)
      have e2 := (hg.cell (g) 2 ba.lt (by rintro ⟨j, _, hne, hb, hw⟩; exact False.elim hw)).trans (ba.cell 2 _ rfl)
      have e3 := (hg.cell (g) 3 ba.lt (by rintro ⟨j, _, hne, hb, hw⟩; exact False.elim hw)).trans (ba.cell 3 _ rfl)
      have e4 := (hg.cell (g) 4 ba.lt (by rintro ⟨j, _, hne, hb, hw⟩; exact False.elim hw)).trans (ba.cell 4 _ rfl)
      go_wp2
      exact ⟨_, rfl, GrowC.refl _, rfl⟩
    | 10, _ =>
      obtain rfl := Option.some.inj ho
      clear ho
      simp only [actsD, List.getD_cons_zero, List.getD_cons_succ, List.foldl_cons, List.foldl_nil, Act.put, List.setIfInBounds_toArray, List.set_cons_succ, List.set_cons_zero]
      obtain ⟨_, _, _, h8⟩ := hp 8 (by simp)
      simp only [PFh7] at h8
      obtain ⟨_, _, _, h9⟩ := hp 9 (by simp)
      simp only [PFh7] at h9
      have hsz := hg.size
      have hgB : Below w8.heap.size w8 w' := hg.below (fun k hk => ⟨hk, fun o => by rintro ⟨j, _, _, _, hw⟩; exact False.elim hw⟩)
      rw [h8, h9]
      go_wp2_with fail
      refine (psize_any x hsm _ _ _ w' (HX.out.below hgB (Nat.le_refl _)) true n HLF.out).mono ?_
      rintro e wz ⟨rfl, hb⟩
      rw [HSZ.out]
      go_wp2
      exact ⟨_, rfl, GrowC.of_grow hb, rfl⟩
    | 11, _ =>
      obtain rfl := Option.some.inj ho
      clear ho
      simp only [actsD, List.getD_cons_zero, List.getD_cons_succ, List.foldl_cons, List.foldl_nil, Act.put, List.setIfInBounds_toArray, List.set_cons_succ, List.set_cons_zero]
      obtain ⟨_, _, _, h8⟩ := hp 8 (by simp)
      simp only [PFh7] at h8
      have hsz := hg.size
      have hgB : Below w8.heap.size w8 w' := hg.below (fun k hk => ⟨hk, fun o => by rintro ⟨j, _, _, _, hw⟩; exact False.elim hw⟩)
      rw [h8]
      have e0 := (hg.cell (g) 0 ba.lt (by rintro ⟨j, _, hne, hb, hw⟩; exact False.elim hw)).trans (ba.cell 0 _ rfl)
      have e1 := (hg.cell (g) 1 ba.lt (by rintro ⟨j, _, hne, hb, hw⟩; exact False.elim hw)).trans (ba.cell 1 _ rfl)
      have e2 := (hg.cell (g) 2 ba.lt (by rintro ⟨j, _, hne, hb, hw⟩; exact False.elim hw)).trans (ba.cell 2 _ rfl)
      have e3 := (hg.cell (g) 3 ba.lt (by rintro ⟨j, _, hne, hb, hw⟩; exact False.elim hw)).trans (ba.cell 3 _ rfl)
      have e4 := (hg.cell (g) 4 ba.lt (by rintro ⟨j, _, hne, hb, hw⟩; exact False.elim hw)).trans (ba.cell 4 _ rfl)
      go_wp2
      exact ⟨_, rfl, GrowC.refl _, rfl⟩
    | 12, _ =>
      obtain rfl := Option.some.inj ho
      clear ho
      simp only [actsD, List.getD_cons_zero, List.getD_cons_succ, List.foldl_cons, List.foldl_nil, Act.put, List.setIfInBounds_toArray, List.set_cons_succ, List.set_cons_zero]
      obtain ⟨_, _, _, h8⟩ := hp 8 (by simp)
      simp only [PFh7] at h8
      obtain ⟨_, _, _, h11⟩ := hp 11 (by simp)
      simp only [PFh7] at h11
      have hsz := hg.size
      have hgB : Below w8.heap.size w8 w' := hg.below (fun k hk => ⟨hk, fun o => by rintro ⟨j, _, _, _, hw⟩; exact False.elim hw⟩)
      rw [h8, h11]
      go_wp2_with fail
      refine (to_small _ _ _ _ _ (HX.out.below hgB (Nat.le_refl _)) hsm true n HLF.out HN.out).mono ?_
      rintro e wz ⟨r1, r2, rfl, hr, hb⟩
      go_wp2
      exact ⟨_, rfl, GrowC.of_grow hb, r1, r2, rfl, hr⟩
    | 13, _ =>
      obtain rfl := Option.some.inj ho
      clear ho
      simp only [actsD, List.getD_cons_zero, List.getD_cons_succ, List.foldl_cons, List.foldl_nil, Act.put, List.setIfInBounds_toArray, List.set_cons_succ, List.set_cons_zero]
      obtain ⟨_, _, _, h8⟩ := hp 8 (by simp)
      simp only [PFh7] at h8
      obtain ⟨_, _, _, h12⟩ := hp 12 (by simp)
      simp only [PFh7] at h12
      have hsz := hg.size
      have hgB : Below w8.heap.size w8 w' := hg.below (fun k hk => ⟨hk, fun o => by rintro ⟨j, _, _, _, hw⟩; exact False.elim hw⟩)
      obtain ⟨r1, r2, h12, hr1⟩ := h12
      rw [h8, h12]
      go_wp2_with fail
      refine (rsize_any x hsm _ _ _ w' hr1 true n HLF.out).mono ?_
      rintro e wz ⟨rfl, hb⟩
      rw [HSR.out]
      go_wp2
      exact ⟨_, rfl, GrowC.of_grow hb, rfl⟩
    | 14, _ =>
      obtain rfl := Option.some.inj ho
      clear ho
      simp only [actsD, List.getD_cons_zero, List.getD_cons_succ, List.foldl_cons, List.foldl_nil, Act.put, List.setIfInBounds_toArray, List.set_cons_succ, List.set_cons_zero]
      obtain ⟨_, _, _, h8⟩ := hp 8 (by simp)
      simp only [PFh7] at h8
      obtain ⟨_, _, _, h10⟩ := hp 10 (by simp)
      simp only [PFh7] at h10
      obtain ⟨_, _, _, h13⟩ := hp 13 (by simp)
      simp only [PFh7] at h13
      have hsz := hg.size
      have hgB : Below w8.heap.size w8 w' := hg.below (fun k hk => ⟨hk, fun o => by rintro ⟨j, _, _, _, hw⟩; exact False.elim hw⟩)
      rw [h8, h10, h13]
      go_wp2
      exact ⟨_, rfl, GrowC.refl _, rfl⟩
    | 15, _ =>
      obtain rfl := Option.some.inj ho
      clear ho
      simp only [actsD, List.getD_cons_zero, List.getD_cons_succ, List.foldl_cons, List.foldl_nil, Act.put, List.setIfInBounds_toArray, List.set_cons_succ, List.set_cons_zero]
      obtain ⟨_, _, _, h8⟩ := hp 8 (by simp)
      simp only [PFh7] at h8
      obtain ⟨_, _, _, h14⟩ := hp 14 (by simp)
      simp only [PFh7] at h14
      have hsz := hg.size
      have hgB : Below w8.heap.size w8 w' := hg.below (fun k hk => ⟨hk, fun o => by rintro ⟨j, _, _, _, hw⟩; exact False.elim hw⟩)
      rw [h8, h14]
      go_wp2
      exact ⟨_, rfl, GrowC.refl _, rfl⟩
    | (q + 16), hq => exact absurd hq (by omega)
  intro vS lo hi w9 hg hp hd
  obtain ⟨_, _, _, h0⟩ := hp 0 (by omega)
  obtain ⟨_, _, _, h1⟩ := hp 1 (by omega)
  obtain ⟨_, _, _, h2⟩ := hp 2 (by omega)
  obtain ⟨_, _, _, h3⟩ := hp 3 (by omega)
  obtain ⟨_, _, _, h4⟩ := hp 4 (by omega)
  obtain ⟨_, _, _, h5⟩ := hp 5 (by omega)
  obtain ⟨_, _, _, h6⟩ := hp 6 (by omega)
  obtain ⟨_, _, _, h7⟩ := hp 7 (by omega)
  obtain ⟨_, _, _, h8⟩ := hp 8 (by omega)
  obtain ⟨_, _, _, h9⟩ := hp 9 (by omega)
  obtain ⟨_, _, _, h10⟩ := hp 10 (by omega)
  obtain ⟨_, _, _, h11⟩ := hp 11 (by omega)
  obtain ⟨_, _, _, h12⟩ := hp 12 (by omega)
  obtain ⟨_, _, _, h13⟩ := hp 13 (by omega)
  obtain ⟨_, _, _, h14⟩ := hp 14 (by omega)
  obtain ⟨_, _, _, h15⟩ := hp 15 (by omega)
  simp only [PFh7] at h0 h1 h2 h3 h4 h5 h6 h7 h8 h9 h10 h11 h12 h13 h14 h15
  clear hp hd
  have hsz := hg.size
  replace ba := ba.grow hg (by intro i _; rintro ⟨j, _, hw⟩; exact False.elim hw)
  replace bm := bm.grow hg (by intro i _; rintro ⟨j, _, hw⟩; exact False.elim hw)
  replace bd := bd.grow hg (by intro i _; rintro ⟨j, _, hw⟩; exact False.elim hw)
  replace hB := hB.trans (hg.below (fun k hk => ⟨by omega, fun o => by rintro ⟨j, _, hw⟩; exact False.elim hw⟩))
  have hr : List.range 16 = [0, 1, 2, 3, 4, 5, 6, 7, 8, 9, 10, 11, 12, 13, 14, 15] := rfl
  rw [hr]
  clear hr
  simp only [List.drop_succ_cons, List.drop_zero, List.drop_nil, actsD, List.getD_cons_zero, List.getD_cons_succ, List.foldl_cons, List.foldl_nil, Act.put, List.setIfInBounds_toArray, List.set_cons_succ, List.set_cons_zero, h0, h1, h2, h3, h4, h5, h6, h7, h8, h9, h10, h11, h13, h14, h15]
  clear h0 h1 h2 h3 h4 h5 h6 h7 h8 h9 h10 h11 h13 h14 h15
  clear h12
  have hbb : Below w8.heap.size w8 w9 := hg.below (fun k hk => ⟨hk, fun o => by rintro ⟨j, _, hw⟩; exact hw⟩)
  replace HX := Lib.hid (HX.out.below hbb (Nat.le_refl _))
  replace HYAT := Lib.hid (HYAT.out.below hbb (Nat.le_refl _))
  replace HZAT := Lib.hid (HZAT.out.below hbb (Nat.le_refl _))
  have hmc7 := (hbb.cell (p := ⟨mg, mo + p, none⟩) hmg).trans HMC.out
  replace HMC := Lib.hid hmc7
  replace HMR := Lib.hid (HMR.out.below hbb (Nat.le_refl _))
  replace hmg := Nat.lt_of_lt_of_le hmg hbb.size
  clear hmc7
  replace hs := Nat.le_trans hs hbb.size
  clear hg hbb hsz
  have ca0 := ba.cell 0 _ rfl
  have ca1 := ba.cell 1 _ rfl
  have ca2 := ba.cell 2 _ rfl
  have ca3 := ba.cell 3 _ rfl
  have ca4 := ba.cell 4 _ rfl
  have fa := ba.free
  have cm0 := bm.cell 0 _ rfl
  have cm1 := bm.cell 1 _ rfl
  have cm2 := bm.cell 2 _ rfl
  have cm3 := bm.cell 3 _ rfl
  have cm4 := bm.cell 4 _ rfl
  have fm := bm.free
  have cd0 := bd.cell 0 _ rfl
  have cd1 := bd.cell 1 _ rfl
  have cd2 := bd.cell 2 _ rfl
  have cd3 := bd.cell 3 _ rfl
  have cd4 := bd.cell 4 _ rfl
  have fd := bd.free
  go_wp2_with fail
  clear ca0 ca1 ca2 ca3 ca4 fa
  clear cm0 cm1 cm2 cm3 cm4 fm
  clear cd0 cd1 cd2 cd3 cd4 fd
  have hkb := HBASE.out w9 hB
  have hmkb : mk ≤ 1152921504606846976 := by have := HMLEN.out; rw [HNK.out] at this; omega
  refine (find_any y.keys true n (.slice ma mk mk) (.slice (some ⟨mg, mo, none⟩) mv mv) (.slice mc md md) (.slice qa kl qc) rfl rfl k kl w9 HYAT.out.keys hkb.1 (by rw [HMK.out]; exact hmkb)).mono ?_
  rintro e w10 ⟨rfl, hb10⟩
  rw [HYP.out, HYF.out]
  clear hkb hmkb
  have hmc7 := (hb10.cell (p := ⟨mg, mo + p, none⟩) hmg).trans HMC.out
  replace HMC := Lib.hid hmc7
  replace HMR := Lib.hid (HMR.out.below hb10 (Nat.le_refl _))
  replace hmg := Nat.lt_of_lt_of_le hmg hb10.size
  clear hmc7
  replace ba := ba.below hb10 (Nat.le_refl _)
  replace bm := bm.below hb10 (Nat.le_refl _)
  replace bd := bd.below hb10 (Nat.le_refl _)
  replace hB := hB.trans (hb10.mono (by omega))
  replace HX := Lib.hid (HX.out.below hb10 (Nat.le_refl _))
  replace HYAT := Lib.hid (HYAT.out.below hb10 (Nat.le_refl _))
  replace HZAT := Lib.hid (HZAT.out.below hb10 (Nat.le_refl _))
  replace hs := Nat.le_trans hs hb10.size
  clear hb10
  have hpm : p < mv := by rw [← HMV.out]; exact (List.getElem?_eq_some_iff.1 HYV.out).1
  have ca0 := ba.cell 0 _ rfl
  have ca1 := ba.cell 1 _ rfl
  have ca2 := ba.cell 2 _ rfl
  have ca3 := ba.cell 3 _ rfl
  have ca4 := ba.cell 4 _ rfl
  have fa := ba.free
  have cm0 := bm.cell 0 _ rfl
  have cm1 := bm.cell 1 _ rfl
  have cm2 := bm.cell 2 _ rfl
  have cm3 := bm.cell 3 _ rfl
  have cm4 := bm.cell 4 _ rfl
  have fm := bm.free
  have cd0 := bd.cell 0 _ rfl
  have cd1 := bd.cell 1 _ rfl
  have cd2 := bd.cell 2 _ rfl
  have cd3 := bd.cell 3 _ rfl
  have cd4 := bd.cell 4 _ rfl
  have fd := bd.free
  go_upto_region 12 with (fail)
  clear ca0 ca1 ca2 ca3 ca4 fa
  clear cm0 cm1 cm2 cm3 cm4 fm
  clear cd0 cd1 cd2 cd3 cd4 fd
  refine wp_region_partsDC (WFh12 nk kc nv vc nd dc kl qc vl uc p g g3 g4 mk mv md ek ev ed sz mg mo n ka va da qa ua ma mc ea eb ec true s0 c0 k v x y z) 37 [[], [0], [0, 1], [0, 1, 2], [0, 1, 2], [0, 1, 2, 3, 4], [0, 1, 2, 3, 4, 5], [0, 1, 2, 3, 4, 5, 6], [0, 1, 2, 3, 4, 5, 6, 7], [0, 1, 2, 3, 4, 5, 6, 7, 8], [0, 1, 2, 3, 4, 5, 6, 7, 8, 9], [0, 1, 2, 3, 4, 5, 6, 7], [0, 1, 2, 3, 4, 5, 6, 7, 8, 9, 10, 11], [0, 1, 2, 3, 4, 5, 6, 7, 8, 9, 10, 11, 12], [0, 1, 2, 3, 4, 5, 6, 7, 8, 9, 10, 11, 12, 13], [0, 1, 2, 3, 4, 5, 6, 7, 8, 9, 10, 11, 12, 13, 14], [0, 1, 2, 3, 4, 5, 6, 7, 8, 9, 10, 11, 12, 13, 14, 15], [0, 1, 2, 3, 4, 5, 6, 7, 8, 9, 10, 11, 12, 13, 14], [0, 1, 2, 3, 4, 5, 6, 7, 8, 9, 10, 11, 12, 13, 14, 15, 16, 17], [0, 1, 2, 3, 4, 5, 6, 7, 8, 9, 10, 11, 12, 13, 14, 15, 16, 17, 18], [0, 1, 2, 3, 4, 5, 6, 7, 8, 9, 10, 11, 12, 13, 14, 15, 16, 17, 18, 19], [0, 1, 2, 3, 4, 5, 6, 7, 8, 9, 10, 11, 12, 13, 14], [0, 1, 2, 3, 4, 5, 6, 7, 8, 9, 10, 11, 12, 13, 14, 21], [0, 1, 2, 3, 4, 5, 6, 7, 8, 9, 10, 11, 12, 13, 14, 15, 16, 17, 18, 19, 20, 21, 22], [0, 1, 2, 3, 4, 5, 6, 7, 8, 9, 10, 11, 12, 13, 14, 15, 16, 17, 18, 19, 20, 21, 22, 23], [0, 1, 2, 3, 4, 5, 6, 7, 8, 9, 10, 11, 12, 13, 14, 15, 16, 17, 18, 19, 20, 21, 22, 23, 24], [0, 1, 2, 3, 4, 5, 6, 7, 8, 9, 10, 11, 12, 13, 14, 15, 16, 17, 18, 19, 20, 21, 22, 23, 24, 25], [0, 1, 2, 3, 4, 5, 6, 7, 8, 9, 10, 11, 12, 13, 14, 15, 16, 17, 18, 19, 20, 21, 22, 23, 24, 25], [0, 1, 2, 3, 4, 5, 6, 7, 8, 9, 10, 11, 12, 13, 14, 15, 16, 17, 18, 19, 20, 21, 22, 23, 24, 25, 26, 27], [0, 1, 2, 3, 4, 5, 6, 7, 8, 9, 10, 11, 12, 13, 14, 15, 16, 17, 18, 19, 20, 21, 22, 23, 24, 25, 26, 27, 28], [0, 1, 2, 3, 4, 5, 6, 7, 8, 9, 10, 11, 12, 13, 14, 15, 16, 17, 18, 19, 20, 21, 22, 23, 24, 25, 26, 27, 28, 29], [0, 1, 2, 3, 4, 5, 6, 7, 8, 9, 10, 11, 12, 13, 14, 15, 16, 17, 18, 19, 20, 21, 22, 23, 24, 25, 26, 27, 28, 29, 30], [0, 1, 2, 3, 4, 5, 6, 7, 8, 9, 10, 11, 12, 13, 14, 15, 16, 17, 18, 19, 20, 21, 22, 23, 24, 25, 26, 27, 28, 29, 30, 31], [0, 1, 2, 3, 4, 5, 6, 7, 8, 9, 10, 11, 12, 13, 14, 15, 16, 17, 18, 19, 20, 21, 22, 23, 24, 25, 26, 27, 28, 29, 30], [0, 1, 2, 3, 4, 5, 6, 7, 8, 9, 10, 11, 12, 13, 14, 15, 16, 17, 18, 19, 20, 21, 22, 23, 24, 25, 26, 27, 28, 29, 30, 33], [0, 1, 2, 3, 4, 5, 6, 7, 8, 9, 10, 11, 12, 13, 14, 15, 16, 17, 18, 19, 20, 21, 22, 23, 24, 25, 26, 27, 28, 29, 30, 31, 32, 33, 34], [0, 1, 2, 3, 4, 5, 6, 7, 8, 9, 10, 11, 12, 13, 14, 15, 16, 17, 18, 19, 20, 21, 22, 23, 24, 25, 26, 27, 28, 29, 30, 31, 32, 33, 34, 35]] [some 93, some 94, some 95, some 96, some 97, some 98, some 99, some 100, some 101, some 102, some 103, some 104, some 105, some 106, some 107, some 108, some 109, some 110, some 111, some 112, some 113, some 114, some 115, some 116, some 117, some 118, some 119, some 120, some 121, some 122, some 123, some 124, some 125, some 126, some 127, some 128, some 129] (by kernel_rfl) (by kernel_rfl) rfl (PFh12 nk kc nv vc nd dc kl qc vl uc p g g3 g4 mk mv md ek ev ed sz mg mo n ka va da qa ua ma mc ea eb ec true s0 c0 k v x y z) (PFh12_stable nk kc nv vc nd dc kl qc vl uc p g g3 g4 mk mv md ek ev ed sz mg mo n ka va da qa ua ma mc ea eb ec true s0 c0 k v x y z ) ?pFh12 ?_
  case pFh12 =>
    intro i hi o ho vs lo hx_ w' hg hp
    match i, hi with
    | 0, _ =>
      obtain rfl := Option.some.inj ho
      clear ho
      simp only [actsD, List.getD_cons_zero, List.getD_cons_succ, List.foldl_cons, List.foldl_nil, Act.put, List.setIfInBounds_toArray, List.set_cons_succ, List.set_cons_zero]
      have hsz := hg.size
      have hgB : Below w10.heap.size w10 w' := hg.below (fun k hk => ⟨hk, fun o => by rintro ⟨j, _, _, _, hw⟩; exact False.elim hw⟩)
      go_wp2
      exact ⟨_, rfl, GrowC.refl _, rfl⟩
    | 1, _ =>
      obtain rfl := Option.some.inj ho
      clear ho
      simp only [actsD, List.getD_cons_zero, List.getD_cons_succ, List.foldl_cons, List.foldl_nil, Act.put, List.setIfInBounds_toArray, List.set_cons_succ, List.set_cons_zero]
      obtain ⟨_, _, _, h0⟩ := hp 0 (by simp)
      simp only [PFh12] at h0
      have hsz := hg.size
      have hgB : Below w10.heap.size w10 w' := hg.below (fun k hk => ⟨hk, fun o => by rintro ⟨j, _, _, _, hw⟩; exact False.elim hw⟩)
      rw [h0]
      go_wp2
      exact ⟨_, rfl, GrowC.refl _, rfl⟩
    | 2, _ =>
      obtain rfl := Option.some.inj ho
      clear ho
      simp only [actsD, List.getD_cons_zero, List.getD_cons_succ, List.foldl_cons, List.foldl_nil, Act.put, List.setIfInBounds_toArray, List.set_cons_succ, List.set_cons_zero]
      obtain ⟨_, _, _, h1⟩ := hp 1 (by simp)
      simp only [PFh12] at h1
      have hsz := hg.size
      have hgB : Below w10.heap.size w10 w' := hg.below (fun k hk => ⟨hk, fun o => by rintro ⟨j, _, _, _, hw⟩; exact False.elim hw⟩)
      rw [h1]
      go_wp2
      exact ⟨_, rfl, GrowC.refl _, rfl⟩
    | 3, _ =>
      obtain rfl := Option.some.inj ho
      clear ho
      simp only [actsD, List.getD_cons_zero, List.getD_cons_succ, List.foldl_cons, List.foldl_nil, Act.put, List.setIfInBounds_toArray, List.set_cons_succ, List.set_cons_zero]
      obtain ⟨_, _, _, h2⟩ := hp 2 (by simp)
      simp only [PFh12] at h2
      have hsz := hg.size
      have hgB : Below w10.heap.size w10 w' := hg.below (fun k hk => ⟨hk, fun o => by rintro ⟨j, _, _, _, hw⟩; exact False.elim hw⟩)
      rw [h2]
      go_wp2
      exact ⟨_, rfl, GrowC.refl _, rfl⟩
    | 4, _ =>
      obtain rfl := Option.some.inj ho
      clear ho
      simp only [actsD, List.getD_cons_zero, List.getD_cons_succ, List.foldl_cons, List.foldl_nil, Act.put, List.setIfInBounds_toArray, List.set_cons_succ, List.set_cons_zero]
      obtain ⟨_, _, _, h2⟩ := hp 2 (by simp)
      simp only [PFh12] at h2
      have hsz := hg.size
      have hgB : Below w10.heap.size w10 w' := hg.below (fun k hk => ⟨hk, fun o => by rintro ⟨j, _, _, _, hw⟩; exact False.elim hw⟩)
      rw [h2]
      go_wp2
      exact ⟨_, rfl, GrowC.refl _, rfl⟩
    | 5, _ =>
      obtain rfl := Option.some.inj ho
      clear ho
      simp only [actsD, List.getD_cons_zero, List.getD_cons_succ, List.foldl_cons, List.foldl_nil, Act.put, List.setIfInBounds_toArray, List.set_cons_succ, List.set_cons_zero]
      obtain ⟨_, _, _, h2⟩ := hp 2 (by simp)
      simp only [PFh12] at h2
      obtain ⟨_, _, _, h3⟩ := hp 3 (by simp)
      simp only [PFh12] at h3
      obtain ⟨_, _, _, h4⟩ := hp 4 (by simp)
      simp only [PFh12] at h4
      have hsz := hg.size
      have hgB : Below w10.heap.size w10 w' := hg.below (fun k hk => ⟨hk, fun o => by rintro ⟨j, _, _, _, hw⟩; exact False.elim hw⟩)
      rw [h2, h3, h4]
      go_wp2
      exact ⟨_, rfl, GrowC.refl _, rfl⟩
    | 6, _ =>
      obtain rfl := Option.some.inj ho
      clear ho
      simp only [actsD, List.getD_cons_zero, List.getD_cons_succ, List.foldl_cons, List.foldl_nil, Act.put, List.setIfInBounds_toArray, List.set_cons_succ, List.set_cons_zero]
      obtain ⟨_, _, _, h2⟩ := hp 2 (by simp)
      simp only [PFh12] at h2
      obtain ⟨_, _, _, h5⟩ := hp 5 (by simp)
      simp only [PFh12] at h5
      have hsz := hg.size
      have hgB : Below w10.heap.size w10 w' := hg.below (fun k hk => ⟨hk, fun o => by rintro ⟨j, _, _, _, hw⟩; exact False.elim hw⟩)
      rw [h2, h5]
      go_wp2
      exact ⟨_, rfl, GrowC.refl _, rfl⟩
    | 7, _ =>
      obtain rfl := Option.some.inj ho
      clear ho
      simp only [actsD, List.getD_cons_zero, List.getD_cons_succ, List.foldl_cons, List.foldl_nil, Act.put, List.setIfInBounds_toArray, List.set_cons_succ, List.set_cons_zero]
      obtain ⟨_, _, _, h6⟩ := hp 6 (by simp)
      simp only [PFh12] at h6
      have hsz := hg.size
      have hgB : Below w10.heap.size w10 w' := hg.below (fun k hk => ⟨hk, fun o => by rintro ⟨j, _, _, _, hw⟩; exact False.elim hw⟩)
      rw [h6]
      go_wp2
      exact ⟨_, rfl, GrowC.refl _, rfl⟩
    | 8, _ =>
      obtain rfl := Option.some.inj ho
      clear ho
      simp only [actsD, List.getD_cons_zero, List.getD_cons_succ, List.foldl_cons, List.foldl_nil, Act.put, List.setIfInBounds_toArray, List.set_cons_succ, List.set_cons_zero]
      obtain ⟨_, _, _, h7⟩ := hp 7 (by simp)
      simp only [PFh12] at h7
      have hsz := hg.size
      have hgB : Below w10.heap.size w10 w' := hg.below (fun k hk => ⟨hk, fun o => by rintro ⟨j, _, _, _, hw⟩; exact False.elim hw⟩)
      rw [h7]
      exact part_fld rfl rfl rfl (fldN2 _ _) rfl
    | 9, _ =>
      obtain rfl := Option.some.inj ho
      clear ho
      simp only [actsD, List.getD_cons_zero, List.getD_cons_succ, List.foldl_cons, List.foldl_nil, Act.put, List.setIfInBounds_toArray, List.set_cons_succ, List.set_cons_zero]
      obtain ⟨_, _, _, h7⟩ := hp 7 (by simp)
      simp only [PFh12] at h7
      obtain ⟨_, _, _, h8⟩ := hp 8 (by simp)
      simp only [PFh12] at h8
      have hsz := hg.size
      have hgB : Below w10.heap.size w10 w' := hg.below (fun k hk => ⟨hk, fun o => by rintro ⟨j, _, _, _, hw⟩; exact False.elim hw⟩)
      rw [h7, h8]
      have e0 := (hg.cell (g3) 2 bm.lt (by rintro ⟨j, _, hne, hb, hw⟩; exact False.elim hw)).trans (bm.cell 2 _ rfl)
      go_wp2
      exact ⟨_, rfl, GrowC.refl _, rfl⟩
    | 10, _ =>
      obtain rfl := Option.some.inj ho
      clear ho
      simp only [actsD, List.getD_cons_zero, List.getD_cons_succ, List.foldl_cons, List.foldl_nil, Act.put, List.setIfInBounds_toArray, List.set_cons_succ, List.set_cons_zero]
      obtain ⟨_, _, _, h7⟩ := hp 7 (by simp)
      simp only [PFh12] at h7
      obtain ⟨_, _, _, h9⟩ := hp 9 (by simp)
      simp only [PFh12] at h9
      have hsz := hg.size
      have hgB : Below w10.heap.size w10 w' := hg.below (fun k hk => ⟨hk, fun o => by rintro ⟨j, _, _, _, hw⟩; exact False.elim hw⟩)
      rw [h7, h9]
      go_wp2
      exact ⟨_, rfl, GrowC.refl _, rfl⟩
    | 11, _ =>
      obtain rfl := Option.some.inj ho
      clear ho
      simp only [actsD, List.getD_cons_zero, List.getD_cons_succ, List.foldl_cons, List.foldl_nil, Act.put, List.setIfInBounds_toArray, List.set_cons_succ, List.set_cons_zero]
      obtain ⟨_, _, _, h7⟩ := hp 7 (by simp)
      simp only [PFh12] at h7
      have hsz := hg.size
      have hgB : Below w10.heap.size w10 w' := hg.below (fun k hk => ⟨hk, fun o => by rintro ⟨j, _, _, _, hw⟩; exact False.elim hw⟩)
      rw [h7]
      go_wp2
      exact ⟨_, rfl, GrowC.refl _, rfl⟩
    | 12, _ =>
      obtain rfl := Option.some.inj ho
      clear ho
      simp only [actsD, List.getD_cons_zero, List.getD_cons_succ, List.foldl_cons, List.foldl_nil, Act.put, List.setIfInBounds_toArray, List.set_cons_succ, List.set_cons_zero]
      obtain ⟨_, _, _, h7⟩ := hp 7 (by simp)
      simp only [PFh12] at h7
      obtain ⟨_, _, _, h10⟩ := hp 10 (by simp)
      simp only [PFh12] at h10
      obtain ⟨_, _, _, h11⟩ := hp 11 (by simp)
      simp only [PFh12] at h11
      have hsz := hg.size
      have hgB : Below w10.heap.size w10 w' := hg.below (fun k hk => ⟨hk, fun o => by rintro ⟨j, _, _, _, hw⟩; exact False.elim hw⟩)
      rw [h7, h10, h11]
      have d : decide ((mv : Int) ≤ (p : Int)) = false := by simp; omega
      have d2 : decide (mv ≤ p) = false := by simp; omega
      go_wp2
      exact ⟨_, rfl, GrowC.refl _, rfl⟩
    | 13, _ =>
      obtain rfl := Option.some.inj ho
      clear ho
      simp only [actsD, List.getD_cons_zero, List.getD_cons_succ, List.foldl_cons, List.foldl_nil, Act.put, List.setIfInBounds_toArray, List.set_cons_succ, List.set_cons_zero]
      obtain ⟨_, _, _, h7⟩ := hp 7 (by simp)
      simp only [PFh12] at h7
      obtain ⟨_, _, _, h12⟩ := hp 12 (by simp)
      simp only [PFh12] at h12
      have hsz := hg.size
      have hgB : Below w10.heap.size w10 w' := hg.below (fun k hk => ⟨hk, fun o => by rintro ⟨j, _, _, _, hw⟩; exact False.elim hw⟩)
      rw [h7, h12]
      go_wp2
      exact ⟨_, rfl, GrowC.refl _, rfl⟩
    | 14, _ =>
      obtain rfl := Option.some.inj ho
      clear ho
      simp only [actsD, List.getD_cons_zero, List.getD_cons_succ, List.foldl_cons, List.foldl_nil, Act.put, List.setIfInBounds_toArray, List.set_cons_succ, List.set_cons_zero]
      obtain ⟨_, _, _, h13⟩ := hp 13 (by simp)
      simp only [PFh12] at h13
      have hsz := hg.size
      have hgB : Below w10.heap.size w10 w' := hg.below (fun k hk => ⟨hk, fun o => by rintro ⟨j, _, _, _, hw⟩; exact False.elim hw⟩)
      rw [h13]
      go_wp2
      exact ⟨_, rfl, GrowC.refl _, rfl⟩
    | 15, _ =>
      obtain rfl := Option.some.inj ho
      clear ho
      simp only [actsD, List.getD_cons_zero, List.getD_cons_succ, List.foldl_cons, List.foldl_nil, Act.put, List.setIfInBounds_toArray, List.set_cons_succ, List.set_cons_zero]
      obtain ⟨_, _, _, h14⟩ := hp 14 (by simp)
      simp only [PFh12] at h14
      have hsz := hg.size
      have hgB : Below w10.heap.size w10 w' := hg.below (fun k hk => ⟨hk, fun o => by rintro ⟨j, _, _, _, hw⟩; exact False.elim hw⟩)
      rw [h14]
      exact part_fld rfl rfl rfl (fldN2 _ _) rfl
    | 16, _ =>
      obtain rfl := Option.some.inj ho
      clear ho
      simp only [actsD, List.getD_cons_zero, List.getD_cons_succ, List.foldl_cons, List.foldl_nil, Act.put, List.setIfInBounds_toArray, List.set_cons_succ, List.set_cons_zero]
      obtain ⟨_, _, _, h14⟩ := hp 14 (by simp)
      simp only [PFh12] at h14
      obtain ⟨_, _, _, h15⟩ := hp 15 (by simp)
      simp only [PFh12] at h15
      have hsz := hg.size
      have hgB : Below w10.heap.size w10 w' := hg.below (fun k hk => ⟨hk, fun o => by rintro ⟨j, _, _, _, hw⟩; exact False.elim hw⟩)
      rw [h14, h15]
      have e0 := (hg.cell (g3) 2 bm.lt (by rintro ⟨j, _, hne, hb, hw⟩; exact False.elim hw)).trans (bm.cell 2 _ rfl)
      go_wp2
      exact ⟨_, rfl, GrowC.refl _, rfl⟩
    | 17, _ =>
      obtain rfl := Option.some.inj ho
      clear ho
      simp only [actsD, List.getD_cons_zero, List.getD_cons_succ, List.foldl_cons, List.foldl_nil, Act.put, List.setIfInBounds_toArray, List.set_cons_succ, List.set_cons_zero]
      obtain ⟨_, _, _, h14⟩ := hp 14 (by simp)
      simp only [PFh12] at h14
      have hsz := hg.size
      have hgB : Below w10.heap.size w10 w' := hg.below (fun k hk => ⟨hk, fun o => by rintro ⟨j, _, _, _, hw⟩; exact False.elim hw⟩)
      rw [h14]
      go_wp2
      exact ⟨_, rfl, GrowC.refl _, rfl⟩
    | 18, _ =>
      obtain rfl := Option.some.inj ho
      clear ho
      simp only [actsD, List.getD_cons_zero, List.getD_cons_succ, List.foldl_cons, List.foldl_nil, Act.put, List.setIfInBounds_toArray, List.set_cons_succ, List.set_cons_zero]
      obtain ⟨_, _, _, h14⟩ := hp 14 (by simp)
      simp only [PFh12] at h14
      obtain ⟨_, _, _, h16⟩ := hp 16 (by simp)
      simp only [PFh12] at h16
      obtain ⟨_, _, _, h17⟩ := hp 17 (by simp)
      simp only [PFh12] at h17
      have hsz := hg.size
      have hgB : Below w10.heap.size w10 w' := hg.below (fun k hk => ⟨hk, fun o => by rintro ⟨j, _, _, _, hw⟩; exact False.elim hw⟩)
      rw [h14, h16, h17]
      have q1 : (p : Int) < (mv : Int) := by omega
      go_wp2
      exact ⟨_, rfl, GrowC.refl _, rfl⟩
    | 19, _ =>
      obtain rfl := Option.some.inj ho
      clear ho
      simp only [actsD, List.getD_cons_zero, List.getD_cons_succ, List.foldl_cons, List.foldl_nil, Act.put, List.setIfInBounds_toArray, List.set_cons_succ, List.set_cons_zero]
      obtain ⟨_, _, _, h14⟩ := hp 14 (by simp)
      simp only [PFh12] at h14
      obtain ⟨_, _, _, h18⟩ := hp 18 (by simp)
      simp only [PFh12] at h18
      have hsz := hg.size
      have hgB : Below w10.heap.size w10 w' := hg.below (fun k hk => ⟨hk, fun o => by rintro ⟨j, _, _, _, hw⟩; exact False.elim hw⟩)
      rw [h14, h18]
      have hc := (hgB.cell (p := ⟨mg, mo + p, none⟩) hmg).trans HMC.out
      go_wp2
      exact ⟨_, rfl, GrowC.refl _, rfl⟩
    | 20, _ =>
      obtain rfl := Option.some.inj ho
      clear ho
      simp only [actsD, List.getD_cons_zero, List.getD_cons_succ, List.foldl_cons, List.foldl_nil, Act.put, List.setIfInBounds_toArray, List.set_cons_succ, List.set_cons_zero]
      obtain ⟨_, _, _, h14⟩ := hp 14 (by simp)
      simp only [PFh12] at h14
      obtain ⟨_, _, _, h19⟩ := hp 19 (by simp)
      simp only [PFh12] at h19
      have hsz := hg.size
      have hgB : Below w10.heap.size w10 w' := hg.below (fun k hk => ⟨hk, fun o => by rintro ⟨j, _, _, _, hw⟩; exact False.elim hw⟩)
      rw [h14, h19]
      have cv := run_str_reads (P := Try.prog) (src := 28) (dst := 9) Try.underlying28 Try.underlying5 Try.underlying9 _ (HMR.out.below hgB (Nat.le_refl _))
      go_wp2
      exact ⟨_, rfl, GrowC.refl _, rfl⟩
    | 21, _ =>
      obtain rfl := Option.some.inj ho
      clear ho
      simp only [actsD, List.getD_cons_zero, List.getD_cons_succ, List.foldl_cons, List.foldl_nil, Act.put, List.setIfInBounds_toArray, List.set_cons_succ, List.set_cons_zero]
      obtain ⟨_, _, _, h14⟩ := hp 14 (by simp)
      simp only [PFh12] at h14
      have hsz := hg.size
      have hgB : Below w10.heap.size w10 w' := hg.below (fun k hk => ⟨hk, fun o => by rintro ⟨j, _, _, _, hw⟩; exact False.elim hw⟩)
      rw [h14]
      go_wp2
      exact ⟨_, rfl, GrowC.refl _, rfl⟩
    | 22, _ =>
      obtain rfl := Option.some.inj ho
      clear ho
      simp only [actsD, List.getD_cons_zero, List.getD_cons_succ, List.foldl_cons, List.foldl_nil, Act.put, List.setIfInBounds_toArray, List.set_cons_succ, List.set_cons_zero]
      obtain ⟨_, _, _, h14⟩ := hp 14 (by simp)
      simp only [PFh12] at h14
      obtain ⟨_, _, _, h21⟩ := hp 21 (by simp)
      simp only [PFh12] at h21
      have hsz := hg.size
      have hgB : Below w10.heap.size w10 w' := hg.below (fun k hk => ⟨hk, fun o => by rintro ⟨j, _, _, _, hw⟩; exact False.elim hw⟩)
      rw [h14, h21]
      have hkb := HBASE.out w' (hB.trans (hgB.mono (by have := hB.size; omega)))
      have cv := run_str_reads (P := Try.prog) (src := 28) (dst := 9) Try.underlying28 Try.underlying5 Try.underlying9 _ hkb.2
      clear hkb
      go_wp2
      exact ⟨_, rfl, GrowC.refl _, rfl⟩
    | 23, _ =>
      obtain rfl := Option.some.inj ho
      clear ho
      simp only [actsD, List.getD_cons_zero, List.getD_cons_succ, List.foldl_cons, List.foldl_nil, Act.put, List.setIfInBounds_toArray, List.set_cons_succ, List.set_cons_zero]
      obtain ⟨_, _, _, h14⟩ := hp 14 (by simp)
      simp only [PFh12] at h14
      obtain ⟨_, _, _, h20⟩ := hp 20 (by simp)
      simp only [PFh12] at h20
      obtain ⟨_, _, _, h22⟩ := hp 22 (by simp)
      simp only [PFh12] at h22
      have hsz := hg.size
      have hgB : Below w10.heap.size w10 w' := hg.below (fun k hk => ⟨hk, fun o => by rintro ⟨j, _, _, _, hw⟩; exact False.elim hw⟩)
      rw [h14, h20, h22]
      go_wp2
      exact ⟨_, rfl, GrowC.refl _, rfl⟩
    | 24, _ =>
      obtain rfl := Option.some.inj ho
      clear ho
      simp only [actsD, List.getD_cons_zero, List.getD_cons_succ, List.foldl_cons, List.foldl_nil, Act.put, List.setIfInBounds_toArray, List.set_cons_succ, List.set_cons_zero]
      obtain ⟨_, _, _, h14⟩ := hp 14 (by simp)
      simp only [PFh12] at h14
      obtain ⟨_, _, _, h23⟩ := hp 23 (by simp)
      simp only [PFh12] at h23
      have hsz := hg.size
      have hgB : Below w10.heap.size w10 w' := hg.below (fun k hk => ⟨hk, fun o => by rintro ⟨j, _, _, _, hw⟩; exact False.elim hw⟩)
      rw [h14, h23]
      go_wp2
      exact ⟨_, rfl, GrowC.refl _, rfl⟩
    | 25, _ =>
      obtain rfl := Option.some.inj ho
      clear ho
      simp only [actsD, List.getD_cons_zero, List.getD_cons_succ, List.foldl_cons, List.foldl_nil, Act.put, List.setIfInBounds_toArray, List.set_cons_succ, List.set_cons_zero]
      obtain ⟨_, _, _, h24⟩ := hp 24 (by simp)
      simp only [PFh12] at h24
      have hsz := hg.size
      have hgB : Below w10.heap.size w10 w' := hg.below (fun k hk => ⟨hk, fun o => by rintro ⟨j, _, _, _, hw⟩; exact False.elim hw⟩)
      rw [h24]
      go_wp2
      exact ⟨_, rfl, GrowC.refl _, rfl⟩
    | 26, _ =>
      obtain rfl := Option.some.inj ho
      clear ho
      simp only [actsD, List.getD_cons_zero, List.getD_cons_succ, List.foldl_cons, List.foldl_nil, Act.put, List.setIfInBounds_toArray, List.set_cons_succ, List.set_cons_zero]
      obtain ⟨_, _, _, h25⟩ := hp 25 (by simp)
      simp only [PFh12] at h25
      have hsz := hg.size
      have hgB : Below w10.heap.size w10 w' := hg.below (fun k hk => ⟨hk, fun o => by rintro ⟨j, _, _, _, hw⟩; exact False.elim hw⟩)
      rw [h25]
      go_wp2
      exact ⟨_, rfl, GrowC.refl _, rfl⟩
    | 27, _ =>
      obtain rfl := Option.some.inj ho
      clear ho
      simp only [actsD, List.getD_cons_zero, List.getD_cons_succ, List.foldl_cons, List.foldl_nil, Act.put, List.setIfInBounds_toArray, List.set_cons_succ, List.set_cons_zero]
      obtain ⟨_, _, _, h25⟩ := hp 25 (by simp)
      simp only [PFh12] at h25
      have hsz := hg.size
      have hgB : Below w10.heap.size w10 w' := hg.below (fun k hk => ⟨hk, fun o => by rintro ⟨j, _, _, _, hw⟩; exact False.elim hw⟩)
      rw [h25]
      go_wp2
      exact ⟨_, rfl, GrowC.refl _, rfl⟩
    | 28, _ =>
      obtain rfl := Option.some.inj ho
      clear ho
      simp only [actsD, List.getD_cons_zero, List.getD_cons_succ, List.foldl_cons, List.foldl_nil, Act.put, List.setIfInBounds_toArray, List.set_cons_succ, List.set_cons_zero]
      obtain ⟨_, _, _, h25⟩ := hp 25 (by simp)
      simp only [PFh12] at h25
      obtain ⟨_, _, _, h26⟩ := hp 26 (by simp)
      simp only [PFh12] at h26
      obtain ⟨_, _, _, h27⟩ := hp 27 (by simp)
      simp only [PFh12] at h27
      have hsz := hg.size
      have hgB : Below w10.heap.size w10 w' := hg.below (fun k hk => ⟨hk, fun o => by rintro ⟨j, _, _, _, hw⟩; exact False.elim hw⟩)
      rw [h25, h26, h27]
      go_wp2
      exact ⟨_, rfl, GrowC.refl _, rfl⟩
    | 29, _ =>
      obtain rfl := Option.some.inj ho
      clear ho
      simp only [actsD, List.getD_cons_zero, List.getD_cons_succ, List.foldl_cons, List.foldl_nil, Act.put, List.setIfInBounds_toArray, List.set_cons_succ, List.set_cons_zero]
      obtain ⟨_, _, _, h25⟩ := hp 25 (by simp)
      simp only [PFh12] at h25
      obtain ⟨_, _, _, h28⟩ := hp 28 (by simp)
      simp only [PFh12] at h28
      have hsz := hg.size
      have hgB : Below w10.heap.size w10 w' := hg.below (fun k hk => ⟨hk, fun o => by rintro ⟨j, _, _, _, hw⟩; exact False.elim hw⟩)
      rw [h25, h28]
      go_wp2
      exact ⟨_, rfl, GrowC.refl _, rfl⟩
    | 30, _ =>
      obtain rfl := Option.some.inj ho
      clear ho
      simp only [actsD, List.getD_cons_zero, List.getD_cons_succ, List.foldl_cons, List.foldl_nil, Act.put, List.setIfInBounds_toArray, List.set_cons_succ, List.set_cons_zero]
      obtain ⟨_, _, _, h29⟩ := hp 29 (by simp)
      simp only [PFh12] at h29
      have hsz := hg.size
      have hgB : Below w10.heap.size w10 w' := hg.below (fun k hk => ⟨hk, fun o => by rintro ⟨j, _, _, _, hw⟩; exact False.elim hw⟩)
      rw [h29]
      go_wp2
      exact ⟨_, rfl, GrowC.refl _, rfl⟩
    | 31, _ =>
      obtain rfl := Option.some.inj ho
      clear ho
      simp only [actsD, List.getD_cons_zero, List.getD_cons_succ, List.foldl_cons, List.foldl_nil, Act.put, List.setIfInBounds_toArray, List.set_cons_succ, List.set_cons_zero]
      obtain ⟨_, _, _, h30⟩ := hp 30 (by simp)
      simp only [PFh12] at h30
      have hsz := hg.size
      have hgB : Below w10.heap.size w10 w' := hg.below (fun k hk => ⟨hk, fun o => by rintro ⟨j, _, _, _, hw⟩; exact False.elim hw⟩)
      rw [h30]
      exact part_fld rfl rfl rfl (fldN4 _ _) rfl
    | 32, _ =>
      obtain rfl := Option.some.inj ho
      clear ho
      simp only [actsD, List.getD_cons_zero, List.getD_cons_succ, List.foldl_cons, List.foldl_nil, Act.put, List.setIfInBounds_toArray, List.set_cons_succ, List.set_cons_zero]
      obtain ⟨_, _, _, h30⟩ := hp 30 (by simp)
      simp only [PFh12] at h30
      obtain ⟨_, _, _, h31⟩ := hp 31 (by simp)
      simp only [PFh12] at h31
      have hsz := hg.size
      have hgB : Below w10.heap.size w10 w' := hg.below (fun k hk => ⟨hk, fun o => by rintro ⟨j, _, _, _, hw⟩; exact False.elim hw⟩)
      rw [h30, h31]
      have e0 := (hg.cell (g3) 4 bm.lt (by rintro ⟨j, _, hne, hb, hw⟩; exact False.elim hw)).trans (bm.cell 4 _ rfl)
      go_wp2
      exact ⟨_, rfl, GrowC.refl _, rfl⟩
    | 33, _ =>
      obtain rfl := Option.some.inj ho
      clear ho
      simp only [actsD, List.getD_cons_zero, List.getD_cons_succ, List.foldl_cons, List.foldl_nil, Act.put, List.setIfInBounds_toArray, List.set_cons_succ, List.set_cons_zero]
      obtain ⟨_, _, _, h30⟩ := hp 30 (by simp)
      simp only [PFh12] at h30
      have hsz := hg.size
      have hgB : Below w10.heap.size w10 w' := hg.below (fun k hk => ⟨hk, fun o => by rintro ⟨j, _, _, _, hw⟩; exact False.elim hw⟩)
      rw [h30]
      exact part_fld rfl rfl rfl (fldN4 _ _) rfl
    | 34, _ =>
      obtain rfl := Option.some.inj ho
      clear ho
      simp only [actsD, List.getD_cons_zero, List.getD_cons_succ, List.foldl_cons, List.foldl_nil, Act.put, List.setIfInBounds_toArray, List.set_cons_succ, List.set_cons_zero]
      obtain ⟨_, _, _, h30⟩ := hp 30 (by simp)
      simp only [PFh12] at h30
      obtain ⟨_, _, _, h33⟩ := hp 33 (by simp)
      simp only [PFh12] at h33
      have hsz := hg.size
      have hgB : Below w10.heap.size w10 w' := hg.below (fun k hk => ⟨hk, fun o => by rintro ⟨j, _, _, _, hw⟩; exact False.elim hw⟩)
      rw [h30, h33]
      have e0 := (hg.cell (g) 4 ba.lt (by rintro ⟨j, _, hne, hb, hw⟩; exact False.elim hw)).trans (ba.cell 4 _ rfl)
      go_wp2
      exact ⟨_, rfl, GrowC.refl _, rfl⟩
    | 35, _ =>
      obtain rfl := Option.some.inj ho
      clear ho
      simp only [actsD, List.getD_cons_zero, List.getD_cons_succ, List.foldl_cons, List.foldl_nil, Act.put, List.setIfInBounds_toArray, List.set_cons_succ, List.set_cons_zero]
      obtain ⟨_, _, _, h30⟩ := hp 30 (by simp)
      simp only [PFh12] at h30
      obtain ⟨_, _, _, h32⟩ := hp 32 (by simp)
      simp only [PFh12] at h32
      obtain ⟨_, _, _, h34⟩ := hp 34 (by simp)
      simp only [PFh12] at h34
      have hsz := hg.size
      have hgB : Below w10.heap.size w10 w' := hg.below (fun k hk => ⟨hk, fun o => by rintro ⟨j, _, _, _, hw⟩; exact False.elim hw⟩)
      rw [h30, h32, h34]
      go_wp2
      exact ⟨_, rfl, GrowC.refl _, rfl⟩
    | 36, _ =>
      obtain rfl := Option.some.inj ho
      clear ho
      simp only [actsD, List.getD_cons_zero, List.getD_cons_succ, List.foldl_cons, List.foldl_nil, Act.put, List.setIfInBounds_toArray, List.set_cons_succ, List.set_cons_zero]
      obtain ⟨_, _, _, h30⟩ := hp 30 (by simp)
      simp only [PFh12] at h30
      obtain ⟨_, _, _, h35⟩ := hp 35 (by simp)
      simp only [PFh12] at h35
      have hsz := hg.size
      have hgB : Below w10.heap.size w10 w' := hg.below (fun k hk => ⟨hk, fun o => by rintro ⟨j, _, _, _, hw⟩; exact False.elim hw⟩)
      rw [h30, h35]
      go_wp2
      exact ⟨_, rfl, GrowC.refl _, rfl⟩
    | (q + 37), hq => exact absurd hq (by omega)
  intro vS lo hi w11 hg hp hd
  obtain ⟨_, _, _, h0⟩ := hp 0 (by omega)
  obtain ⟨_, _, _, h1⟩ := hp 1 (by omega)
  obtain ⟨_, _, _, h2⟩ := hp 2 (by omega)
  obtain ⟨_, _, _, h3⟩ := hp 3 (by omega)
  obtain ⟨_, _, _, h4⟩ := hp 4 (by omega)
  obtain ⟨_, _, _, h5⟩ := hp 5 (by omega)
  obtain ⟨_, _, _, h6⟩ := hp 6 (by omega)
  obtain ⟨_, _, _, h7⟩ := hp 7 (by omega)
  obtain ⟨_, _, _, h8⟩ := hp 8 (by omega)
  obtain ⟨_, _, _, h9⟩ := hp 9 (by omega)
  obtain ⟨_, _, _, h10⟩ := hp 10 (by omega)
  obtain ⟨_, _, _, h11⟩ := hp 11 (by omega)
  obtain ⟨_, _, _, h12⟩ := hp 12 (by omega)
  obtain ⟨_, _, _, h13⟩ := hp 13 (by omega)
  obtain ⟨_, _, _, h14⟩ := hp 14 (by omega)
  obtain ⟨_, _, _, h15⟩ := hp 15 (by omega)
  obtain ⟨_, _, _, h16⟩ := hp 16 (by omega)
  obtain ⟨_, _, _, h17⟩ := hp 17 (by omega)
  obtain ⟨_, _, _, h18⟩ := hp 18 (by omega)
  obtain ⟨_, _, _, h19⟩ := hp 19 (by omega)
  obtain ⟨_, _, _, h20⟩ := hp 20 (by omega)
  obtain ⟨_, _, _, h21⟩ := hp 21 (by omega)
  obtain ⟨_, _, _, h22⟩ := hp 22 (by omega)
  obtain ⟨_, _, _, h23⟩ := hp 23 (by omega)
  obtain ⟨_, _, _, h24⟩ := hp 24 (by omega)
  obtain ⟨_, _, _, h25⟩ := hp 25 (by omega)
  obtain ⟨_, _, _, h26⟩ := hp 26 (by omega)
  obtain ⟨_, _, _, h27⟩ := hp 27 (by omega)
  obtain ⟨_, _, _, h28⟩ := hp 28 (by omega)
  obtain ⟨_, _, _, h29⟩ := hp 29 (by omega)
  obtain ⟨_, _, _, h30⟩ := hp 30 (by omega)
  obtain ⟨_, _, _, h31⟩ := hp 31 (by omega)
  obtain ⟨_, _, _, h32⟩ := hp 32 (by omega)
  obtain ⟨_, _, _, h33⟩ := hp 33 (by omega)
  obtain ⟨_, _, _, h34⟩ := hp 34 (by omega)
  obtain ⟨_, _, _, h35⟩ := hp 35 (by omega)
  obtain ⟨_, _, _, h36⟩ := hp 36 (by omega)
  simp only [PFh12] at h0 h1 h2 h3 h4 h5 h6 h7 h8 h9 h10 h11 h12 h13 h14 h15 h16 h17 h18 h19 h20 h21 h22 h23 h24 h25 h26 h27 h28 h29 h30 h31 h32 h33 h34 h35 h36
  clear hp hd
  have hsz := hg.size
  replace ba := ba.grow hg (by intro i _; rintro ⟨j, _, hw⟩; exact False.elim hw)
  replace bm := bm.grow hg (by intro i _; rintro ⟨j, _, hw⟩; exact False.elim hw)
  replace bd := bd.grow hg (by intro i _; rintro ⟨j, _, hw⟩; exact False.elim hw)
  replace hB := hB.trans (hg.below (fun k hk => ⟨by omega, fun o => by rintro ⟨j, _, hw⟩; exact False.elim hw⟩))
  have hr : List.range 37 = [0, 1, 2, 3, 4, 5, 6, 7, 8, 9, 10, 11, 12, 13, 14, 15, 16, 17, 18, 19, 20, 21, 22, 23, 24, 25, 26, 27, 28, 29, 30, 31, 32, 33, 34, 35, 36] := rfl
  rw [hr]
  clear hr
  simp only [List.drop_succ_cons, List.drop_zero, List.drop_nil, actsD, List.getD_cons_zero, List.getD_cons_succ, List.foldl_cons, List.foldl_nil, Act.put, List.setIfInBounds_toArray, List.set_cons_succ, List.set_cons_zero, h0, h1, h2, h3, h4, h5, h6, h7, h8, h9, h10, h11, h12, h13, h14, h15, h16, h17, h18, h19, h20, h21, h22, h23, h24, h25, h26, h27, h28, h29, h30, h31, h32, h33, h34, h35, h36]
  clear h0 h1 h2 h3 h4 h5 h6 h7 h8 h9 h10 h11 h12 h13 h14 h15 h16 h17 h18 h19 h20 h21 h22 h23 h24 h25 h26 h27 h28 h29 h30 h31 h32 h33 h34 h35 h36
  have hbb : Below w10.heap.size w10 w11 := hg.below (fun k hk => ⟨hk, fun o => by rintro ⟨j, _, hw⟩; exact hw⟩)
  replace HX := Lib.hid (HX.out.below hbb (Nat.le_refl _))
  replace HYAT := Lib.hid (HYAT.out.below hbb (Nat.le_refl _))
  replace HZAT := Lib.hid (HZAT.out.below hbb (Nat.le_refl _))
  have hmc7 := (hbb.cell (p := ⟨mg, mo + p, none⟩) hmg).trans HMC.out
  replace HMC := Lib.hid hmc7
  replace HMR := Lib.hid (HMR.out.below hbb (Nat.le_refl _))
  replace hmg := Nat.lt_of_lt_of_le hmg hbb.size
  clear hmc7
  replace hs := Nat.le_trans hs hbb.size
  clear hg hbb hsz
  have ca0 := ba.cell 0 _ rfl
  have ca1 := ba.cell 1 _ rfl
  have ca2 := ba.cell 2 _ rfl
  have ca3 := ba.cell 3 _ rfl
  have ca4 := ba.cell 4 _ rfl
  have fa := ba.free
  have cm0 := bm.cell 0 _ rfl
  have cm1 := bm.cell 1 _ rfl
  have cm2 := bm.cell 2 _ rfl
  have cm3 := bm.cell 3 _ rfl
  have cm4 := bm.cell 4 _ rfl
  have fm := bm.free
  have cd0 := bd.cell 0 _ rfl
  have cd1 := bd.cell 1 _ rfl
  have cd2 := bd.cell 2 _ rfl
  have cd3 := bd.cell 3 _ rfl
  have cd4 := bd.cell 4 _ rfl
  have fd := bd.free
  go_wp2_with fail
  clear ca0 ca1 ca2 ca3 ca4 fa
  clear cm0 cm1 cm2 cm3 cm4 fm
  clear cd0 cd1 cd2 cd3 cd4 fd
  have hkb := HBASE.out w11 hB
  have hekb : ek ≤ 1152921504606846976 := by have := HZ.out; have h2 := (hsm.del k).keys; rw [this, HEK.out] at h2; omega
  refine (find_any z.keys true n (.slice ea ek ek) (.slice eb ev ev) (.slice ec ed ed) (.slice qa kl qc) rfl rfl k kl w11 HZAT.out.keys hkb.1 (by rw [HEK.out]; exact hekb)).mono ?_
  rintro e w12 ⟨rfl, hb12⟩
  rw [HZP.out, HGONE.out]
  clear hkb hekb
  have hmc7 := (hb12.cell (p := ⟨mg, mo + p, none⟩) hmg).trans HMC.out
  replace HMC := Lib.hid hmc7
  replace HMR := Lib.hid (HMR.out.below hb12 (Nat.le_refl _))
  replace hmg := Nat.lt_of_lt_of_le hmg hb12.size
  clear hmc7
  replace ba := ba.below hb12 (Nat.le_refl _)
  replace bm := bm.below hb12 (Nat.le_refl _)
  replace bd := bd.below hb12 (Nat.le_refl _)
  replace hB := hB.trans (hb12.mono (by omega))
  replace HX := Lib.hid (HX.out.below hb12 (Nat.le_refl _))
  replace HYAT := Lib.hid (HYAT.out.below hb12 (Nat.le_refl _))
  replace HZAT := Lib.hid (HZAT.out.below hb12 (Nat.le_refl _))
  replace hs := Nat.le_trans hs hb12.size
  clear hb12
  have ca0 := ba.cell 0 _ rfl
  have ca1 := ba.cell 1 _ rfl
  have ca2 := ba.cell 2 _ rfl
  have ca3 := ba.cell 3 _ rfl
  have ca4 := ba.cell 4 _ rfl
  have fa := ba.free
  have cm0 := bm.cell 0 _ rfl
  have cm1 := bm.cell 1 _ rfl
  have cm2 := bm.cell 2 _ rfl
  have cm3 := bm.cell 3 _ rfl
  have cm4 := bm.cell 4 _ rfl
  have fm := bm.free
  have cd0 := bd.cell 0 _ rfl
  have cd1 := bd.cell 1 _ rfl
  have cd2 := bd.cell 2 _ rfl
  have cd3 := bd.cell 3 _ rfl
  have cd4 := bd.cell 4 _ rfl
  have fd := bd.free
  go_upto_region 18 with (fail)
  clear ca0 ca1 ca2 ca3 ca4 fa
  clear cm0 cm1 cm2 cm3 cm4 fm
  clear cd0 cd1 cd2 cd3 cd4 fd
  refine wp_region_partsDC (WFh18 nk kc nv vc nd dc kl qc vl uc p g g3 g4 mk mv md ek ev ed sz mg mo n ka va da qa ua ma mc ea eb ec true k v x y z) 33 [[], [0], [0, 1], [], [0, 1, 2, 3], [0, 1, 2, 3, 4], [0, 1, 2, 3, 4, 5], [0, 1, 2, 3, 4, 5, 6], [0, 1, 2, 3, 4, 5, 6, 7], [0, 1, 2, 3, 4, 5, 6, 7, 8], [0, 1, 2, 3, 4, 5, 6, 7, 8, 9], [0, 1, 2, 3, 4, 5, 6, 7, 8, 9, 10], [0, 1, 2, 3, 4, 5, 6, 7, 8, 9, 10, 11], [0, 1, 2, 3, 4, 5, 6, 7, 8, 9, 10, 11, 12], [0, 1, 2, 3, 4, 5, 6, 7, 8, 9, 10], [0, 1, 2, 3, 4, 5, 6, 7, 8, 9, 10, 14], [0, 1, 2, 3, 4, 5, 6, 7, 8, 9, 10, 14, 15], [0, 1, 2, 3, 4, 5, 6, 7, 8, 9, 10, 14, 15, 16], [0, 1, 2, 3, 4, 5, 6, 7, 8, 9, 10, 11, 12, 13, 14, 15, 16, 17], [0, 1, 2, 3, 4, 5, 6, 7, 8, 9, 10, 11, 12, 13, 14, 15, 16, 17, 18], [0, 1, 2, 3, 4, 5, 6, 7, 8, 9, 10, 11, 12, 13, 14, 15, 16, 17, 18, 19], [0, 1, 2, 3, 4, 5, 6, 7, 8, 9, 10, 11, 12, 13, 14, 15, 16, 17, 18, 19, 20], [0, 1, 2, 3, 4, 5, 6, 7, 8, 9, 10, 11, 12, 13, 14, 15, 16, 17, 18, 19, 20, 21], [0, 1, 2, 3, 4, 5, 6, 7, 8, 9, 10, 11, 12, 13, 14, 15, 16, 17, 18, 19, 20, 21, 22], [0, 1, 2, 3, 4, 5, 6, 7, 8, 9, 10, 11, 12, 13, 14, 15, 16, 17, 18, 19, 20, 21, 22, 23], [0, 1, 2, 3, 4, 5, 6, 7, 8, 9, 10, 11, 12, 13, 14, 15, 16, 17, 18, 19, 20, 21, 22, 23, 24], [0, 1, 2, 3, 4, 5, 6, 7, 8, 9, 10, 11, 12, 13, 14, 15, 16, 17, 18, 19, 20, 21, 22, 23, 24, 25], [0, 1, 2, 3, 4, 5, 6, 7, 8, 9, 10, 11, 12, 13, 14, 15, 16, 17, 18, 19, 20, 21, 22, 23, 24], [0, 1, 2, 3, 4, 5, 6, 7, 8, 9, 10, 11, 12, 13, 14, 15, 16, 17, 18, 19, 20, 21, 22, 23, 24, 25, 26, 27], [0, 1, 2, 3, 4, 5, 6, 7, 8, 9, 10, 11, 12, 13, 14, 15, 16, 17, 18, 19, 20, 21, 22, 23, 24, 25, 26, 27, 28], [0, 1, 2, 3, 4, 5, 6, 7, 8, 9, 10, 11, 12, 13, 14, 15, 16, 17, 18, 19, 20, 21, 22, 23, 24, 25, 26, 27, 28, 29], [0, 1, 2, 3, 4, 5, 6, 7, 8, 9, 10, 11, 12, 13, 14, 15, 16, 17, 18, 19, 20, 21, 22, 23, 24, 25, 26, 27, 28, 29, 30], [0, 1, 2, 3, 4, 5, 6, 7, 8, 9, 10, 11, 12, 13, 14, 15, 16, 17, 18, 19, 20, 21, 22, 23, 24, 25, 26, 27, 28, 29, 30, 31]] [some 143, some 144, some 145, some 146, some 147, some 148, some 149, some 150, some 151, some 152, some 153, some 154, some 155, some 156, some 157, some 158, some 159, some 160, some 161, some 162, some 163, some 164, some 165, some 166, some 167, some 168, some 169, some 170, some 171, some 172, some 173, some 174, some 175] (by kernel_rfl) (by kernel_rfl) rfl (PFh18 nk kc nv vc nd dc kl qc vl uc p g g3 g4 mk mv md ek ev ed sz mg mo n ka va da qa ua ma mc ea eb ec true k v x y z) (PFh18_stable nk kc nv vc nd dc kl qc vl uc p g g3 g4 mk mv md ek ev ed sz mg mo n ka va da qa ua ma mc ea eb ec true k v x y z ) ?pFh18 ?_
  case pFh18 =>
    intro i hi o ho vs lo hx_ w' hg hp
    match i, hi with
    | 0, _ =>
      obtain rfl := Option.some.inj ho
      clear ho
      simp only [actsD, List.getD_cons_zero, List.getD_cons_succ, List.foldl_cons, List.foldl_nil, Act.put, List.setIfInBounds_toArray, List.set_cons_succ, List.set_cons_zero]
      have hsz := hg.size
      have hgB : Below w12.heap.size w12 w' := hg.below (fun k hk => ⟨hk, fun o => by rintro ⟨j, _, _, _, hw⟩; exact False.elim hw⟩)
      exact part_fld rfl rfl rfl (fldN1 _ _) rfl
    | 1, _ =>
      obtain rfl := Option.some.inj ho
      clear ho
      simp only [actsD, List.getD_cons_zero, List.getD_cons_succ, List.foldl_cons, List.foldl_nil, Act.put, List.setIfInBounds_toArray, List.set_cons_succ, List.set_cons_zero]
      obtain ⟨_, _, _, h0⟩ := hp 0 (by simp)
      simp only [PFh18] at h0
      have hsz := hg.size
      have hgB : Below w12.heap.size w12 w' := hg.below (fun k hk => ⟨hk, fun o => by rintro ⟨j, _, _, _, hw⟩; exact False.elim hw⟩)
      rw [h0]
      have e0 := (hg.cell (g3) 1 bm.lt (by rintro ⟨j, _, hne, hb, hw⟩; exact False.elim hw)).trans (bm.cell 1 _ rfl)
      go_wp2
      exact ⟨_, rfl, GrowC.refl _, rfl⟩
    | 2, _ =>
      obtain rfl := Option.some.inj ho
      clear ho
      simp only [actsD, List.getD_cons_zero, List.getD_cons_succ, List.foldl_cons, List.foldl_nil, Act.put, List.setIfInBounds_toArray, List.set_cons_succ, List.set_cons_zero]
      obtain ⟨_, _, _, h1⟩ := hp 1 (by simp)
      simp only [PFh18] at h1
      have hsz := hg.size
      have hgB : Below w12.heap.size w12 w' := hg.below (fun k hk => ⟨hk, fun o => by rintro ⟨j, _, _, _, hw⟩; exact False.elim hw⟩)
      rw [h1]
      go_wp2
      exact ⟨_, rfl, GrowC.refl _, rfl⟩
    | 3, _ =>
      obtain rfl := Option.some.inj ho
      clear ho
      simp only [actsD, List.getD_cons_zero, List.getD_cons_succ, List.foldl_cons, List.foldl_nil, Act.put, List.setIfInBounds_toArray, List.set_cons_succ, List.set_cons_zero]
      have hsz := hg.size
      have hgB : Below w12.heap.size w12 w' := hg.below (fun k hk => ⟨hk, fun o => by rintro ⟨j, _, _, _, hw⟩; exact False.elim hw⟩)
      go_wp2
      exact ⟨_, rfl, GrowC.refl _, rfl⟩
    | 4, _ =>
      obtain rfl := Option.some.inj ho
      clear ho
      simp only [actsD, List.getD_cons_zero, List.getD_cons_succ, List.foldl_cons, List.foldl_nil, Act.put, List.setIfInBounds_toArray, List.set_cons_succ, List.set_cons_zero]
      obtain ⟨_, _, _, h2⟩ := hp 2 (by simp)
      simp only [PFh18] at h2
      obtain ⟨_, _, _, h3⟩ := hp 3 (by simp)
      simp only [PFh18] at h3
      have hsz := hg.size
      have hgB : Below w12.heap.size w12 w' := hg.below (fun k hk => ⟨hk, fun o => by rintro ⟨j, _, _, _, hw⟩; exact False.elim hw⟩)
      rw [h2, h3]
      have e1 : ((mk : Int) != (nk : Int)) = false := by have := HMLEN.out; rw [HNK.out] at this; simp [bne]; omega
      go_wp2
      exact ⟨_, rfl, GrowC.refl _, rfl⟩
    | 5, _ =>
      obtain rfl := Option.some.inj ho
      clear ho
      simp only [actsD, List.getD_cons_zero, List.getD_cons_succ, List.foldl_cons, List.foldl_nil, Act.put, List.setIfInBounds_toArray, List.set_cons_succ, List.set_cons_zero]
      obtain ⟨_, _, _, h4⟩ := hp 4 (by simp)
      simp only [PFh18] at h4
      have hsz := hg.size
      have hgB : Below w12.heap.size w12 w' := hg.below (fun k hk => ⟨hk, fun o => by rintro ⟨j, _, _, _, hw⟩; exact False.elim hw⟩)
      rw [h4]
      go_wp2
      exact ⟨_, rfl, GrowC.refl _, rfl⟩
    | 6, _ =>
      obtain rfl := Option.some.inj ho
      clear ho
      simp only [actsD, List.getD_cons_zero, List.getD_cons_succ, List.foldl_cons, List.foldl_nil, Act.put, List.setIfInBounds_toArray, List.set_cons_succ, List.set_cons_zero]
      obtain ⟨_, _, _, h5⟩ := hp 5 (by simp)
      simp only [PFh18] at h5
      have hsz := hg.size
      have hgB : Below w12.heap.size w12 w' := hg.below (fun k hk => ⟨hk, fun o => by rintro ⟨j, _, _, _, hw⟩; exact False.elim hw⟩)
      rw [h5]
      go_wp2
      exact ⟨_, rfl, GrowC.refl _, rfl⟩
    | 7, _ =>
      obtain rfl := Option.some.inj ho
      clear ho
      simp only [actsD, List.getD_cons_zero, List.getD_cons_succ, List.foldl_cons, List.foldl_nil, Act.put, List.setIfInBounds_toArray, List.set_cons_succ, List.set_cons_zero]
      obtain ⟨_, _, _, h5⟩ := hp 5 (by simp)
      simp only [PFh18] at h5
      obtain ⟨_, _, _, h6⟩ := hp 6 (by simp)
      simp only [PFh18] at h6
      have hsz := hg.size
      have hgB : Below w12.heap.size w12 w' := hg.below (fun k hk => ⟨hk, fun o => by rintro ⟨j, _, _, _, hw⟩; exact False.elim hw⟩)
      rw [h5, h6]
      go_wp2
      exact ⟨_, rfl, GrowC.refl _, rfl⟩
    | 8, _ =>
      obtain rfl := Option.some.inj ho
      clear ho
      simp only [actsD, List.getD_cons_zero, List.getD_cons_succ, List.foldl_cons, List.foldl_nil, Act.put, List.setIfInBounds_toArray, List.set_cons_succ, List.set_cons_zero]
      obtain ⟨_, _, _, h7⟩ := hp 7 (by simp)
      simp only [PFh18] at h7
      have hsz := hg.size
      have hgB : Below w12.heap.size w12 w' := hg.below (fun k hk => ⟨hk, fun o => by rintro ⟨j, _, _, _, hw⟩; exact False.elim hw⟩)
      rw [h7]
      go_wp2
      exact ⟨_, rfl, GrowC.refl _, rfl⟩
    | 9, _ =>
      obtain rfl := Option.some.inj ho
      clear ho
      simp only [actsD, List.getD_cons_zero, List.getD_cons_succ, List.foldl_cons, List.foldl_nil, Act.put, List.setIfInBounds_toArray, List.set_cons_succ, List.set_cons_zero]
      obtain ⟨_, _, _, h8⟩ := hp 8 (by simp)
      simp only [PFh18] at h8
      have hsz := hg.size
      have hgB : Below w12.heap.size w12 w' := hg.below (fun k hk => ⟨hk, fun o => by rintro ⟨j, _, _, _, hw⟩; exact False.elim hw⟩)
      rw [h8]
      go_wp2
      exact ⟨_, rfl, GrowC.refl _, rfl⟩
    | 10, _ =>
      obtain rfl := Option.some.inj ho
      clear ho
      simp only [actsD, List.getD_cons_zero, List.getD_cons_succ, List.foldl_cons, List.foldl_nil, Act.put, List.setIfInBounds_toArray, List.set_cons_succ, List.set_cons_zero]
      obtain ⟨_, _, _, h8⟩ := hp 8 (by simp)
      simp only [PFh18] at h8
      obtain ⟨_, _, _, h9⟩ := hp 9 (by simp)
      simp only [PFh18] at h9
      have hsz := hg.size
      have hgB : Below w12.heap.size w12 w' := hg.below (fun k hk => ⟨hk, fun o => by rintro ⟨j, _, _, _, hw⟩; exact False.elim hw⟩)
      rw [h8, h9]
      go_wp2
      exact ⟨_, rfl, GrowC.refl _, rfl⟩
    | 11, _ =>
      obtain rfl := Option.some.inj ho
      clear ho
      simp only [actsD, List.getD_cons_zero, List.getD_cons_succ, List.foldl_cons, List.foldl_nil, Act.put, List.setIfInBounds_toArray, List.set_cons_succ, List.set_cons_zero]
      obtain ⟨_, _, _, h10⟩ := hp 10 (by simp)
      simp only [PFh18] at h10
      have hsz := hg.size
      have hgB : Below w12.heap.size w12 w' := hg.below (fun k hk => ⟨hk, fun o => by rintro ⟨j, _, _, _, hw⟩; exact False.elim hw⟩)
      rw [h10]
      exact part_fld rfl rfl rfl (fldN1 _ _) rfl
    | 12, _ =>
      obtain rfl := Option.some.inj ho
      clear ho
      simp only [actsD, List.getD_cons_zero, List.getD_cons_succ, List.foldl_cons, List.foldl_nil, Act.put, List.setIfInBounds_toArray, List.set_cons_succ, List.set_cons_zero]
      obtain ⟨_, _, _, h10⟩ := hp 10 (by simp)
      simp only [PFh18] at h10
      obtain ⟨_, _, _, h11⟩ := hp 11 (by simp)
      simp only [PFh18] at h11
      have hsz := hg.size
      have hgB : Below w12.heap.size w12 w' := hg.below (fun k hk => ⟨hk, fun o => by rintro ⟨j, _, _, _, hw⟩; exact False.elim hw⟩)
      rw [h10, h11]
      have e0 := (hg.cell (g4) 1 bd.lt (by rintro ⟨j, _, hne, hb, hw⟩; exact False.elim hw)).trans (bd.cell 1 _ rfl)
      go_wp2
      exact ⟨_, rfl, GrowC.refl _, rfl⟩
    | 13, _ =>
      obtain rfl := Option.some.inj ho
      clear ho
      simp only [actsD, List.getD_cons_zero, List.getD_cons_succ, List.foldl_cons, List.foldl_nil, Act.put, List.setIfInBounds_toArray, List.set_cons_succ, List.set_cons_zero]
      obtain ⟨_, _, _, h10⟩ := hp 10 (by simp)
      simp only [PFh18] at h10
      obtain ⟨_, _, _, h12⟩ := hp 12 (by simp)
      simp only [PFh18] at h12
      have hsz := hg.size
      have hgB : Below w12.heap.size w12 w' := hg.below (fun k hk => ⟨hk, fun o => by rintro ⟨j, _, _, _, hw⟩; exact False.elim hw⟩)
      rw [h10, h12]
      go_wp2
      exact ⟨_, rfl, GrowC.refl _, rfl⟩
    | 14, _ =>
      obtain rfl := Option.some.inj ho
      clear ho
      simp only [actsD, List.getD_cons_zero, List.getD_cons_succ, List.foldl_cons, List.foldl_nil, Act.put, List.setIfInBounds_toArray, List.set_cons_succ, List.set_cons_zero]
      obtain ⟨_, _, _, h10⟩ := hp 10 (by simp)
      simp only [PFh18] at h10
      have hsz := hg.size
      have hgB : Below w12.heap.size w12 w' := hg.below (fun k hk => ⟨hk, fun o => by rintro ⟨j, _, _, _, hw⟩; exact False.elim hw⟩)
      rw [h10]
      exact part_fld rfl rfl rfl (fldN1 _ _) rfl
    | 15, _ =>
      obtain rfl := Option.some.inj ho
      clear ho
      simp only [actsD, List.getD_cons_zero, List.getD_cons_succ, List.foldl_cons, List.foldl_nil, Act.put, List.setIfInBounds_toArray, List.set_cons_succ, List.set_cons_zero]
      obtain ⟨_, _, _, h10⟩ := hp 10 (by simp)
      simp only [PFh18] at h10
      obtain ⟨_, _, _, h14⟩ := hp 14 (by simp)
      simp only [PFh18] at h14
      have hsz := hg.size
      have hgB : Below w12.heap.size w12 w' := hg.below (fun k hk => ⟨hk, fun o => by rintro ⟨j, _, _, _, hw⟩; exact False.elim hw⟩)
      rw [h10, h14]
      have e0 := (hg.cell (g) 1 ba.lt (by rintro ⟨j, _, hne, hb, hw⟩; exact False.elim hw)).trans (ba.cell 1 _ rfl)
      go_wp2
      exact ⟨_, rfl, GrowC.refl _, rfl⟩
    | 16, _ =>
      obtain rfl := Option.some.inj ho
      clear ho
      simp only [actsD, List.getD_cons_zero, List.getD_cons_succ, List.foldl_cons, List.foldl_nil, Act.put, List.setIfInBounds_toArray, List.set_cons_succ, List.set_cons_zero]
      obtain ⟨_, _, _, h10⟩ := hp 10 (by simp)
      simp only [PFh18] at h10
      obtain ⟨_, _, _, h15⟩ := hp 15 (by simp)
      simp only [PFh18] at h15
      have hsz := hg.size
      have hgB : Below w12.heap.size w12 w' := hg.below (fun k hk => ⟨hk, fun o => by rintro ⟨j, _, _, _, hw⟩; exact False.elim hw⟩)
      rw [h10, h15]
      go_wp2
      exact ⟨_, rfl, GrowC.refl _, rfl⟩
    | 17, _ =>
      obtain rfl := Option.some.inj ho
      clear ho
      simp only [actsD, List.getD_cons_zero, List.getD_cons_succ, List.foldl_cons, List.foldl_nil, Act.put, List.setIfInBounds_toArray, List.set_cons_succ, List.set_cons_zero]
      obtain ⟨_, _, _, h10⟩ := hp 10 (by simp)
      simp only [PFh18] at h10
      obtain ⟨_, _, _, h16⟩ := hp 16 (by simp)
      simp only [PFh18] at h16
      have hsz := hg.size
      have hgB : Below w12.heap.size w12 w' := hg.below (fun k hk => ⟨hk, fun o => by rintro ⟨j, _, _, _, hw⟩; exact False.elim hw⟩)
      rw [h10, h16]
      go_wp2
      exact ⟨_, rfl, GrowC.refl _, rfl⟩
    | 18, _ =>
      obtain rfl := Option.some.inj ho
      clear ho
      simp only [actsD, List.getD_cons_zero, List.getD_cons_succ, List.foldl_cons, List.foldl_nil, Act.put, List.setIfInBounds_toArray, List.set_cons_succ, List.set_cons_zero]
      obtain ⟨_, _, _, h10⟩ := hp 10 (by simp)
      simp only [PFh18] at h10
      obtain ⟨_, _, _, h13⟩ := hp 13 (by simp)
      simp only [PFh18] at h13
      obtain ⟨_, _, _, h17⟩ := hp 17 (by simp)
      simp only [PFh18] at h17
      have hsz := hg.size
      have hgB : Below w12.heap.size w12 w' := hg.below (fun k hk => ⟨hk, fun o => by rintro ⟨j, _, _, _, hw⟩; exact False.elim hw⟩)
      rw [h10, h13, h17]
      have e1 : ((ek : Int) != (nk : Int) - 1) = false := by have := HELEN.out; have h2 := HKPOS.out; rw [HNK.out] at this h2; simp [bne]; omega
      go_wp2
      exact ⟨_, rfl, GrowC.refl _, rfl⟩
    | 19, _ =>
      obtain rfl := Option.some.inj ho
      clear ho
      simp only [actsD, List.getD_cons_zero, List.getD_cons_succ, List.foldl_cons, List.foldl_nil, Act.put, List.setIfInBounds_toArray, List.set_cons_succ, List.set_cons_zero]
      obtain ⟨_, _, _, h8⟩ := hp 8 (by simp)
      simp only [PFh18] at h8
      obtain ⟨_, _, _, h10⟩ := hp 10 (by simp)
      simp only [PFh18] at h10
      obtain ⟨_, _, _, h18⟩ := hp 18 (by simp)
      simp only [PFh18] at h18
      have hsz := hg.size
      have hgB : Below w12.heap.size w12 w' := hg.below (fun k hk => ⟨hk, fun o => by rintro ⟨j, _, _, _, hw⟩; exact False.elim hw⟩)
      rw [h8, h10, h18]
      go_wp2
      exact ⟨_, rfl, GrowC.refl _, rfl⟩
    | 20, _ =>
      obtain rfl := Option.some.inj ho
      clear ho
      simp only [actsD, List.getD_cons_zero, List.getD_cons_succ, List.foldl_cons, List.foldl_nil, Act.put, List.setIfInBounds_toArray, List.set_cons_succ, List.set_cons_zero]
      obtain ⟨_, _, _, h8⟩ := hp 8 (by simp)
      simp only [PFh18] at h8
      obtain ⟨_, _, _, h19⟩ := hp 19 (by simp)
      simp only [PFh18] at h19
      have hsz := hg.size
      have hgB : Below w12.heap.size w12 w' := hg.below (fun k hk => ⟨hk, fun o => by rintro ⟨j, _, _, _, hw⟩; exact False.elim hw⟩)
      rw [h8, h19]
      go_wp2
      exact ⟨_, rfl, GrowC.refl _, rfl⟩
    | 21, _ =>
      obtain rfl := Option.some.inj ho
      clear ho
      simp only [actsD, List.getD_cons_zero, List.getD_cons_succ, List.foldl_cons, List.foldl_nil, Act.put, List.setIfInBounds_toArray, List.set_cons_succ, List.set_cons_zero]
      obtain ⟨_, _, _, h20⟩ := hp 20 (by simp)
      simp only [PFh18] at h20
      have hsz := hg.size
      have hgB : Below w12.heap.size w12 w' := hg.below (fun k hk => ⟨hk, fun o => by rintro ⟨j, _, _, _, hw⟩; exact False.elim hw⟩)
      rw [h20]
      go_wp2
      exact ⟨_, rfl, GrowC.refl _, rfl⟩
    | 22, _ =>
      obtain rfl := Option.some.inj ho
      clear ho
      simp only [actsD, List.getD_cons_zero, List.getD_cons_succ, List.foldl_cons, List.foldl_nil, Act.put, List.setIfInBounds_toArray, List.set_cons_succ, List.set_cons_zero]
      obtain ⟨_, _, _, h21⟩ := hp 21 (by simp)
      simp only [PFh18] at h21
      have hsz := hg.size
      have hgB : Below w12.heap.size w12 w' := hg.below (fun k hk => ⟨hk, fun o => by rintro ⟨j, _, _, _, hw⟩; exact False.elim hw⟩)
      rw [h21]
      go_wp2
      exact ⟨_, rfl, GrowC.refl _, rfl⟩
    | 23, _ =>
      obtain rfl := Option.some.inj ho
      clear ho
      simp only [actsD, List.getD_cons_zero, List.getD_cons_succ, List.foldl_cons, List.foldl_nil, Act.put, List.setIfInBounds_toArray, List.set_cons_succ, List.set_cons_zero]
      obtain ⟨_, _, _, h21⟩ := hp 21 (by simp)
      simp only [PFh18] at h21
      obtain ⟨_, _, _, h22⟩ := hp 22 (by simp)
      simp only [PFh18] at h22
      have hsz := hg.size
      have hgB : Below w12.heap.size w12 w' := hg.below (fun k hk => ⟨hk, fun o => by rintro ⟨j, _, _, _, hw⟩; exact False.elim hw⟩)
      rw [h21, h22]
      go_wp2
      exact ⟨_, rfl, GrowC.refl _, rfl⟩
    | 24, _ =>
      obtain rfl := Option.some.inj ho
      clear ho
      simp only [actsD, List.getD_cons_zero, List.getD_cons_succ, List.foldl_cons, List.foldl_nil, Act.put, List.setIfInBounds_toArray, List.set_cons_succ, List.set_cons_zero]
      obtain ⟨_, _, _, h21⟩ := hp 21 (by simp)
      simp only [PFh18] at h21
      obtain ⟨_, _, _, h23⟩ := hp 23 (by simp)
      simp only [PFh18] at h23
      have hsz := hg.size
      have hgB : Below w12.heap.size w12 w' := hg.below (fun k hk => ⟨hk, fun o => by rintro ⟨j, _, _, _, hw⟩; exact False.elim hw⟩)
      rw [h21, h23]
      go_wp2
      exact ⟨_, rfl, GrowC.refl _, rfl⟩
    | 25, _ =>
      obtain rfl := Option.some.inj ho
      clear ho
      simp only [actsD, List.getD_cons_zero, List.getD_cons_succ, List.foldl_cons, List.foldl_nil, Act.put, List.setIfInBounds_toArray, List.set_cons_succ, List.set_cons_zero]
      obtain ⟨_, _, _, h24⟩ := hp 24 (by simp)
      simp only [PFh18] at h24
      have hsz := hg.size
      have hgB : Below w12.heap.size w12 w' := hg.below (fun k hk => ⟨hk, fun o => by rintro ⟨j, _, _, _, hw⟩; exact False.elim hw⟩)
      rw [h24]
      go_wp2
      exact ⟨_, rfl, GrowC.refl _, rfl⟩
    | 26, _ =>
      obtain rfl := Option.some.inj ho
      clear ho
      simp only [actsD, List.getD_cons_zero, List.getD_cons_succ, List.foldl_cons, List.foldl_nil, Act.put, List.setIfInBounds_toArray, List.set_cons_succ, List.set_cons_zero]
      obtain ⟨_, _, _, h24⟩ := hp 24 (by simp)
      simp only [PFh18] at h24
      obtain ⟨_, _, _, h25⟩ := hp 25 (by simp)
      simp only [PFh18] at h25
      have hsz := hg.size
      have hgB : Below w12.heap.size w12 w' := hg.below (fun k hk => ⟨hk, fun o => by rintro ⟨j, _, _, _, hw⟩; exact False.elim hw⟩)
      rw [h24, h25]
      go_wp2
      exact ⟨_, rfl, GrowC.refl _, rfl⟩
    | 27, _ =>
      obtain rfl := Option.some.inj ho
      clear ho
      simp only [actsD, List.getD_cons_zero, List.getD_cons_succ, List.foldl_cons, List.foldl_nil, Act.put, List.setIfInBounds_toArray, List.set_cons_succ, List.set_cons_zero]
      obtain ⟨_, _, _, h24⟩ := hp 24 (by simp)
      simp only [PFh18] at h24
      have hsz := hg.size
      have hgB : Below w12.heap.size w12 w' := hg.below (fun k hk => ⟨hk, fun o => by rintro ⟨j, _, _, _, hw⟩; exact False.elim hw⟩)
      rw [h24]
      go_wp2
      exact ⟨_, rfl, GrowC.refl _, rfl⟩
    | 28, _ =>
      obtain rfl := Option.some.inj ho
      clear ho
      simp only [actsD, List.getD_cons_zero, List.getD_cons_succ, List.foldl_cons, List.foldl_nil, Act.put, List.setIfInBounds_toArray, List.set_cons_succ, List.set_cons_zero]
      obtain ⟨_, _, _, h24⟩ := hp 24 (by simp)
      simp only [PFh18] at h24
      obtain ⟨_, _, _, h27⟩ := hp 27 (by simp)
      simp only [PFh18] at h27
      have hsz := hg.size
      have hgB : Below w12.heap.size w12 w' := hg.below (fun k hk => ⟨hk, fun o => by rintro ⟨j, _, _, _, hw⟩; exact False.elim hw⟩)
      rw [h24, h27]
      go_wp2
      exact ⟨_, rfl, GrowC.refl _, rfl⟩
    | 29, _ =>
      obtain rfl := Option.some.inj ho
      clear ho
      simp only [actsD, List.getD_cons_zero, List.getD_cons_succ, List.foldl_cons, List.foldl_nil, Act.put, List.setIfInBounds_toArray, List.set_cons_succ, List.set_cons_zero]
      obtain ⟨_, _, _, h24⟩ := hp 24 (by simp)
      simp only [PFh18] at h24
      obtain ⟨_, _, _, h26⟩ := hp 26 (by simp)
      simp only [PFh18] at h26
      obtain ⟨_, _, _, h28⟩ := hp 28 (by simp)
      simp only [PFh18] at h28
      have hsz := hg.size
      have hgB : Below w12.heap.size w12 w' := hg.below (fun k hk => ⟨hk, fun o => by rintro ⟨j, _, _, _, hw⟩; exact False.elim hw⟩)
      rw [h24, h26, h28]
      go_wp2
      exact ⟨_, rfl, GrowC.refl _, rfl⟩
    | 30, _ =>
      obtain rfl := Option.some.inj ho
      clear ho
      simp only [actsD, List.getD_cons_zero, List.getD_cons_succ, List.foldl_cons, List.foldl_nil, Act.put, List.setIfInBounds_toArray, List.set_cons_succ, List.set_cons_zero]
      obtain ⟨_, _, _, h24⟩ := hp 24 (by simp)
      simp only [PFh18] at h24
      obtain ⟨_, _, _, h29⟩ := hp 29 (by simp)
      simp only [PFh18] at h29
      have hsz := hg.size
      have hgB : Below w12.heap.size w12 w' := hg.below (fun k hk => ⟨hk, fun o => by rintro ⟨j, _, _, _, hw⟩; exact False.elim hw⟩)
      rw [h24, h29]
      go_wp2
      exact ⟨_, rfl, GrowC.refl _, rfl⟩
    | 31, _ =>
      obtain rfl := Option.some.inj ho
      clear ho
      simp only [actsD, List.getD_cons_zero, List.getD_cons_succ, List.foldl_cons, List.foldl_nil, Act.put, List.setIfInBounds_toArray, List.set_cons_succ, List.set_cons_zero]
      obtain ⟨_, _, _, h21⟩ := hp 21 (by simp)
      simp only [PFh18] at h21
      obtain ⟨_, _, _, h24⟩ := hp 24 (by simp)
      simp only [PFh18] at h24
      obtain ⟨_, _, _, h30⟩ := hp 30 (by simp)
      simp only [PFh18] at h30
      have hsz := hg.size
      have hgB : Below w12.heap.size w12 w' := hg.below (fun k hk => ⟨hk, fun o => by rintro ⟨j, _, _, _, hw⟩; exact False.elim hw⟩)
      rw [h21, h24, h30]
      go_wp2
      exact ⟨_, rfl, GrowC.refl _, rfl⟩
    | 32, _ =>
      obtain rfl := Option.some.inj ho
      clear ho
      simp only [actsD, List.getD_cons_zero, List.getD_cons_succ, List.foldl_cons, List.foldl_nil, Act.put, List.setIfInBounds_toArray, List.set_cons_succ, List.set_cons_zero]
      obtain ⟨_, _, _, h21⟩ := hp 21 (by simp)
      simp only [PFh18] at h21
      obtain ⟨_, _, _, h31⟩ := hp 31 (by simp)
      simp only [PFh18] at h31
      have hsz := hg.size
      have hgB : Below w12.heap.size w12 w' := hg.below (fun k hk => ⟨hk, fun o => by rintro ⟨j, _, _, _, hw⟩; exact False.elim hw⟩)
      rw [h21, h31]
      go_wp2
      exact ⟨_, rfl, GrowC.refl _, rfl⟩
    | (q + 33), hq => exact absurd hq (by omega)
  intro vS lo hi w13 hg hp hd
  obtain ⟨_, _, _, h0⟩ := hp 0 (by omega)
  obtain ⟨_, _, _, h1⟩ := hp 1 (by omega)
  obtain ⟨_, _, _, h2⟩ := hp 2 (by omega)
  obtain ⟨_, _, _, h3⟩ := hp 3 (by omega)
  obtain ⟨_, _, _, h4⟩ := hp 4 (by omega)
  obtain ⟨_, _, _, h5⟩ := hp 5 (by omega)
  obtain ⟨_, _, _, h6⟩ := hp 6 (by omega)
  obtain ⟨_, _, _, h7⟩ := hp 7 (by omega)
  obtain ⟨_, _, _, h8⟩ := hp 8 (by omega)
  obtain ⟨_, _, _, h9⟩ := hp 9 (by omega)
  obtain ⟨_, _, _, h10⟩ := hp 10 (by omega)
  obtain ⟨_, _, _, h11⟩ := hp 11 (by omega)
  obtain ⟨_, _, _, h12⟩ := hp 12 (by omega)
  obtain ⟨_, _, _, h13⟩ := hp 13 (by omega)
  obtain ⟨_, _, _, h14⟩ := hp 14 (by omega)
  obtain ⟨_, _, _, h15⟩ := hp 15 (by omega)
  obtain ⟨_, _, _, h16⟩ := hp 16 (by omega)
  obtain ⟨_, _, _, h17⟩ := hp 17 (by omega)
  obtain ⟨_, _, _, h18⟩ := hp 18 (by omega)
  obtain ⟨_, _, _, h19⟩ := hp 19 (by omega)
  obtain ⟨_, _, _, h20⟩ := hp 20 (by omega)
  obtain ⟨_, _, _, h21⟩ := hp 21 (by omega)
  obtain ⟨_, _, _, h22⟩ := hp 22 (by omega)
  obtain ⟨_, _, _, h23⟩ := hp 23 (by omega)
  obtain ⟨_, _, _, h24⟩ := hp 24 (by omega)
  obtain ⟨_, _, _, h25⟩ := hp 25 (by omega)
  obtain ⟨_, _, _, h26⟩ := hp 26 (by omega)
  obtain ⟨_, _, _, h27⟩ := hp 27 (by omega)
  obtain ⟨_, _, _, h28⟩ := hp 28 (by omega)
  obtain ⟨_, _, _, h29⟩ := hp 29 (by omega)
  obtain ⟨_, _, _, h30⟩ := hp 30 (by omega)
  obtain ⟨_, _, _, h31⟩ := hp 31 (by omega)
  obtain ⟨_, _, _, h32⟩ := hp 32 (by omega)
  simp only [PFh18] at h0 h1 h2 h3 h4 h5 h6 h7 h8 h9 h10 h11 h12 h13 h14 h15 h16 h17 h18 h19 h20 h21 h22 h23 h24 h25 h26 h27 h28 h29 h30 h31 h32
  clear hp hd
  have hsz := hg.size
  replace ba := ba.grow hg (by intro i _; rintro ⟨j, _, hw⟩; exact False.elim hw)
  replace bm := bm.grow hg (by intro i _; rintro ⟨j, _, hw⟩; exact False.elim hw)
  replace bd := bd.grow hg (by intro i _; rintro ⟨j, _, hw⟩; exact False.elim hw)
  replace hB := hB.trans (hg.below (fun k hk => ⟨by omega, fun o => by rintro ⟨j, _, hw⟩; exact False.elim hw⟩))
  have hr : List.range 33 = [0, 1, 2, 3, 4, 5, 6, 7, 8, 9, 10, 11, 12, 13, 14, 15, 16, 17, 18, 19, 20, 21, 22, 23, 24, 25, 26, 27, 28, 29, 30, 31, 32] := rfl
  rw [hr]
  clear hr
  simp only [List.drop_succ_cons, List.drop_zero, List.drop_nil, actsD, List.getD_cons_zero, List.getD_cons_succ, List.foldl_cons, List.foldl_nil, Act.put, List.setIfInBounds_toArray, List.set_cons_succ, List.set_cons_zero, h0, h1, h2, h3, h4, h5, h6, h7, h8, h9, h10, h11, h12, h13, h14, h15, h16, h17, h18, h19, h20, h21, h22, h23, h24, h25, h26, h27, h28, h29, h30, h31, h32]
  clear h0 h1 h2 h3 h4 h5 h6 h7 h8 h9 h10 h11 h12 h13 h14 h15 h16 h17 h18 h19 h20 h21 h22 h23 h24 h25 h26 h27 h28 h29 h30 h31 h32
  have hbb : Below w12.heap.size w12 w13 := hg.below (fun k hk => ⟨hk, fun o => by rintro ⟨j, _, hw⟩; exact hw⟩)
  replace HX := Lib.hid (HX.out.below hbb (Nat.le_refl _))
  replace HYAT := Lib.hid (HYAT.out.below hbb (Nat.le_refl _))
  replace HZAT := Lib.hid (HZAT.out.below hbb (Nat.le_refl _))
  have hmc7 := (hbb.cell (p := ⟨mg, mo + p, none⟩) hmg).trans HMC.out
  replace HMC := Lib.hid hmc7
  replace HMR := Lib.hid (HMR.out.below hbb (Nat.le_refl _))
  replace hmg := Nat.lt_of_lt_of_le hmg hbb.size
  clear hmc7
  replace hs := Nat.le_trans hs hbb.size
  clear hg hbb hsz
  have ca0 := ba.cell 0 _ rfl
  have ca1 := ba.cell 1 _ rfl
  have ca2 := ba.cell 2 _ rfl
  have ca3 := ba.cell 3 _ rfl
  have ca4 := ba.cell 4 _ rfl
  have fa := ba.free
  have cm0 := bm.cell 0 _ rfl
  have cm1 := bm.cell 1 _ rfl
  have cm2 := bm.cell 2 _ rfl
  have cm3 := bm.cell 3 _ rfl
  have cm4 := bm.cell 4 _ rfl
  have fm := bm.free
  have cd0 := bd.cell 0 _ rfl
  have cd1 := bd.cell 1 _ rfl
  have cd2 := bd.cell 2 _ rfl
  have cd3 := bd.cell 3 _ rfl
  have cd4 := bd.cell 4 _ rfl
  have fd := bd.free
  go_wp2_with fail
  clear ca0 ca1 ca2 ca3 ca4 fa
  clear cm0 cm1 cm2 cm3 cm4 fm
  clear cd0 cd1 cd2 cd3 cd4 fd
  have hkb := HBASE.out w13 hB
  have hdel := del_any y hys (.slice ma mk mk) (.slice (some ⟨mg, mo, none⟩) mv mv) (.slice mc md md) k (.slice qa kl qc) w13 HYAT.out (by rw [HKL.out]; exact hkb.1) HKQ.out
  rw [HYL.out, HYN.out] at hdel
  refine hdel.mono ?_
  rintro e w14 ⟨r, rfl, ta, tb, tc, rfl, hku, hb14⟩
  clear hdel hkb
  obtain ⟨ob, hob⟩ : ∃ q, y.delOk k = q := ⟨_, rfl⟩
  rw [hob]
  clear hob
  obtain ⟨u, hu⟩ : ∃ u, y.del k = u := ⟨_, rfl⟩
  have hul : u.leaf = true := by rw [← hu, Nd.del_leaf]; exact HYL.out
  have hun : u.next = n := by rw [← hu, Nd.del_next]; exact HYN.out
  obtain ⟨tk, htk⟩ : ∃ q, u.keys.length = q := ⟨_, rfl⟩
  obtain ⟨tv, htv⟩ : ∃ q, u.vals.length = q := ⟨_, rfl⟩
  obtain ⟨td, htd⟩ : ∃ q, u.kids.length = q := ⟨_, rfl⟩
  simp only [nodeV, hu, hul, hun, htk, htv, htd]
  clear hku hu hul hun htk htv htd
  have hmc7 := (hb14.cell (p := ⟨mg, mo + p, none⟩) hmg).trans HMC.out
  replace HMC := Lib.hid hmc7
  replace HMR := Lib.hid (HMR.out.below hb14 (Nat.le_refl _))
  replace hmg := Nat.lt_of_lt_of_le hmg hb14.size
  clear hmc7
  replace ba := ba.below hb14 (Nat.le_refl _)
  replace bm := bm.below hb14 (Nat.le_refl _)
  replace bd := bd.below hb14 (Nat.le_refl _)
  replace hB := hB.trans (hb14.mono (by omega))
  replace HX := Lib.hid (HX.out.below hb14 (Nat.le_refl _))
  replace HYAT := Lib.hid (HYAT.out.below hb14 (Nat.le_refl _))
  replace HZAT := Lib.hid (HZAT.out.below hb14 (Nat.le_refl _))
  replace hs := Nat.le_trans hs hb14.size
  clear hb14
  obtain ⟨g5, hg5⟩ : ∃ g5, w14.heap.size = g5 := ⟨_, rfl⟩
  have bu := Box.new w14 #[.bool true, .slice ta tk tk, .slice tb tv tv, .slice tc td td, .int .i64 n] 25 hg5.symm
  have hgr := (Below.refl w14.heap.size w14).alloc (Nat.le_refl _) (.cells #[.bool true, .slice ta tk tk, .slice tb tv tv, .slice tc td td, .int .i64 n] 25)
  have h5g : g4 < g5 := by omega
  have hlt0 := ba.lt
  have hlt1 := bm.lt
  have hlt2 := bd.lt
  have HG5 := Lib.hid hg5
  have hs5 : g5 + 1 ≤ (w14.alloc (.cells #[.bool true, .slice ta tk tk, .slice tb tv tv, .slice tc td td, .int .i64 n] 25)).heap.size := by simp; omega
  have HW := Lib.hid (And.intro (ba.below hgr (Nat.le_refl _)) (And.intro bu (And.intro (hB.trans (hgr.mono (by omega))) (And.intro (HX.out.below hgr (Nat.le_refl _)) hs5))))
  clear bu hgr hg5 hB HX HYAT HZAT hs5 hs HMC HMR hmg 
  have ca0 := ba.cell 0 _ rfl
  have ca1 := ba.cell 1 _ rfl
  have ca2 := ba.cell 2 _ rfl
  have ca3 := ba.cell 3 _ rfl
  have ca4 := ba.cell 4 _ rfl
  have fa := ba.free
  have cm0 := bm.cell 0 _ rfl
  have cm1 := bm.cell 1 _ rfl
  have cm2 := bm.cell 2 _ rfl
  have cm3 := bm.cell 3 _ rfl
  have cm4 := bm.cell 4 _ rfl
  have fm := bm.free
  have cd0 := bd.cell 0 _ rfl
  have cd1 := bd.cell 1 _ rfl
  have cd2 := bd.cell 2 _ rfl
  have cd3 := bd.cell 3 _ rfl
  have cd4 := bd.cell 4 _ rfl
  have fd := bd.free
  go_wp2_with fail
  clear ca0 ca1 ca2 ca3 ca4 fa
  clear cm0 cm1 cm2 cm3 cm4 fm
  clear cd0 cd1 cd2 cd3 cd4 fd
  clear ba bm bd hlt0 hlt1 hlt2
  rw [HG5.out]
  refine wp_world (fun u => Box u g [.bool true, .slice ka nk kc, .slice va nv vc, .slice da nd dc, .int .i64 n] ∧ Box u g5 [.bool true, .slice ta tk tk, .slice tb tv tv, .slice tc td td, .int .i64 n] ∧ Below w.heap.size w u ∧ NodeAt u (.slice ka nk kc) (.slice va nv vc) (.slice da nd dc) x  ∧ g5 + 1 ≤ u.heap.size) HW.out ?_
  clear HW
  rintro w15 ⟨ba, bu, hB, hx,  hs⟩
  have HX := Lib.hid hx
  skip
  clear hx
  refine wp_region_partsDC (WFh21 nk kc nv vc nd dc g g5 tk tv td n ka va da ta tb tc x) 11 [[], [0], [0, 1], [0, 1, 2], [0, 1], [0, 1, 2, 3, 4], [0, 1, 2, 3, 4, 5], [0, 1, 2, 3, 4, 5, 6], [0, 1, 2, 3, 4, 5, 6, 7], [0, 1, 2, 3, 4, 5, 6, 7, 8], [0, 1, 2, 3, 4, 5, 6, 7, 8, 9]] [some 182, some 183, some 184, some 185, some 186, some 187, some 188, some 189, some 190, some 191, some 192, some 6] (by kernel_rfl) (by kernel_rfl) rfl (PFh21 nk kc nv vc nd dc g g5 tk tv td n ka va da ta tb tc x) (PFh21_stable nk kc nv vc nd dc g g5 tk tv td n ka va da ta tb tc x ) ?pFh21 ?_
  case pFh21 =>
    intro i hi o ho vs lo hx_ w' hg hp
    match i, hi with
    | 0, _ =>
      obtain rfl := Option.some.inj ho
      clear ho
      simp only [actsD, List.getD_cons_zero, List.getD_cons_succ, List.foldl_cons, List.foldl_nil, Act.put, List.setIfInBounds_toArray, List.set_cons_succ, List.set_cons_zero]
      have hsz := hg.size
      have hgB : Below w15.heap.size w15 w' := hg.below (fun k hk => ⟨hk, fun o => by rintro ⟨j, _, _, _, hw⟩; exact False.elim hw⟩)
      go_wp2
      exact ⟨_, rfl, GrowC.refl _, rfl⟩
    | 1, _ =>
      obtain rfl := Option.some.inj ho
      clear ho
      simp only [actsD, List.getD_cons_zero, List.getD_cons_succ, List.foldl_cons, List.foldl_nil, Act.put, List.setIfInBounds_toArray, List.set_cons_succ, List.set_cons_zero]
      obtain ⟨_, _, _, h0⟩ := hp 0 (by simp)
      simp only [PFh21] at h0
      have hsz := hg.size
      have hgB : Below w15.heap.size w15 w' := hg.below (fun k hk => ⟨hk, fun o => by rintro ⟨j, _, _, _, hw⟩; exact False.elim hw⟩)
      rw [h0]
      go_wp2
      exact ⟨_, rfl, GrowC.refl _, rfl⟩
    | 2, _ =>
      obtain rfl := Option.some.inj ho
      clear ho
      simp only [actsD, List.getD_cons_zero, List.getD_cons_succ, List.foldl_cons, List.foldl_nil, Act.put, List.setIfInBounds_toArray, List.set_cons_succ, List.set_cons_zero]
      obtain ⟨_, _, _, h1⟩ := hp 1 (by simp)
      simp only [PFh21] at h1
      have hsz := hg.size
      have hgB : Below w15.heap.size w15 w' := hg.below (fun k hk => ⟨hk, fun o => by rintro ⟨j, _, _, _, hw⟩; exact False.elim hw⟩)
      rw [h1]
      go_wp2
      exact ⟨_, rfl, GrowC.refl _, rfl⟩
    | 3, _ =>
      obtain rfl := Option.some.inj ho
      clear ho
      simp only [actsD, List.getD_cons_zero, List.getD_cons_succ, List.foldl_cons, List.foldl_nil, Act.put, List.setIfInBounds_toArray, List.set_cons_succ, List.set_cons_zero]
      obtain ⟨_, _, _, h1⟩ := hp 1 (by simp)
      simp only [PFh21] at h1
      obtain ⟨_, _, _, h2⟩ := hp 2 (by simp)
      simp only [PFh21] at h2
      have hsz := hg.size
      have hgB : Below w15.heap.size w15 w' := hg.below (fun k hk => ⟨hk, fun o => by rintro ⟨j, _, _, _, hw⟩; exact False.elim hw⟩)
      rw [h1, h2]
      go_wp2
      exact ⟨_, rfl, GrowC.refl _, rfl⟩
    | 4, _ =>
      obtain rfl := Option.some.inj ho
      clear ho
      simp only [actsD, List.getD_cons_zero, List.getD_cons_succ, List.foldl_cons, List.foldl_nil, Act.put, List.setIfInBounds_toArray, List.set_cons_succ, List.set_cons_zero]
      obtain ⟨_, _, _, h1⟩ := hp 1 (by simp)
      simp only [PFh21] at h1
      have hsz := hg.size
      have hgB : Below w15.heap.size w15 w' := hg.below (fun k hk => ⟨hk, fun o => by rintro ⟨j, _, _, _, hw⟩; exact False.elim hw⟩)
      rw [h1]
      go_wp2
      exact ⟨_, rfl, GrowC.refl _, rfl⟩
    | 5, _ =>
      obtain rfl := Option.some.inj ho
      clear ho
      simp only [actsD, List.getD_cons_zero, List.getD_cons_succ, List.foldl_cons, List.foldl_nil, Act.put, List.setIfInBounds_toArray, List.set_cons_succ, List.set_cons_zero]
      obtain ⟨_, _, _, h1⟩ := hp 1 (by simp)
      simp only [PFh21] at h1
      obtain ⟨_, _, _, h4⟩ := hp 4 (by simp)
      simp only [PFh21] at h4
      have hsz := hg.size
      have hgB : Below w15.heap.size w15 w' := hg.below (fun k hk => ⟨hk, fun o => by rintro ⟨j, _, _, _, hw⟩; exact False.elim hw⟩)
      rw [h1, h4]
      go_wp2
      exact ⟨_, rfl, GrowC.refl _, rfl⟩
    | 6, _ =>
      obtain rfl := Option.some.inj ho
      clear ho
      simp only [actsD, List.getD_cons_zero, List.getD_cons_succ, List.foldl_cons, List.foldl_nil, Act.put, List.setIfInBounds_toArray, List.set_cons_succ, List.set_cons_zero]
      obtain ⟨_, _, _, h1⟩ := hp 1 (by simp)
      simp only [PFh21] at h1
      obtain ⟨_, _, _, h3⟩ := hp 3 (by simp)
      simp only [PFh21] at h3
      obtain ⟨_, _, _, h5⟩ := hp 5 (by simp)
      simp only [PFh21] at h5
      have hsz := hg.size
      have hgB : Below w15.heap.size w15 w' := hg.below (fun k hk => ⟨hk, fun o => by rintro ⟨j, _, _, _, hw⟩; exact False.elim hw⟩)
      rw [h1, h3, h5]
      go_wp2
      exact ⟨_, rfl, GrowC.refl _, rfl⟩
    | 7, _ =>
      obtain rfl := Option.some.inj ho
      clear ho
      simp only [actsD, List.getD_cons_zero, List.getD_cons_succ, List.foldl_cons, List.foldl_nil, Act.put, List.setIfInBounds_toArray, List.set_cons_succ, List.set_cons_zero]
      obtain ⟨_, _, _, h1⟩ := hp 1 (by simp)
      simp only [PFh21] at h1
      obtain ⟨_, _, _, h6⟩ := hp 6 (by simp)
      simp only [PFh21] at h6
      have hsz := hg.size
      have hgB : Below w15.heap.size w15 w' := hg.below (fun k hk => ⟨hk, fun o => by rintro ⟨j, _, _, _, hw⟩; exact False.elim hw⟩)
      rw [h1, h6]
      go_wp2
      exact ⟨_, rfl, GrowC.refl _, rfl⟩
    | 8, _ =>
      obtain rfl := Option.some.inj ho
      clear ho
      simp only [actsD, List.getD_cons_zero, List.getD_cons_succ, List.foldl_cons, List.foldl_nil, Act.put, List.setIfInBounds_toArray, List.set_cons_succ, List.set_cons_zero]
      obtain ⟨_, _, _, h7⟩ := hp 7 (by simp)
      simp only [PFh21] at h7
      have hsz := hg.size
      have hgB : Below w15.heap.size w15 w' := hg.below (fun k hk => ⟨hk, fun o => by rintro ⟨j, _, _, _, hw⟩; exact False.elim hw⟩)
      rw [h7]
      go_wp2
      exact ⟨_, rfl, GrowC.refl _, rfl⟩
    | 9, _ =>
      obtain rfl := Option.some.inj ho
      clear ho
      simp only [actsD, List.getD_cons_zero, List.getD_cons_succ, List.foldl_cons, List.foldl_nil, Act.put, List.setIfInBounds_toArray, List.set_cons_succ, List.set_cons_zero]
      obtain ⟨_, _, _, h8⟩ := hp 8 (by simp)
      simp only [PFh21] at h8
      have hsz := hg.size
      have hgB : Below w15.heap.size w15 w' := hg.below (fun k hk => ⟨hk, fun o => by rintro ⟨j, _, _, _, hw⟩; exact False.elim hw⟩)
      rw [h8]
      go_wp2_with fail
      refine (awake_any _).mono ?_
      rintro e wz ⟨rfl, hb⟩
      go_wp2
      exact ⟨_, rfl, GrowC.of_grow hb, rfl⟩
    | 10, _ =>
      obtain rfl := Option.some.inj ho
      clear ho
      simp only [actsD, List.getD_cons_zero, List.getD_cons_succ, List.foldl_cons, List.foldl_nil, Act.put, List.setIfInBounds_toArray, List.set_cons_succ, List.set_cons_zero]
      obtain ⟨_, _, _, h8⟩ := hp 8 (by simp)
      simp only [PFh21] at h8
      obtain ⟨_, _, _, h9⟩ := hp 9 (by simp)
      simp only [PFh21] at h9
      have hsz := hg.size
      have hgB : Below w15.heap.size w15 w' := hg.below (fun k hk => ⟨hk, fun o => by rintro ⟨j, _, _, _, hw⟩; exact False.elim hw⟩)
      rw [h8, h9]
      go_wp2
      exact ⟨_, rfl, GrowC.refl _, rfl⟩
    | (q + 11), hq => exact absurd hq (by omega)
  intro vS lo hi w16 hg hp hd
  obtain ⟨_, _, _, h0⟩ := hp 0 (by omega)
  obtain ⟨_, _, _, h1⟩ := hp 1 (by omega)
  obtain ⟨_, _, _, h2⟩ := hp 2 (by omega)
  obtain ⟨_, _, _, h3⟩ := hp 3 (by omega)
  obtain ⟨_, _, _, h4⟩ := hp 4 (by omega)
  obtain ⟨_, _, _, h5⟩ := hp 5 (by omega)
  obtain ⟨_, _, _, h6⟩ := hp 6 (by omega)
  obtain ⟨_, _, _, h7⟩ := hp 7 (by omega)
  obtain ⟨_, _, _, h8⟩ := hp 8 (by omega)
  obtain ⟨_, _, _, h9⟩ := hp 9 (by omega)
  obtain ⟨_, _, _, h10⟩ := hp 10 (by omega)
  simp only [PFh21] at h0 h1 h2 h3 h4 h5 h6 h7 h8 h9 h10
  clear hp hd
  have hsz := hg.size
  replace ba := ba.grow hg (by intro i _; rintro ⟨j, _, hw⟩; exact False.elim hw)
  replace bu := bu.grow hg (by intro i _; rintro ⟨j, _, hw⟩; exact False.elim hw)
  replace hB := hB.trans (hg.below (fun k hk => ⟨by omega, fun o => by rintro ⟨j, _, hw⟩; exact False.elim hw⟩))
  have hr : List.range 11 = [0, 1, 2, 3, 4, 5, 6, 7, 8, 9, 10] := rfl
  rw [hr]
  clear hr
  simp only [List.drop_succ_cons, List.drop_zero, List.drop_nil, actsD, List.getD_cons_zero, List.getD_cons_succ, List.foldl_cons, List.foldl_nil, Act.put, List.setIfInBounds_toArray, List.set_cons_succ, List.set_cons_zero, h0, h1, h2, h3, h4, h5, h6, h7, h8, h9, h10]
  clear h0 h1 h2 h3 h4 h5 h6 h7 h8 h9 h10
  go_wp2
  go_ret
  exact ⟨rfl, hB⟩

end Go.Proofs.Ytfbblgcdggpehaa

/- The laws LockModes and LockOrder, walked. Conditions: none. -/
import Derived.Test.YtoghmllkaafckaaLkAwake
import Derived.Test.YtoghmllkaafckaaFrame2
namespace Go.Proofs.Ytoghmllkaafckaa
set_option linter.unusedSimpArgs false
set_option linter.unusedVariables false
open Go.RowKit

def True2 (w : World) (e : Ending) (w' : World) : Prop := e = .returned (.bool true) ∧ Below w.heap.size w w'

set_option maxHeartbeats 1600000 in
theorem modes_any (a b : Int) (w : World) : Calls Try.prog 3 #[.int .i64 a, .int .i64 b] w (True2 w) := by
  have hb1 : (fitsB a b == fitsB a b) = true := by simp
  have hb2 : (joinI a b == joinI a b) = true := by simp
  go_enter Try.func3, Try.ntmps3
  go_wp2_with (first
    | (go_at_call 8; refine (fits_any _ _ _).mono ?_; rintro e w1 ⟨rfl, hw1⟩)
    | (go_at_call 9; refine (rfits_any _ _ _).mono ?_; rintro e w1' ⟨rfl, rfl⟩)
    | (go_at_call 10; refine (join_any _ _ _).mono ?_; rintro e w2 ⟨rfl, hw2⟩)
    | (go_at_call 11; refine (rjoin_any _ _ _).mono ?_; rintro e w2' ⟨rfl, rfl⟩)
    | (go_at_call 12; refine (awake_any _).mono ?_; rintro e w3 ⟨rfl, hw3⟩))
  go_ret
  exact ⟨rfl, hw1.trans ((hw2.mono hw1.size).trans (hw3.mono (Nat.le_trans hw1.size hw2.size)))⟩

theorem and3 (a : Int) : ∃ n : Nat, n ≤ 3 ∧ wrap64 (bits .and .i64 a 3 + 1) = n + 1 := by
  have h3 : (BitVec.ofInt 64 a &&& BitVec.ofInt 64 3).toNat ≤ 3 := by
    rw [BitVec.toNat_and]
    exact Nat.le_trans Nat.and_le_right (by decide)
  obtain ⟨n, hn⟩ : ∃ n, (BitVec.ofInt 64 a &&& BitVec.ofInt 64 3).toNat = n := ⟨_, rfl⟩
  rw [hn] at h3
  refine ⟨n, h3, ?_⟩
  have e : bits .and .i64 a 3 = n := by
    show IntKind.i64.wrap ((BitVec.ofInt 64 a &&& BitVec.ofInt 64 3).toNat : Int) = _
    rw [hn]
    simp [IntKind.wrap, IntKind.bits, IntKind.signed]
    omega
  rw [e]
  unfold wrap64
  omega

set_option maxRecDepth 100000 in
set_option maxHeartbeats 6400000 in
theorem order_any (a b c : Int) (w : World) : Calls Try.prog 4 #[.int .i64 a, .int .i64 b, .int .i64 c] w (True2 w) := by
  obtain ⟨n1, g1, e1⟩ := and3 a
  obtain ⟨n2, g2, e2⟩ := and3 b
  obtain ⟨n3, g3, e3⟩ := and3 c
  have HX : Hid (isM (wrap64 (bits .and .i64 a 3 + 1)) = true ∧ isM (wrap64 (bits .and .i64 b 3 + 1)) = true ∧ isM (wrap64 (bits .and .i64 c 3 + 1)) = true) := Lib.hid (by rw [e1, e2, e3]; simp [isM]; omega)
  clear e1 e2 e3 g1 g2 g3
  go_enter Try.func4, Try.ntmps4
  go_wp2_with fail
  generalize wrap64 (bits .and .i64 a 3 + 1) = x at *
  generalize wrap64 (bits .and .i64 b 3 + 1) = y at *
  generalize wrap64 (bits .and .i64 c 3 + 1) = z at *
  obtain ⟨hx, hy, hz⟩ := HX.out
  have q1 : (fitsB x y != fitsB y x) = false := by rw [fits_symm x y]; simp
  have q2 : (joinI x y != joinI y x) = false := by rw [joinI_comm x y]; simp
  have q3 : (joinI (joinI x y) x != joinI x y) = false := by rw [joinI_same]; simp
  have q4 : (joinI x x != x) = false := by rw [joinI_idem (isM_inM hx)]; simp
  have q5 : (joinI (joinI x y) z != joinI x (joinI y z)) = false := by rw [joinI_assoc]; simp
  have q6 : fitsB x 5 = false := fits_x x
  have q7 : (joinI x 5 == 5) = true := by rcases isM_cases hx with rfl | rfl | rfl | rfl | rfl <;> decide
  have hB : Below w.heap.size w w := Below.refl _ _
  have HJ := Lib.hid (fun h => fits_join (c := z) hx hy h)
  clear hx hy hz HX
  cases hf : fitsB (joinI x y) z with
  | true =>
    obtain ⟨q8, q9⟩ := HJ.out hf
    clear HJ
    go_wp2_with (first
      | (go_at_call 8; refine (fits_any _ _ _).mono ?_; rintro e wn ⟨rfl, hwn⟩; replace hB := hB.trans (hwn.mono hB.size); clear hwn)
      | (go_at_call 10; refine (join_any _ _ _).mono ?_; rintro e wn ⟨rfl, hwn⟩; replace hB := hB.trans (hwn.mono hB.size); clear hwn)
      | (go_at_call 12; refine (awake_any _).mono ?_; rintro e wn ⟨rfl, hwn⟩; replace hB := hB.trans (hwn.mono hB.size); clear hwn))
    all_goals first | (exact absurd (fits_symm x y) (by assumption)) | (go_ret; exact ⟨rfl, hB⟩)
  | false =>
    clear HJ
    go_wp2_with (first
      | (go_at_call 8; refine (fits_any _ _ _).mono ?_; rintro e wn ⟨rfl, hwn⟩; replace hB := hB.trans (hwn.mono hB.size); clear hwn)
      | (go_at_call 10; refine (join_any _ _ _).mono ?_; rintro e wn ⟨rfl, hwn⟩; replace hB := hB.trans (hwn.mono hB.size); clear hwn)
      | (go_at_call 12; refine (awake_any _).mono ?_; rintro e wn ⟨rfl, hwn⟩; replace hB := hB.trans (hwn.mono hB.size); clear hwn))
    all_goals first | (exact absurd (fits_symm x y) (by assumption)) | (go_ret; exact ⟨rfl, hB⟩)
end Go.Proofs.Ytoghmllkaafckaa

/- What key.Compare, cmp.Compare and strings.Compare answer, for every value. Conditions: none but int64. -/
import Derived.Test.YtblpmbbodajjeaaKEnc
import Derived.Lib.Strings
import Derived.Lib.Bytealg
import Derived.BigQuiet
import Derived.Deep.QuietTactic
namespace Go.Proofs.Ytblpmbbodajjeaa
set_option linter.unusedSimpArgs false
set_option linter.unusedVariables false
open Go.RowKit
open K (Val enc esc be8 cmpI cmpV)

theorem truth_any (b : Bool) (w : World) : Calls Try.prog 19 #[.bool b] w fun e w' => e = .returned (.int .u8 (K.tr b)) ∧ w' = w := by
  cases b <;> go_enter Try.func19, Try.ntmps19
  all_goals go_wp2
  all_goals go_ret
  all_goals exact ⟨rfl, rfl⟩

theorem cmpInt_any (a b : Int) (w : World) : Calls Try.prog 20 #[.int .i64 a, .int .i64 b] w fun e w' => e = .returned (.int .i64 (cmpI a b)) ∧ w' = w := by
  unfold cmpI
  by_cases h1 : a < b
  · go_enter Try.func20, Try.ntmps20
    go_wp2
    go_ret
    exact ⟨by simp, rfl⟩
  · by_cases h2 : b < a
    · go_enter Try.func20, Try.ntmps20
      go_wp2
      go_ret
      exact ⟨by simp, rfl⟩
    · go_enter Try.func20, Try.ntmps20
      go_wp2
      go_ret
      exact ⟨by simp, rfl⟩

theorem cmpByte_any (a b : Int) (w : World) : Calls Try.prog 22 #[.int .u8 a, .int .u8 b] w fun e w' => e = .returned (.int .i64 (cmpI a b)) ∧ w' = w := by
  unfold cmpI
  by_cases h1 : a < b
  · go_enter Try.func22, Try.ntmps22
    go_wp2
    go_ret
    exact ⟨by simp, rfl⟩
  · by_cases h2 : b < a
    · go_enter Try.func22, Try.ntmps22
      go_wp2
      go_ret
      exact ⟨by simp, rfl⟩
    · go_enter Try.func22, Try.ntmps22
      go_wp2
      go_ret
      exact ⟨by simp, rfl⟩

theorem cmpString_any (a b : ByteArray) (w : World) :
    Calls Try.prog 26 #[.string a, .string b] w fun e w' => e = .returned (.int .i64 (Lib.compareBytes a.data.toList b.data.toList)) ∧ w' = w := by
  go_enter Try.func26, Try.ntmps26
  go_wp2
  rw [run_callFunc_extern Try.func28 (by kernel_rfl) (by kernel_rfl) (by kernel_rfl) (e := Extern.BytealgCompare.compare) (by kernel_rfl), Lib.run_compareString]
  simp only [Result.andThen]
  rw [Oper.upon_value]
  go_wp2
  go_ret
  exact ⟨rfl, rfl⟩

theorem cmpStr_any (a b : ByteArray) (w : World) :
    Calls Try.prog 21 #[.string a, .string b] w fun e w' => e = .returned (.int .i64 (Lib.compareBytes a.data.toList b.data.toList)) ∧ w' = w := by
  go_enter Try.func21, Try.ntmps21
  go_wp2_with (go_at_call 26; refine (cmpString_any _ _ _).mono ?_; rintro e w' ⟨rfl, rfl⟩)
  go_ret
  exact ⟨rfl, rfl⟩

set_option maxHeartbeats 1600000 in
theorem compare_any (t n : Int) (s : ByteArray) (b : Bool) (t' n' : Int) (s' : ByteArray) (b' : Bool) (w : World) :
    Calls Try.prog 8 #[.agg #[.int .i64 t, .int .i64 n, .string s, .bool b], .agg #[.int .i64 t', .int .i64 n', .string s', .bool b']] w fun e w' =>
      e = .returned (.int .i64 (cmpV ⟨t, n, s, b⟩ ⟨t', n', s', b'⟩)) ∧ Below w.heap.size w w' := by
  by_cases ht : t = t'
  · subst ht
    by_cases h1 : t = 1
    · subst h1
      have HE : Hid (cmpV ⟨1, n, s, b⟩ ⟨1, n', s', b'⟩ = cmpI n n') := by show _ = _; simp [cmpV]
      go_enter Try.func8, Try.ntmps8
      go_wp2_with (go_at_call 20; refine (cmpInt_any _ _ _).mono ?_; rintro e w' ⟨rfl, rfl⟩)
      go_ret
      rw [HE.out]
      exact ⟨rfl, ((Below.refl _ _).alloc (Nat.le_refl _) _).alloc (by simp) _⟩
    by_cases h2 : t = 2
    · subst h2
      have HE : Hid (cmpV ⟨2, n, s, b⟩ ⟨2, n', s', b'⟩ = Lib.compareBytes s.data.toList s'.data.toList) := by show _ = _; simp [cmpV]
      go_enter Try.func8, Try.ntmps8
      go_wp2_with (go_at_call 21; refine (cmpStr_any _ _ _).mono ?_; rintro e w' ⟨rfl, rfl⟩)
      go_ret
      rw [HE.out]
      exact ⟨rfl, ((Below.refl _ _).alloc (Nat.le_refl _) _).alloc (by simp) _⟩
    by_cases h3 : t = 3
    · subst h3
      have HE : Hid (cmpV ⟨3, n, s, b⟩ ⟨3, n', s', b'⟩ = cmpI (K.tr b) (K.tr b')) := by show _ = _; simp [cmpV]
      go_enter Try.func8, Try.ntmps8
      go_wp2_with (fail)
      go_quiet ((first | (go_at_call 19; exact Calls.quiet_of_same (truth_any _ _)) | (go_at_call 22; exact Calls.quiet_of_same (cmpByte_any _ _ _))))
      go_wp2
      go_ret
      rw [HE.out]
      exact ⟨rfl, below_dn (((Below.refl _ _).alloc (Nat.le_refl _) _).alloc (by simp) _) _⟩
    · have HE : Hid (cmpV ⟨t, n, s, b⟩ ⟨t, n', s', b'⟩ = 0) := by show _ = _; simp [cmpV, h1, h2, h3]
      go_enter Try.func8, Try.ntmps8
      go_wp2
      go_ret
      rw [HE.out]
      exact ⟨rfl, ((Below.refl _ _).alloc (Nat.le_refl _) _).alloc (by simp) _⟩
  · have HE : Hid (cmpV ⟨t, n, s, b⟩ ⟨t', n', s', b'⟩ = cmpI t t') := by show _ = _; simp [cmpV, ht]
    have hb : (t != t') = true := by simp [ht]
    clear ht
    go_enter Try.func8, Try.ntmps8
    go_wp2_with (go_at_call 20; refine (cmpInt_any _ _ _).mono ?_; rintro e w' ⟨rfl, rfl⟩)
    go_ret
    rw [HE.out]
    exact ⟨rfl, ((Below.refl _ _).alloc (Nat.le_refl _) _).alloc (by simp) _⟩
end Go.Proofs.Ytblpmbbodajjeaa

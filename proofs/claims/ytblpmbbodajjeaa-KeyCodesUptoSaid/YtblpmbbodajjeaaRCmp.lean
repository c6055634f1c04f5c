/- What the reference's Compare answers, for every value: the same as key.Compare. Conditions: none. -/
import Derived.Test.YtblpmbbodajjeaaKCmp
import Derived.Test.YtblpmbbodajjeaaKLaw
namespace Go.Proofs.Ytblpmbbodajjeaa
set_option linter.unusedSimpArgs false
set_option linter.unusedVariables false
open Go.RowKit
open K (Val enc esc be8 cmpI cmpV)

def lessSame (l s : Bool) : Int := if s then 0 else if l then -1 else 1

theorem refcmp_any (l s : Bool) (w : World) : Calls Try.prog 24 #[.bool l, .bool s] w fun e w' => e = .returned (.int .i64 (lessSame l s)) ∧ w' = w := by
  cases l <;> cases s <;> go_enter Try.func24, Try.ntmps24
  all_goals go_wp2
  all_goals go_ret
  all_goals exact ⟨rfl, rfl⟩

theorem refcmp_of (l s : Bool) (k : Int) (w : World) (h : lessSame l s = k) : Calls Try.prog 24 #[.bool l, .bool s] w fun e w' => e = .returned (.int .i64 k) ∧ w' = w := by
  subst h; exact refcmp_any l s w

theorem less_int (a b : Int) : lessSame (decide (a < b)) (a == b) = cmpI a b := by
  unfold lessSame cmpI
  by_cases h : a = b
  · subst h; simp
  · have : (a == b) = false := by simp [h]
    rw [this]
    by_cases h1 : a < b
    · simp [h1]
    · simp [h1]; omega

theorem less_tr (a b : Bool) : lessSame (!a) (a == b) = cmpI (K.tr a) (K.tr b) := by
  cases a <;> cases b <;> decide

theorem less_cbs (a b : List UInt8) : lessSame (Op.bytesLess a b) (a == b) = Lib.compareBytes a b := by
  have h0 := K.cb_zero a b
  have hl := K.less_cb a b
  unfold lessSame
  rcases K.cb_cases a b with h | h | h
  · rw [h] at h0 hl
    have hne : (a == b) = false := by
      rw [beq_eq_false_iff_ne]; intro e; exact absurd (h0.2 e) (by decide)
    rw [hne, hl, h]; rfl
  · rw [h] at h0
    have : (a == b) = true := by rw [beq_iff_eq]; exact h0.1 rfl
    rw [this, h]; rfl
  · rw [h] at h0 hl
    have hne : (a == b) = false := by
      rw [beq_eq_false_iff_ne]; intro e; exact absurd (h0.2 e) (by decide)
    rw [hne, hl, h]; rfl

theorem less_str (a b : ByteArray) : lessSame (Op.bytesLess a.toList b.toList) (a.toList == b.toList) = Lib.compareBytes a.data.toList b.data.toList := by
  rw [ByteArray.toList_eq, ByteArray.toList_eq]; exact less_cbs _ _

set_option maxHeartbeats 1600000 in
theorem refcompare_any (t n : Int) (s : ByteArray) (b : Bool) (t' n' : Int) (s' : ByteArray) (b' : Bool) (w : World) :
    Calls Try.prog 18 #[.agg #[.int .i64 t, .int .i64 n, .string s, .bool b], .agg #[.int .i64 t', .int .i64 n', .string s', .bool b']] w fun e w' =>
      e = .returned (.int .i64 (cmpV ⟨t, n, s, b⟩ ⟨t', n', s', b'⟩)) ∧ Below w.heap.size w w' := by
  by_cases ht : t = t'
  · subst ht
    by_cases h1 : t = 1
    · subst h1
      have HE : Hid (cmpV ⟨1, n, s, b⟩ ⟨1, n', s', b'⟩ = cmpI n n') := by show _ = _; simp [cmpV]
      have HL := Lib.hid (less_int n n')
      go_enter Try.func18, Try.ntmps18
      go_wp2_with (go_at_call 24; refine (refcmp_of _ _ _ _ HL.out).mono ?_; rintro e w' ⟨rfl, rfl⟩)
      go_ret
      rw [HE.out]
      exact ⟨rfl, ((Below.refl _ _).alloc (Nat.le_refl _) _).alloc (by simp) _⟩
    by_cases h2 : t = 2
    · subst h2
      have HE : Hid (cmpV ⟨2, n, s, b⟩ ⟨2, n', s', b'⟩ = Lib.compareBytes s.data.toList s'.data.toList) := by show _ = _; simp [cmpV]
      go_enter Try.func18, Try.ntmps18
      go_wp2_with (go_at_call 24; refine (refcmp_of _ _ _ _ (less_str s s')).mono ?_; rintro e w' ⟨rfl, rfl⟩)
      go_ret
      rw [HE.out]
      exact ⟨rfl, ((Below.refl _ _).alloc (Nat.le_refl _) _).alloc (by simp) _⟩
    by_cases h3 : t = 3
    · subst h3
      have HE : Hid (cmpV ⟨3, n, s, b⟩ ⟨3, n', s', b'⟩ = cmpI (K.tr b) (K.tr b')) := by show _ = _; simp [cmpV]
      have HL := Lib.hid (less_tr b b')
      go_enter Try.func18, Try.ntmps18
      go_wp2_with (go_at_call 24; refine (refcmp_of _ _ _ _ HL.out).mono ?_; rintro e w' ⟨rfl, rfl⟩)
      go_ret
      rw [HE.out]
      exact ⟨rfl, ((Below.refl _ _).alloc (Nat.le_refl _) _).alloc (by simp) _⟩
    · have HE : Hid (cmpV ⟨t, n, s, b⟩ ⟨t, n', s', b'⟩ = 0) := by show _ = _; simp [cmpV, h1, h2, h3]
      go_enter Try.func18, Try.ntmps18
      go_wp2
      go_ret
      rw [HE.out]
      exact ⟨rfl, ((Below.refl _ _).alloc (Nat.le_refl _) _).alloc (by simp) _⟩
  · have HE : Hid (cmpV ⟨t, n, s, b⟩ ⟨t', n', s', b'⟩ = cmpI t t') := by show _ = _; simp [cmpV, ht]
    have hb : (t != t') = true := by simp [ht]
    have hl : lessSame (decide (t < t')) false = cmpI t t' := by unfold lessSame cmpI; by_cases h1 : t < t' <;> simp [h1]; omega
    have HL := Lib.hid hl
    clear ht hl
    go_enter Try.func18, Try.ntmps18
    go_wp2_with (go_at_call 24; refine (refcmp_of _ _ _ _ HL.out).mono ?_; rintro e w' ⟨rfl, rfl⟩)
    go_ret
    rw [HE.out]
    exact ⟨rfl, ((Below.refl _ _).alloc (Nat.le_refl _) _).alloc (by simp) _⟩
end Go.Proofs.Ytblpmbbodajjeaa

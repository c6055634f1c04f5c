/- What the law's clean answers, for every value. Conditions: none. -/
import Derived.Test.YtblpmbbodajjeaaKCmp
namespace Go.Proofs.Ytblpmbbodajjeaa
set_option linter.unusedSimpArgs false
set_option linter.unusedVariables false
open Go.RowKit
open K (Val enc esc be8 cmpI cmpV clean)

theorem clean_any (t n : Int) (s : ByteArray) (b : Bool) (w : World) :
    Calls Try.prog 6 #[.agg #[.int .i64 t, .int .i64 n, .string s, .bool b]] w fun e w' =>
      e = .returned (clean ⟨t, n, s, b⟩).v ∧ Below w.heap.size w w' := by
  have fin : ∀ t n s b t0 n0 s0 b0, Below w.heap.size w ((w.alloc (.cells #[.int .i64 t, .int .i64 n, .string s, .bool b] 23)).alloc (.cells #[.int .i64 t0, .int .i64 n0, .string s0, .bool b0] 23)) := fun _ _ _ _ _ _ _ _ => ((Below.refl _ _).alloc (Nat.le_refl _) _).alloc (by simp) _
  by_cases h1 : t = 1
  · subst h1
    go_enter Try.func6, Try.ntmps6
    go_wp2
    exact bodyPost_ret (v := .agg #[.int .i64 1, .int .i64 n, .string ⟨#[]⟩, .bool false]) (by simp [results, Try.results6, go_sem]) rfl ⟨by simp [clean, Val.v], fin ..⟩
  by_cases h2 : t = 2
  · subst h2
    go_enter Try.func6, Try.ntmps6
    go_wp2
    exact bodyPost_ret (v := .agg #[.int .i64 2, .int .i64 0, .string s, .bool false]) (by simp [results, Try.results6, go_sem]) rfl ⟨by simp [clean, Val.v], fin ..⟩
  by_cases h3 : t = 3
  · subst h3
    go_enter Try.func6, Try.ntmps6
    go_wp2
    exact bodyPost_ret (v := .agg #[.int .i64 3, .int .i64 0, .string ⟨#[]⟩, .bool b]) (by simp [results, Try.results6, go_sem]) rfl ⟨by simp [clean, Val.v], fin ..⟩
  · have HE : Hid (clean ⟨t, n, s, b⟩ = ⟨0, 0, ⟨#[]⟩, false⟩) := by show _ = _; simp [clean, h1, h2, h3]
    go_enter Try.func6, Try.ntmps6
    go_wp2
    exact bodyPost_ret (v := .agg #[.int .i64 0, .int .i64 0, .string ⟨#[]⟩, .bool false]) (by simp [results, Try.results6, go_sem]) rfl ⟨by rw [HE.out]; rfl, fin ..⟩
end Go.Proofs.Ytblpmbbodajjeaa

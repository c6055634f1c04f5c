/- What the reference's Same answers where the two lists are the same: true. Conditions: short lists. -/
import Derived.Test.YtblpmbbodajjeaaKSplit
import Derived.Test.YtblpmbbodajjeaaParts
namespace Go.Proofs.Ytblpmbbodajjeaa
set_option linter.unusedSimpArgs false
set_option linter.unusedVariables false
open Go.RowKit
open K (Val enc dec cellsOf split)

set_option maxRecDepth 100000 in
set_option maxHeartbeats 1600000 in
theorem same_any (ao bo : Option Addr) (n c c' : Nat) (l : List Val) (w : World) (hmax : n ≤ 1099511627776) (hr : Reads 4 w (.slice ao n c) n (cellsOf l)) (hr' : Reads 4 w (.slice bo n c') n (cellsOf l)) :
    Calls Try.prog 17 #[.slice ao n c, .slice bo n c'] w fun e w' => e = .returned (.bool true) ∧ Below w.heap.size w w' := by
  have hln : n = l.length := by obtain ⟨_, _, _, h, _⟩ := hr; rw [K.cellsOf_length] at h; omega
  have HL := Lib.hid hln
  have HR := Lib.hid hr
  have HR' := Lib.hid hr'
  have hb0 : (((n : Nat) : Int) != ((n : Nat) : Int)) = false := by simp
  clear hln hr hr'
  go_enter Try.func17, Try.ntmps17
  go_wp2
  go_loopw [5] (fun i wr => ∃ k : Nat, k ≤ n ∧ i = .int .i64 k ∧ Below w.heap.size w wr) (fun i _ => n - (intOf i).toNat)
  case atStart => exact ⟨0, Nat.zero_le _, rfl, Below.refl _ _⟩
  case round =>
    obtain ⟨k, hk, rfl, hnx⟩ := hrel
    have hsz := hnx.size
    have hcr := bcellB hnx
    by_cases hlt : k < n
    · have hkl : k < l.length := by rw [← HL.out]; exact hlt
      obtain ⟨_, _, b, off, rfl, hb, hc⟩ := HR.out.some_addr (by omega)
      obtain ⟨_, _, b', off', rfl, hb', hc'⟩ := HR'.out.some_addr (by omega)
      obtain ⟨x, hx⟩ : ∃ x, l[k] = x := ⟨_, rfl⟩
      obtain ⟨c0, c1, c2, c3⟩ := reads_val hc k hkl hx
      obtain ⟨d0, d1, d2, d3⟩ := reads_val hc' k hkl hx
      clear hc hc' hx
      go_wp2_with fail
      go_quiet (fail)
      go_wp2
      go_roundw
      case rel => exact ⟨k + 1, by omega, by go_num, below_dn hnx _⟩
      case measure => simp [intOf]; omega
    · go_wp2
      go_ret
      exact ⟨rfl, hnx⟩
end Go.Proofs.Ytblpmbbodajjeaa

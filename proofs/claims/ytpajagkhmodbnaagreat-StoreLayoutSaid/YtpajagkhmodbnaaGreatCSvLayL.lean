/- The law StoreLayout. Conditions: none. -/
import Derived.Test.YtpajagkhmodbnaaGreatCSvLaw
namespace Go.Proofs.YtpajagkhmodbnaaGreat
set_option linter.unusedSimpArgs false
set_option linter.unusedVariables false
open Go.RowKit
set_option maxRecDepth 100000 in
set_option maxHeartbeats 3200000 in
theorem reflay_any (w : World) (n : Int) (h1 : -9223372036854775808 ≤ n) (h2 : n ≤ 9223372036854775807) :
  Calls Tryz.prog 17 #[.int .i64 n] w fun e w' => e = .returned (.tuple #[.int .i64 (layI n).1, .int .i64 (layI n).2]) ∧ w' = w := by
 by_cases h : n < 128
 ·have hE := Lib.hid (show layI n = (0, 0) by unfold layI; rw [if_pos h])
  have hb : decide (n < 128) = true := by simpa using h
  rw [hE.out]
  go_enter Tryz.func17, Tryz.ntmps17
  go_wp2_with fail
  go_ret2
  exact ⟨rfl, rfl⟩
 ·have hE := Lib.hid (show layI n = (n / 4, (n - 7 - n / 4) / 4) by unfold layI; rw [if_neg h]; congr 2; omega)
  have hb : decide (n < 128) = false := by simpa using h
  rw [hE.out]
  go_enter Tryz.func17, Tryz.ntmps17
  go_wp2_with fail
  go_ret2
  exact ⟨rfl, rfl⟩
set_option maxRecDepth 100000 in
set_option maxHeartbeats 3200000 in
theorem layout_law (w : World) (n : Int) (h1 : -9223372036854775808 ≤ n) (h2 : n ≤ 9223372036854775807) :
  Calls Tryz.prog 3 #[.int .i64 n] w fun e w' => e = .returned (.bool true) ∧ Below w.heap.size w w' := by
 have HA := Lib.hid (layout_any w n h1 h2)
 have HB := Lib.hid (reflay_any w n h1 h2)
 obtain ⟨a, ha⟩ : ∃ a, (layI n).1 = a := ⟨_, rfl⟩
 obtain ⟨b, hb⟩ : ∃ b, (layI n).2 = b := ⟨_, rfl⟩
 rw [ha, hb] at HA HB
 clear ha hb
 have HW := Lib.hid (awake7_any w)
 go_enter Tryz.func3, Tryz.ntmps3
 go_wp2_with fail
 refine HA.out.mono ?_
 rintro e y ⟨rfl, rfl⟩
 go_wp2_with fail
 refine HB.out.mono ?_
 rintro e y ⟨rfl, rfl⟩
 go_wp2_with fail
 refine HW.out.mono ?_
 rintro e y2 ⟨rfl, hbl⟩
 have HBL := Lib.hid hbl
 clear hbl
 go_wp2_with fail
 go_ret
 exact ⟨rfl, HBL.out⟩
end Go.Proofs.YtpajagkhmodbnaaGreat

/- The document's table of locks: mode, goal. Conditions: at most 2^40 locks and wants. -/
import Derived.Test.YtoghmllkaafckaaLkPut
import Derived.Test.YtoghmllkaafckaaLkSafe
namespace Go.Proofs.Ytoghmllkaafckaa
set_option linter.unusedSimpArgs false
set_option linter.unusedVariables false
open Go.RowKit

set_option maxHeartbeats 1600000 in
theorem tmode_any (L : List Hd) (tb n c : Nat) (ao : Option Addr) (hn : n ≤ 1099511627776) (id : Int) (nm : ByteArray) (w : World) (ht : TabR w tb n c ao L) :
    Calls Try.prog 50 #[.pointer (some ⟨tb, 0, none⟩), .int .i64 id, .string nm] w fun e w' => e = .returned (.int .i64 (modeL L id nm)) ∧ w' = w := by
  have hc0 := ht.box.cell 0 _ rfl
  have HL := Lib.hid ht.len
  have HV := Lib.hid ht.reads
  clear ht
  go_enter Try.func50, Try.ntmps50
  go_wp2_with fail
  go_loop [7] (fun i => ∃ k : Nat, k ≤ n ∧ i = .int .i64 k ∧ Hid ((L.take k).find? (fun h => decide (h.1 = id ∧ h.2.1 = nm)) = none)) (fun i => n - (intOf i).toNat)
  case atStart => exact ⟨0, Nat.zero_le _, rfl, Lib.hid rfl⟩
  case round =>
    obtain ⟨k, hk, rfl, HF⟩ := hrel
    by_cases hlt : k < n
    · have hkl : k < L.length := by rw [HL.out]; exact hlt
      obtain ⟨b, o, c', e, hb, _, hd1, hd2, hd3⟩ := Hds.at HV.out k hlt L[k] (List.getElem?_eq_getElem hkl)
      injection e with e1 e2 e3
      subst e1 e3
      have HN := fun h => modeL_take_no (id := id) (n := nm) hkl h HF.out
      have HY := fun h => modeL_take_yes (id := id) (n := nm) hkl h HF.out
      generalize L[k] = x at *
      obtain ⟨x1, x2, x3⟩ := x
      simp only at hd1 hd2 hd3
      clear hkl e2
      by_cases h1 : x1 = id
      · by_cases h2 : x2 = nm
        · have HE : Hid (modeL L id nm = x3) := Lib.hid (HY ⟨h1, h2⟩)
          have hb1 : (x1 == id) = true := by simp [h1]
          have hb2 : (x2.toList == nm.toList) = true := str_eq h2
          clear HN HY h1 h2
          go_wp2_with fail
          go_ret
          exact ⟨by rw [HE.out]; rfl, rfl⟩
        · have HE := Lib.hid (HN (fun h => h2 h.2))
          have hb1 : (x1 == id) = true := by simp [h1]
          have hb2 : (x2.toList == nm.toList) = false := str_ne h2
          clear HN HY h1 h2
          go_wp2_with fail
          go_round
          case rel => exact ⟨k + 1, by omega, by go_num, HE⟩
          case measure => simp [intOf]; omega
      · have HE := Lib.hid (HN (fun h => h1 h.1))
        have hb1 : (x1 == id) = false := by simp [h1]
        clear HN HY h1
        go_wp2_with fail
        go_round
        case rel => exact ⟨k + 1, by omega, by go_num, HE⟩
        case measure => simp [intOf]; omega
    · obtain rfl : n = k := by omega
      have HE : Hid (modeL L id nm = 0) := Lib.hid (by
        have := HF.out
        rw [List.take_of_length_le (Nat.le_of_eq HL.out)] at this
        unfold modeL; rw [this])
      go_wp2_with fail
      go_ret
      exact ⟨by rw [HE.out]; rfl, rfl⟩

set_option maxHeartbeats 3200000 in
theorem tgoal_any (L : List Hd) (tb n c : Nat) (ao : Option Addr) (hn : n ≤ 1099511627776) (id : Int) (l : List Wn) (v : Value) (nl : Nat) (hl : l.length = nl) (hnl : nl ≤ 1099511627776) (nm : ByteArray) (w : World) (ht : TabR w tb n c ao L) (hv : Reads 2 w v nl (wcells l)) :
    Calls Try.prog 41 #[.pointer (some ⟨tb, 0, none⟩), .int .i64 id, v, .string nm] w fun e w' => e = .returned (.int .i64 (goal L id l nm)) ∧ w' = w := by
  obtain ⟨av, cv, rfl⟩ := hv.shape
  have HL := Lib.hid hl
  have HV := Lib.hid hv
  have HT := Lib.hid ht
  clear hl hv ht
  go_enter Try.func41, Try.ntmps41
  go_wp2_with (go_at_call 50; refine (tmode_any L tb n c ao hn id nm w HT.out).mono ?_; rintro e w' ⟨rfl, rfl⟩)
  obtain ⟨m0, hm0⟩ : ∃ m0, modeL L id nm = m0 := ⟨_, rfl⟩
  have HM0 := Lib.hid hm0
  rw [hm0]
  clear hm0
  go_loop [9, 10] (fun m i => ∃ k : Nat, k ≤ nl ∧ i = .int .i64 k ∧ m = .int .i64 (goalF (l.take k) nm m0)) (fun _ i => nl - (intOf i).toNat)
  case atStart => exact ⟨0, Nat.zero_le _, rfl, rfl⟩
  case round =>
    obtain ⟨k, hk, rfl, rfl⟩ := hrel
    by_cases hlt : k < nl
    · have hkl : k < l.length := by rw [HL.out]; exact hlt
      obtain ⟨b, o, c', e, hb, _, hd1, hd2⟩ := Wns.at HV.out k hlt l[k] (List.getElem?_eq_getElem hkl)
      injection e with e1 e2 e3
      subst e1 e3
      have HS : Hid (goalF (l.take (k + 1)) nm m0 = if l[k].1 = nm ∧ isM l[k].2 = true then joinI (goalF (l.take k) nm m0) l[k].2 else goalF (l.take k) nm m0) := Lib.hid (by rw [List.take_succ_eq_append_getElem hkl, goalF_snoc])
      generalize l[k] = x at *
      obtain ⟨x1, x2⟩ := x
      generalize goalF (l.take k) nm m0 = mk at *
      simp only at hd1 hd2
      clear hkl e2
      by_cases h1 : x1 = nm
      · have hb1 : (x1.toList == nm.toList) = true := str_eq h1
        cases hm : isM x2 with
        | true =>
          have HS2 : Hid (goalF (l.take (k + 1)) nm m0 = joinI mk x2) := Lib.hid (by rw [HS.out, if_pos ⟨h1, hm⟩])
          clear h1 HS
          go_wp2_with (first
            | (go_at_call 29; refine (rmode_any _ _).mono ?_; rintro e w' ⟨rfl, rfl⟩)
            | (go_at_call 11; refine (rjoin_any _ _ _).mono ?_; rintro e w' ⟨rfl, rfl⟩))
          go_round
          case rel => exact ⟨k + 1, by omega, by go_num, by rw [HS2.out]⟩
          case measure => simp [intOf]; omega
        | false =>
          have HS2 : Hid (goalF (l.take (k + 1)) nm m0 = mk) := Lib.hid (by rw [HS.out, if_neg (fun h => by rw [hm] at h; exact absurd h.2 (by simp))])
          clear h1 HS
          go_wp2_with (go_at_call 29; refine (rmode_any _ _).mono ?_; rintro e w' ⟨rfl, rfl⟩)
          go_round
          case rel => exact ⟨k + 1, by omega, by go_num, by rw [HS2.out]⟩
          case measure => simp [intOf]; omega
      · have hb1 : (x1.toList == nm.toList) = false := str_ne h1
        have HS2 : Hid (goalF (l.take (k + 1)) nm m0 = mk) := Lib.hid (by rw [HS.out, if_neg (fun h => h1 h.1)])
        clear h1 HS
        go_wp2_with fail
        go_round
        case rel => exact ⟨k + 1, by omega, by go_num, by rw [HS2.out]⟩
        case measure => simp [intOf]; omega
    · obtain rfl : nl = k := by omega
      have HE : Hid (goal L id l nm = goalF (l.take nl) nm m0) := Lib.hid (by
        rw [List.take_of_length_le (Nat.le_of_eq HL.out)]
        unfold goal; rw [HM0.out])
      go_wp2_with fail
      go_ret
      exact ⟨by rw [HE.out]; rfl, rfl⟩
end Go.Proofs.Ytoghmllkaafckaa

/- layer 14: awake; the document's Fits and Join. Conditions: none. -/
import Derived.Test.YtoghmllkaafckaaLkLaw
namespace Go.Proofs.Ytoghmllkaafckaa
set_option linter.unusedSimpArgs false
set_option linter.unusedVariables false
open Go.RowKit

theorem reads_new1 (w : World) (s : ByteArray) (m : Int) (T : Nat) : Reads 2 (w.alloc (.cells #[.string s, .int .i64 m] T)) (.slice (some ⟨w.heap.size, 0, none⟩) 1 1) 1 (wcells [(s, m)]) := by
  have hbx := Box.new w #[.string s, .int .i64 m] T rfl
  refine ⟨_, 1, rfl, rfl, Nat.le_refl _, fun _ => ⟨w.heap.size, 0, rfl, by simp, fun j u hj => ?_⟩⟩
  rw [Nat.zero_add]
  exact hbx.cell j u hj

theorem TabStep.below {G tb n N : Nat} {v : Value} {M L : List Hd} {w w' : World} {B : Nat} (h : TabStep G tb v M N w w') (ht : TabO w G tb v n L) (hB : B ≤ w.heap.size) (hT : B ≤ tb) (hG : B ≤ G) : Below B w w' := by
  obtain ⟨_, _, _, _, _, hg⟩ := h
  exact hg.below (fun k hk => ⟨by omega, fun e => e.elim (fun e => by omega) (fun e => by have := (ht.own.lt k e).1; omega)⟩)

theorem aw_took1 : tookL [] 1 [(ByteArray.empty, 2)] = [(1, ByteArray.empty, 2)] := by decide
theorem aw_took2 : tookL [(1, ByteArray.empty, 2)] 2 [(ByteArray.empty, 1)] = [(1, ByteArray.empty, 2), (2, ByteArray.empty, 1)] := by decide
theorem aw_uniq1 : Uniq [((1 : Int), ByteArray.empty, (2 : Int))] := List.pairwise_singleton _ _
theorem aw_ask1 {c : List Int} (h : IsAsk [] 1 [(ByteArray.empty, 2)] c) : c = [] := h.nil (fun g hg => by cases hg)
theorem aw_ask2 {c : List Int} (h : IsAsk [(1, ByteArray.empty, 2)] 2 [(ByteArray.empty, 1)] c) : c = [] := h.nil (fun g hg _ _ => by
  rw [List.mem_singleton] at hg
  subst hg
  decide)
theorem aw_ask3 {c : List Int} (h : IsAsk [(1, ByteArray.empty, 2), (2, ByteArray.empty, 1)] 3 [(ByteArray.empty, 5)] c) : c = [1, 2] := by
  refine lt_ext h.ord (by decide) (fun x => ?_)
  rw [h.iff]
  constructor
  · rintro ⟨g, hg, rfl, _⟩
    rw [List.mem_cons, List.mem_singleton] at hg
    rcases hg with rfl | rfl <;> simp
  · intro hx
    rw [List.mem_cons, List.mem_singleton] at hx
    rcases hx with rfl | rfl
    · exact ⟨(1, ByteArray.empty, 2), by simp, rfl, by decide, ⟨_, List.mem_singleton.2 rfl, rfl, by decide⟩, by decide⟩
    · exact ⟨(2, ByteArray.empty, 1), by simp, rfl, by decide, ⟨_, List.mem_singleton.2 rfl, rfl, by decide⟩, by decide⟩

set_option maxRecDepth 100000 in
set_option maxHeartbeats 3200000 in
theorem awake_any (w : World) : Calls Try.prog 12 #[] w fun e w' => e = .returned (.bool true) ∧ Below w.heap.size w w' := by
  obtain ⟨B, hB⟩ : ∃ B, w.heap.size = B := ⟨_, rfl⟩
  have HB := Lib.hid hB
  rw [hB]
  clear hB
  go_enter Try.func12, Try.ntmps12
  go_wp2_with fail
  refine (new_any B w (Nat.le_of_eq HB.out.symm)).mono ?_
  rintro e w1 ⟨rfl, ht1, hb1⟩
  obtain ⟨tb, htb⟩ : ∃ tb, w.heap.size = tb := ⟨_, rfl⟩
  rw [htb] at ht1 ⊢
  have hBt : B ≤ tb := by have := HB.out; omega
  have HT1 := Lib.hid ht1
  have HB1 := Lib.hid (by have := HB.out; rw [← this]; exact hb1 : Below B w w1)
  have hs1 : B ≤ w1.heap.size := by have := HB1.out.size; have := HB.out; omega
  clear ht1 hb1 htb
  go_wp2_with fail
  have hal1 : Below w1.heap.size w1 (w1.alloc (.cells #[.string ByteArray.empty, .int .i64 2] 40)) := (Below.refl _ _).alloc (Nat.le_refl _) _
  refine (take_any [] B tb 0 _ (by omega) 1 [(ByteArray.empty, 2)] _ 1 rfl (by omega) _ (by simp; omega) (HT1.out.below hal1) (reads_new1 w1 ByteArray.empty 2 40)).mono ?_
  rintro e w2 ⟨c, hask, hres⟩
  obtain rfl := aw_ask1 hask
  obtain ⟨rfl, hstep⟩ : e = .returned (.bool true) ∧ TabStep B tb (.slice none 0 0) (tookL [] 1 [(ByteArray.empty, 2)]) (0 + 1) _ w2 := by
    rcases hres with ⟨_, h1, h2⟩ | ⟨h0, _⟩
    · exact ⟨h1, h2⟩
    · exact absurd rfl h0
  have hbel2 := hstep.below (HT1.out.below hal1) (by simp; omega) hBt (Nat.le_refl B)
  rw [aw_took1] at hstep
  obtain ⟨v2, n2, ht2, hn2, _, _⟩ := hstep
  have HT2 := Lib.hid ht2
  have HB2 := Lib.hid (HB1.out.trans ((hal1.mono hs1).trans hbel2))
  have hs2 : B ≤ w2.heap.size := by have := HB2.out.size; have := HB.out; omega
  clear hres hask ht2 hbel2 hal1 HT1
  go_wp2_with fail
  have hal2 : Below w2.heap.size w2 (w2.alloc (.cells #[.string ByteArray.empty, .int .i64 1] 40)) := (Below.refl _ _).alloc (Nat.le_refl _) _
  refine (take_any [(1, ByteArray.empty, 2)] B tb n2 v2 (by omega) 2 [(ByteArray.empty, 1)] _ 1 rfl (by omega) _ (by simp; omega) (HT2.out.below hal2) (reads_new1 w2 ByteArray.empty 1 40)).mono ?_
  rintro e w3 ⟨c, hask, hres⟩
  obtain rfl := aw_ask2 hask
  obtain ⟨rfl, hstep⟩ : e = .returned (.bool true) ∧ TabStep B tb v2 (tookL [(1, ByteArray.empty, 2)] 2 [(ByteArray.empty, 1)]) (n2 + 1) _ w3 := by
    rcases hres with ⟨_, h1, h2⟩ | ⟨h0, _⟩
    · exact ⟨h1, h2⟩
    · exact absurd rfl h0
  have hbel3 := hstep.below (HT2.out.below hal2) (by simp; omega) hBt (Nat.le_refl B)
  rw [aw_took2] at hstep
  obtain ⟨v3, n3, ht3, hn3, _, _⟩ := hstep
  obtain ⟨a3, c3, rfl, hr3⟩ := ht3.read
  have HR3 := Lib.hid hr3
  have HB3 := Lib.hid (HB2.out.trans ((hal2.mono hs2).trans hbel3))
  have hs3 : B ≤ w3.heap.size := by have := HB3.out.size; have := HB.out; omega
  clear hres hask ht3 hbel3 hal2 HT2 hr3
  go_wp2_with fail
  have hal3 : Below w3.heap.size w3 (w3.alloc (.cells #[.string ByteArray.empty, .int .i64 5] 40)) := (Below.refl _ _).alloc (Nat.le_refl _) _
  refine (ask_any [(1, ByteArray.empty, 2), (2, ByteArray.empty, 1)] tb n3 c3 a3 (by omega) 3 [(ByteArray.empty, 5)] _ 1 rfl (by omega) _ (HR3.out.below hal3 (Nat.le_refl _)) (reads_new1 w3 ByteArray.empty 5 40)).mono ?_
  rintro e w4 ⟨c, v4, m4, rfl, hask, hm4, _, hr4, hb4⟩
  obtain rfl := aw_ask3 hask
  obtain rfl : m4 = 2 := hm4.symm
  obtain ⟨b4, o4, c4, rfl, hb4l, _, hc4⟩ := Reads.at hr4 0 (by omega) (.int .i64 1) rfl
  have HB4 := Lib.hid (HB3.out.trans ((hal3.mono hs3).trans (hb4.mono (by simp; omega))))
  simp only [Nat.add_zero] at hc4
  have hs4 : B ≤ w4.heap.size := by have := HB4.out.size; have := HB.out; omega
  clear hask hr4 hb4 hal3 HR3
  go_wp2_with (first
    | (go_at_call 10; refine (join_any _ _ _).mono ?_; rintro e w5 ⟨rfl, hb5⟩)
    | (go_at_call 8; refine (fits_any _ _ _).mono ?_; rintro e w6 ⟨rfl, hb6⟩))
  go_ret
  exact ⟨by rw [show fitsB 2 2 = true from by decide]; rfl, HB4.out.trans ((hb5.mono hs4).trans (hb6.mono (by have := hb5.size; omega)))⟩

theorem isM1 : isM 1 = true := rfl
theorem isM2 : isM 2 = true := rfl
theorem isM3 : isM 3 = true := rfl
theorem isM4 : isM 4 = true := rfl
theorem isM5 : isM 5 = true := rfl
theorem ret_b {a b : Bool} (h : a = b) : Ending.returned (.bool a) = .returned (.bool b) := by rw [h]
theorem ret_i {a b : Int} (h : a = b) : Ending.returned (.int .i64 a) = .returned (.int .i64 b) := by rw [h]
set_option maxHeartbeats 4000000 in
theorem rfits_any (a b : Int) (w : World) : Calls Try.prog 9 #[.int .i64 a, .int .i64 b] w fun e w' => e = .returned (.bool (fitsB a b)) ∧ w = w' := by
  by_cases ha : isM a = true
  · by_cases hb : isM b = true
    · have m1 := isM1
      have m2 := isM2
      have m3 := isM3
      have m4 := isM4
      have m5 := isM5
      rcases isM_cases ha with rfl | rfl | rfl | rfl | rfl <;> rcases isM_cases hb with rfl | rfl | rfl | rfl | rfl
      all_goals
        clear ha hb
        go_enter Try.func9, Try.ntmps9
        go_wp2_with (go_at_call 29; refine (rmode_any _ _).mono ?_; rintro e w' ⟨rfl, rfl⟩)
        go_ret
        exact ⟨ret_b (by decide), rfl⟩
    · have hb' : isM b = false := by simpa using hb
      clear hb
      have H : Hid (fitsB a b = false) := Lib.hid (by simp [fitsB, hb'])
      go_enter Try.func9, Try.ntmps9
      go_wp2_with (go_at_call 29; refine (rmode_any _ _).mono ?_; rintro e w' ⟨rfl, rfl⟩)
      go_ret
      exact ⟨ret_b H.out.symm, rfl⟩
  · have ha' : isM a = false := by simpa using ha
    clear ha
    by_cases hb : isM b = true
    · have hz := hb
      clear hz
      have H : Hid (fitsB a b = false) := Lib.hid (by simp [fitsB, ha'])
      go_enter Try.func9, Try.ntmps9
      go_wp2_with (go_at_call 29; refine (rmode_any _ _).mono ?_; rintro e w' ⟨rfl, rfl⟩)
      go_ret
      exact ⟨ret_b H.out.symm, rfl⟩
    · have hb' : isM b = false := by simpa using hb
      clear hb
      have H : Hid (fitsB a b = false) := Lib.hid (by simp [fitsB, ha'])
      go_enter Try.func9, Try.ntmps9
      go_wp2_with (go_at_call 29; refine (rmode_any _ _).mono ?_; rintro e w' ⟨rfl, rfl⟩)
      go_ret
      exact ⟨ret_b H.out.symm, rfl⟩

set_option maxHeartbeats 4000000 in
theorem rjoin_any (a b : Int) (w : World) : Calls Try.prog 11 #[.int .i64 a, .int .i64 b] w fun e w' => e = .returned (.int .i64 (joinI a b)) ∧ w = w' := by
  by_cases ha : isM a = true
  · by_cases hb : isM b = true
    · have m1 := isM1
      have m2 := isM2
      have m3 := isM3
      have m4 := isM4
      have m5 := isM5
      rcases isM_cases ha with rfl | rfl | rfl | rfl | rfl <;> rcases isM_cases hb with rfl | rfl | rfl | rfl | rfl
      all_goals
        clear ha hb
        go_enter Try.func11, Try.ntmps11
        go_wp2_with (go_at_call 29; refine (rmode_any _ _).mono ?_; rintro e w' ⟨rfl, rfl⟩)
        go_ret
        exact ⟨ret_i (by decide), rfl⟩
    · have hb' : isM b = false := by simpa using hb
      clear hb
      have H : Hid (joinI a b = a) := Lib.hid (by rw [joinI_comm, joinI, nm_no hb', nm_yes ha]; exact J_zero (isM_inM ha))
      go_enter Try.func11, Try.ntmps11
      go_wp2_with (go_at_call 29; refine (rmode_any _ _).mono ?_; rintro e w' ⟨rfl, rfl⟩)
      go_ret
      exact ⟨ret_i H.out.symm, rfl⟩
  · have ha' : isM a = false := by simpa using ha
    clear ha
    by_cases hb : isM b = true
    · have hz := hb
      clear hz
      have H : Hid (joinI a b = b) := Lib.hid (by rw [joinI, nm_no ha', nm_yes hb]; exact J_zero (isM_inM hb))
      go_enter Try.func11, Try.ntmps11
      go_wp2_with (go_at_call 29; refine (rmode_any _ _).mono ?_; rintro e w' ⟨rfl, rfl⟩)
      go_ret
      exact ⟨ret_i H.out.symm, rfl⟩
    · have hb' : isM b = false := by simpa using hb
      clear hb
      have H : Hid (joinI a b = 0) := Lib.hid (by rw [joinI, nm_no ha', nm_no hb']; decide)
      go_enter Try.func11, Try.ntmps11
      go_wp2_with (go_at_call 29; refine (rmode_any _ _).mono ?_; rintro e w' ⟨rfl, rfl⟩)
      go_ret
      exact ⟨ret_i H.out.symm, rfl⟩

end Go.Proofs.Ytoghmllkaafckaa

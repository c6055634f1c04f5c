/- The law WaitPlays, walked. Conditions: none. -/
import Derived.Test.YtjakekfalooebaaWOpen
namespace Go.Proofs.Ytjakekfalooebaa
set_option linter.unusedSimpArgs false
set_option linter.unusedVariables false
open Go.RowKit
open W (Rch IsCyc IsVic FreeTo)

def True2 (w : World) (e : Ending) (w' : World) : Prop := e = .returned (.bool true) ∧ Below w.heap.size w w'

set_option maxRecDepth 100000 in
set_option maxHeartbeats 6400000 in
theorem plays_any (l : List (Int × Int)) (v : Value) (n : Nat) (hl : l.length = n) (hn : n ≤ 9223372036854775807) (f : Int) (w : World) (hv : Reads 2 w v n (ecells l)) :
    Calls Try.prog 4 #[v, .int .i64 f] w (True2 w) := by
  obtain ⟨ao, c, rfl⟩ := hv.shape
  have HL := Lib.hid hl
  have HV := Lib.hid hv
  clear hl hv
  by_cases h40 : 40 < n
  · have h41 : decide (40 < n) = true := by simpa using h40
    go_enter Try.func4, Try.ntmps4
    go_wp2_with (go_at_call 7; refine (awake_any _).mono ?_; rintro e w1 ⟨rfl, hb⟩)
    go_ret
    exact ⟨rfl, hb⟩
  · have h41 : decide (40 < n) = false := by simpa using h40
    have hn' : n ≤ 1099511627776 := by omega
    go_enter Try.func4, Try.ntmps4
    go_wp2_with fail
    refine (cycle_any l _ n HL.out hn' f w HV.out).mono ?_
    rintro e w1 ⟨c1, ao1, n1, cap1, rfl, hcl1, hcyc1, hi1, hb1⟩
    have hi1' : Reads 1 w1 (.slice ao1 n1 cap1) n1 (c1.map (Value.int .i64)) := by have := hi1; unfold Ints at this; rwa [hcl1] at this
    have hle1 : n1 ≤ n := by rw [← hcl1, ← HL.out]; exact hcyc1.length
    have HI1 := Lib.hid hi1'
    have HC1 := Lib.hid hcyc1
    have HN1 := Lib.hid hcl1
    have HB1 := Lib.hid hb1
    clear hi1 hi1' hcyc1 hcl1 hb1
    go_wp2_with fail
    refine (toE_any l _ n HL.out hn' w1 (HV.out.below HB1.out (Nat.le_refl _))).mono ?_
    rintro e w2 ⟨v2, rfl, hr2, hb2⟩
    have HR2 := Lib.hid hr2
    have HB2 := Lib.hid (HB1.out.trans (hb2.mono HB1.out.size))
    have HI2 := Lib.hid (HI1.out.below hb2 (Nat.le_refl _))
    clear hr2 hb2 HB1 HI1
    go_wp2_with fail
    refine (rcycle_any l _ n HL.out hn' f w2 HR2.out).mono ?_
    rintro e w3 ⟨c2, ao2, n2, cap2, rfl, hcl2, hcyc2, hi2, hb3⟩
    obtain rfl := HC1.out.eq hcyc2
    have hn12 : n2 = n1 := hcl2.symm.trans HN1.out
    subst hn12
    have hi2' : Reads 1 w3 (.slice ao2 n2 cap2) n2 (c1.map (Value.int .i64)) := by have := hi2; unfold Ints at this; rwa [hcl2] at this
    have HJ3 := Lib.hid hi2'
    have HB3 := Lib.hid (HB2.out.trans (hb3.mono HB2.out.size))
    have HI3 := Lib.hid (HI2.out.below hb3 (Nat.le_refl _))
    clear hi2 hi2' hcyc2 hcl2 hb3 HB2 HI2 HR2
    go_wp2_with fail
    refine (victim_any l _ n HL.out hn' f w3 (HV.out.below HB3.out (Nat.le_refl _))).mono ?_
    rintro e w4 ⟨x4, ok4, rfl, hv4, hb4⟩
    have HV4 := Lib.hid hv4
    have HB4 := Lib.hid (HB3.out.trans (hb4.mono HB3.out.size))
    have HI4 := Lib.hid (HI3.out.below hb4 (Nat.le_refl _))
    have HJ4 := Lib.hid (HJ3.out.below hb4 (Nat.le_refl _))
    clear hv4 hb4 HB3 HI3 HJ3
    go_wp2_with fail
    refine (toE_any l _ n HL.out hn' w4 (HV.out.below HB4.out (Nat.le_refl _))).mono ?_
    rintro e w5 ⟨v5, rfl, hr5, hb5⟩
    have HR5 := Lib.hid hr5
    have HB5 := Lib.hid (HB4.out.trans (hb5.mono HB4.out.size))
    have HI5 := Lib.hid (HI4.out.below hb5 (Nat.le_refl _))
    have HJ5 := Lib.hid (HJ4.out.below hb5 (Nat.le_refl _))
    clear hr5 hb5 HB4 HI4 HJ4
    go_wp2_with fail
    refine (rvictim_any l _ n HL.out hn' f w5 HR5.out).mono ?_
    rintro e w6 ⟨x6, ok6, rfl, hv6, hb6⟩
    obtain ⟨rfl, rfl⟩ := HV4.out.eq hv6
    have HB6 := Lib.hid (HB5.out.trans (hb6.mono HB5.out.size))
    have HI6 := Lib.hid (HI5.out.below hb6 (Nat.le_refl _))
    have HJ6 := Lib.hid (HJ5.out.below hb6 (Nat.le_refl _))
    clear hv6 hb6 HB5 HI5 HJ5 HR5 HV4
    have hok : (ok4 != ok4) = false := by simp
    go_wp2_with fail
    refine (without_any l _ n HL.out hn' f w6 (HV.out.below HB6.out (Nat.le_refl _))).mono ?_
    rintro e w7 ⟨v7, rfl, hr7, hb7⟩
    have HR7 := Lib.hid hr7
    have HB7 := Lib.hid (HB6.out.trans (hb7.mono HB6.out.size))
    have HI7 := Lib.hid (HI6.out.below hb7 (Nat.le_refl _))
    have HJ7 := Lib.hid (HJ6.out.below hb7 (Nat.le_refl _))
    clear hr7 hb7 HB6 HI6 HJ6
    go_wp2_with fail
    refine (toE_any l _ n HL.out hn' w7 (HV.out.below HB7.out (Nat.le_refl _))).mono ?_
    rintro e w8 ⟨v8, rfl, hr8, hb8⟩
    have HR8 := Lib.hid hr8
    have HB8 := Lib.hid (HB7.out.trans (hb8.mono HB7.out.size))
    have HI8 := Lib.hid (HI7.out.below hb8 (Nat.le_refl _))
    have HJ8 := Lib.hid (HJ7.out.below hb8 (Nat.le_refl _))
    have HQ8 := Lib.hid (HR7.out.below hb8 (Nat.le_refl _))
    clear hr8 hb8 HB7 HI7 HJ7 HR7
    go_wp2_with fail
    refine (rwithout_any l _ n HL.out hn' f w8 HR8.out).mono ?_
    rintro e w9 ⟨v9, rfl, hr9, hb9⟩
    have HR9 := Lib.hid hr9
    have HB9 := Lib.hid (HB8.out.trans (hb9.mono HB8.out.size))
    have HI9 := Lib.hid (HI8.out.below hb9 (Nat.le_refl _))
    have HJ9 := Lib.hid (HJ8.out.below hb9 (Nat.le_refl _))
    have HQ9 := Lib.hid (HQ8.out.below hb9 (Nat.le_refl _))
    clear hr9 hb9 HB8 HI8 HJ8 HQ8 HR8
    go_wp2_with fail
    refine (sameE_any (wout l f) _ _ _ rfl (by have := wout_length l f; have := HL.out; omega) w9 HQ9.out HR9.out).mono ?_
    rintro e w10 ⟨rfl, hb10⟩
    have HB10 := Lib.hid (HB9.out.trans (hb10.mono HB9.out.size))
    have HI10 := Lib.hid (HI9.out.below hb10 (Nat.le_refl _))
    have HJ10 := Lib.hid (HJ9.out.below hb10 (Nat.le_refl _))
    clear hb10 HB9 HI9 HJ9 HQ9 HR9
    go_wp2_with fail
    refine (free_any l _ n HL.out hn' w10 (HV.out.below HB10.out (Nat.le_refl _))).mono ?_
    rintro e w11 ⟨f11, v11, rfl, hf11, hr11, hb11⟩
    have HF11 := Lib.hid hf11
    have HR11 := Lib.hid hr11
    have HB11 := Lib.hid (HB10.out.trans (hb11.mono HB10.out.size))
    have HI11 := Lib.hid (HI10.out.below hb11 (Nat.le_refl _))
    have HJ11 := Lib.hid (HJ10.out.below hb11 (Nat.le_refl _))
    clear hf11 hr11 hb11 HB10 HI10 HJ10
    go_wp2_with fail
    refine (toE_any l _ n HL.out hn' w11 (HV.out.below HB11.out (Nat.le_refl _))).mono ?_
    rintro e w12 ⟨v12, rfl, hr12, hb12⟩
    have HR12 := Lib.hid hr12
    have HB12 := Lib.hid (HB11.out.trans (hb12.mono HB11.out.size))
    have HI12 := Lib.hid (HI11.out.below hb12 (Nat.le_refl _))
    have HJ12 := Lib.hid (HJ11.out.below hb12 (Nat.le_refl _))
    have HQ12 := Lib.hid (HR11.out.below hb12 (Nat.le_refl _))
    clear hr12 hb12 HB11 HI11 HJ11 HR11
    go_wp2_with fail
    refine (rfree_any l _ n HL.out hn' w12 HR12.out).mono ?_
    rintro e w13 ⟨f13, v13, rfl, hf13, hr13, hb13⟩
    obtain rfl := HF11.out.eq hf13
    have hfl : f11.length ≤ n := by rw [← HL.out]; exact HF11.out.length
    have HR13 := Lib.hid hr13
    have HB13 := Lib.hid (HB12.out.trans (hb13.mono HB12.out.size))
    have HI13 := Lib.hid (HI12.out.below hb13 (Nat.le_refl _))
    have HJ13 := Lib.hid (HJ12.out.below hb13 (Nat.le_refl _))
    have HQ13 := Lib.hid (HQ12.out.below hb13 (Nat.le_refl _))
    clear hf13 hr13 hb13 HB12 HI12 HJ12 HQ12 HR12
    go_wp2_with fail
    refine (sameE_any f11 _ _ _ rfl (by omega) w13 HQ13.out HR13.out).mono ?_
    rintro e w14 ⟨rfl, hb14⟩
    have HB14 := Lib.hid (HB13.out.trans (hb14.mono HB13.out.size))
    have HI14 := Lib.hid (HI13.out.below hb14 (Nat.le_refl _))
    have HJ14 := Lib.hid (HJ13.out.below hb14 (Nat.le_refl _))
    clear hb14 HB13 HI13 HJ13 HQ13 HR13 HF11 hfl
    go_wp2_with fail
    go_loopw [11] (fun i wr => ∃ (k : Nat), k ≤ n2 ∧ i = .int .i64 k ∧ Below w14.heap.size w14 wr) (fun i _ => n2 - (intOf i).toNat)
    case atStart => exact ⟨0, Nat.zero_le _, rfl, Below.refl _ _⟩
    case round =>
      obtain ⟨k, hk, rfl, hnx⟩ := hrel
      by_cases hlt : k < n2
      · have hkl : k < c1.length := by rw [HN1.out]; exact hlt
        have hu : (c1.map (Value.int .i64))[k]? = some (.int .i64 c1[k]) := by rw [List.getElem?_map, List.getElem?_eq_getElem hkl]; rfl
        obtain ⟨b, o, c', e, hb, _, hc1⟩ := Reads.at HI14.out k hlt _ hu
        obtain ⟨b2, o2, c2', e', hb2, _, hc2⟩ := Reads.at HJ14.out k hlt _ hu
        injection e with e1 e2 e3
        injection e' with e1' e2' e3'
        subst e1 e3 e1' e3'
        generalize c1[k] = x at *
        have hd1 := (hnx.cell (p := ⟨b, o + k, none⟩) hb).trans hc1
        have hd2 := (hnx.cell (p := ⟨b2, o2 + k, none⟩) hb2).trans hc2
        clear hc1 hc2 hkl hu
        go_wp2_with fail
        go_quiet (fail)
        go_wp2
        have hq := below_dn (Below.refl wr.heap.size wr) nq
        go_roundw
        case rel => exact ⟨k + 1, by omega, by go_num, hnx.trans (hq.mono hnx.size)⟩
        case measure => simp [intOf]; omega
      · obtain rfl : n2 = k := by omega
        have HBz := Lib.hid (HB14.out.trans (hnx.mono HB14.out.size))
        clear hnx HI14 HJ14 HB14
        go_wp2_with (go_at_call 7; refine (awake_any _).mono ?_; rintro e w1 ⟨rfl, hb⟩)
        go_ret
        exact ⟨rfl, HBz.out.trans (hb.mono HBz.out.size)⟩
end Go.Proofs.Ytjakekfalooebaa

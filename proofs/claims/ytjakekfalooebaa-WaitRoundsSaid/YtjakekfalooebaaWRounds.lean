/- The law WaitRounds, walked. Conditions: none. -/
import Derived.Test.YtjakekfalooebaaWPlays
import Derived.Test.YtjakekfalooebaaWRoundsP
namespace Go.Proofs.Ytjakekfalooebaa
set_option linter.unusedSimpArgs false
set_option linter.unusedVariables false
open Go.RowKit
open W (Rch IsCyc IsVic ringL moreF nxt G)

/-- the second loop and what is behind it -/
def Mid (N n : Nat) (m : List (Int × Int)) (w : World) (k : Nat) (s : Value) (wr : World) : Prop :=
  ∃ (q cb : Nat) (bo : Option Addr), s = .slice bo q cb ∧ Hid (q = (ringL N ++ moreF N (m.take k)).length) ∧ q ≤ N + k ∧
    wr.ownsRow w.heap.size 24 2 (.slice bo q cb) q (ecells (ringL N ++ moreF N (m.take k))) ∧ Below w.heap.size w wr

set_option maxRecDepth 100000 in
set_option maxHeartbeats 6400000 in
theorem rounds_any (a : Int) (m : List (Int × Int)) (v : Value) (n : Nat) (hl : m.length = n) (hn : n ≤ 9223372036854775807) (w : World) (hv : Reads 2 w v n (ecells m)) :
    Calls Try.prog 6 #[.int .i64 a, v] w (True2 w) := by
  obtain ⟨ao, c, rfl⟩ := hv.shape
  have HL := Lib.hid hl
  have HV := Lib.hid hv
  clear hl hv
  by_cases ha1 : a < 1
  · have h31 : decide (a < 1) = true := by simpa using ha1
    go_enter Try.func6, Try.ntmps6
    go_wp2_with (go_at_call 7; refine (awake_any _).mono ?_; rintro e w1 ⟨rfl, hb⟩)
    go_ret
    exact ⟨rfl, hb⟩
  have h31 : decide (a < 1) = false := by simpa using ha1
  by_cases ha2 : 20 < a
  · have h32 : decide (20 < a) = true := by simpa using ha2
    go_enter Try.func6, Try.ntmps6
    go_wp2_with (go_at_call 7; refine (awake_any _).mono ?_; rintro e w1 ⟨rfl, hb⟩)
    go_ret
    exact ⟨rfl, hb⟩
  have h32 : decide (20 < a) = false := by simpa using ha2
  by_cases hn20 : 20 < n
  · have h33 : decide (20 < n) = true := by simpa using hn20
    go_enter Try.func6, Try.ntmps6
    go_wp2_with (go_at_call 7; refine (awake_any _).mono ?_; rintro e w1 ⟨rfl, hb⟩)
    go_ret
    exact ⟨rfl, hb⟩
  have h33 : decide (20 < n) = false := by simpa using hn20
  have h34 : decide (20 < (n : Int)) = false := by simp; omega
  obtain ⟨N, rfl⟩ : ∃ N : Nat, a = (N : Int) := ⟨a.toNat, by omega⟩
  have hN1 : 1 ≤ N := by omega
  have hN2 : N ≤ 20 := by omega
  clear ha1 ha2
  go_enter Try.func6, Try.ntmps6
  go_wp2_with fail
  go_loopw [5, 6] (fun s i wr => ∃ (k cb : Nat) (bo : Option Addr), k ≤ N ∧ i = .int .i64 ((k : Int) + 1) ∧ s = .slice bo k cb ∧
      wr.ownsRow w.heap.size 24 2 (.slice bo k cb) k (ecells ((ringL N).take k)) ∧ Below w.heap.size w wr) (fun _ i _ => N + 1 - (intOf i).toNat)
  case atStart => exact ⟨0, 0, none, Nat.zero_le _, rfl, rfl, World.ownsRow_nil _ _ _ _, Below.refl _ _⟩
  case round =>
    obtain ⟨k, cb, bo, hk, rfl, rfl, hown, hnx⟩ := hrel
    have HO := Lib.hid hown
    have HNX := Lib.hid hnx
    have hsz := hnx.size
    clear hown hnx
    by_cases hlt : k < N
    · have HT : Hid ((ringL N).take (k + 1) = (ringL N).take k ++ [((k : Int) + 1, ((k : Int) + 1) % (N : Int) + 1)]) := by
        show _ = _; rw [W.nxt_mod hlt]; exact W.ringL_take N k hlt
      have hle : decide ((k : Int) + 1 ≤ N) = true := by simp; omega
      have hm0 : 0 ≤ ((k : Int) + 1) % (N : Int) := Int.emod_nonneg _ (by omega)
      have hm1 : ((k : Int) + 1) % (N : Int) < N := Int.emod_lt_of_pos _ (by omega)
      go_wp2_with (at_builtin; refine wpList_appG edgesOf (.tmp 28) (.tmp 35) rfl rfl (base := w.heap.size) (W0 := w) rfl HO.out HNX.out (arr := #[.int .i64 ((k : Int) + 1), .int .i64 (((k : Int) + 1) % (N : Int) + 1)]) (m := 1) rfl rfl rfl (by intro u hu; simp at hu; rcases hu with rfl | rfl <;> rfl) (by omega) (by omega) (by omega) (by omega) ?_; intro g2 cap2 w2 hown2 hbel2 hg2 hg3 hc2)
      have hown3 : w2.ownsRow w.heap.size 24 2 (.slice (some ⟨g2, 0, none⟩) (k + 1) cap2) (k + 1) (ecells ((ringL N).take (k + 1))) := by rw [HT.out, ecells_append]; exact hown2
      go_roundw
      case rel => exact ⟨k + 1, cap2, _, by omega, by go_num, rfl, hown3, hbel2⟩
      case measure => simp [intOf]; omega
    · obtain rfl : N = k := by omega
      have hle : decide ((N : Int) + 1 ≤ N) = false := by simp; omega
      have HM0 : Hid (Mid N n m w 0 (.slice bo N cb) wr) := by
        have h := HO.out
        rw [List.take_of_length_le (by rw [W.ringL_length]; exact Nat.le_refl _)] at h
        exact Lib.hid ⟨N, cb, bo, rfl, Lib.hid (by simp [moreF, W.ringL_length]), by omega, by simpa [moreF] using h, HNX.out⟩
      clear HO HNX hk hlt
      go_wp2_with fail
      obtain ⟨wo, rfl⟩ : ∃ wo : World, wo = wr := ⟨_, rfl⟩
      go_loopw [5, 7] (fun s i wr => ∃ (k : Nat), k ≤ n ∧ i = .int .i64 k ∧ Mid N n m w k s wr) (fun _ i _ => n - (intOf i).toNat)
      case atStart => exact ⟨0, Nat.zero_le _, rfl, HM0.out⟩
      case round =>
        clear HM0
        obtain ⟨k, hk, rfl, q, cb, bo, rfl, HQ, hq, hown, hnx⟩ := hrel
        have HO := Lib.hid hown
        have HNX := Lib.hid hnx
        have hsz := hnx.size
        clear hown hnx
        by_cases hlt : k < n
        · have hkl : k < m.length := by rw [HL.out]; exact hlt
          have hts : m.take (k + 1) = m.take k ++ [m[k]] := List.take_succ_eq_append_getElem hkl
          obtain ⟨b, o, c', e, hb, _, hc1, hc2⟩ := Edges.at HV.out k hlt m[k] (List.getElem?_eq_getElem hkl)
          injection e with e1 e2 e3
          subst e1 e3
          generalize m[k] = x at *
          obtain ⟨x1, x2⟩ := x
          have hd1 := (HNX.out.cell (p := ⟨b, o + k * 2, none⟩) hb).trans hc1
          have hd2 := (HNX.out.cell (p := ⟨b, o + k * 2 + 1, none⟩) hb).trans hc2
          clear hc1 hc2 hkl
          by_cases h2 : (N : Int) < x2
          · have HT : Hid (ringL N ++ moreF N (m.take (k + 1)) = ringL N ++ moreF N (m.take k) ++ [(x1, x2)]) := by show _ = _; rw [hts, W.moreF_snoc_yes _ _ _ h2, List.append_assoc]
            have hb2 : decide ((N : Int) < x2) = true := by simpa using h2
            clear h2 hts
            by_cases h1 : x1 ≤ N
            · have hb1 : decide (x1 ≤ (N : Int)) = true := by simpa using h1
              have hb3 : decide ((N : Int) < x1) = false := by simpa using h1
              clear h1
              go_wp2_with (at_builtin; refine wpList_appG edgesOf (.tmp 77) (.tmp 82) rfl rfl (base := w.heap.size) (W0 := w) rfl HO.out HNX.out (arr := #[.int .i64 x1, .int .i64 x2]) (m := 1) rfl rfl rfl (by intro u hu; simp at hu; rcases hu with rfl | rfl <;> rfl) (by omega) (by omega) (by omega) (by omega) ?_; intro g2 cap2 w2 hown2 hbel2 hg2 hg3 hc2)
              have HMn : Hid (Mid N n m w (k + 1) (.slice (some ⟨g2, 0, none⟩) (q + 1) cap2) w2) :=
                Lib.hid ⟨q + 1, cap2, _, rfl, Lib.hid (by rw [HT.out, List.length_append, ← HQ.out]; rfl), by omega, by rw [HT.out, ecells_append]; exact hown2, hbel2⟩
              go_roundw
              case rel => exact ⟨k + 1, by omega, by go_num, HMn.out⟩
              case measure => simp [intOf]; omega
            · have hb1 : decide (x1 ≤ (N : Int)) = false := by simpa using h1
              have hb3 : decide ((N : Int) < x1) = true := by simp at h1 ⊢; omega
              clear h1
              go_wp2_with (at_builtin; refine wpList_appG edgesOf (.tmp 77) (.tmp 82) rfl rfl (base := w.heap.size) (W0 := w) rfl HO.out HNX.out (arr := #[.int .i64 x1, .int .i64 x2]) (m := 1) rfl rfl rfl (by intro u hu; simp at hu; rcases hu with rfl | rfl <;> rfl) (by omega) (by omega) (by omega) (by omega) ?_; intro g2 cap2 w2 hown2 hbel2 hg2 hg3 hc2)
              have HMn : Hid (Mid N n m w (k + 1) (.slice (some ⟨g2, 0, none⟩) (q + 1) cap2) w2) :=
                Lib.hid ⟨q + 1, cap2, _, rfl, Lib.hid (by rw [HT.out, List.length_append, ← HQ.out]; rfl), by omega, by rw [HT.out, ecells_append]; exact hown2, hbel2⟩
              go_roundw
              case rel => exact ⟨k + 1, by omega, by go_num, HMn.out⟩
              case measure => simp [intOf]; omega
          · have HT : Hid (ringL N ++ moreF N (m.take (k + 1)) = ringL N ++ moreF N (m.take k)) := by show _ = _; rw [hts, W.moreF_snoc_no _ _ _ h2]
            have hb2 : decide ((N : Int) < x2) = false := by simpa using h2
            clear h2 hts
            by_cases h1 : x1 ≤ N
            · have hb1 : decide (x1 ≤ (N : Int)) = true := by simpa using h1
              have hb3 : decide ((N : Int) < x1) = false := by simpa using h1
              clear h1
              have HMn : Hid (Mid N n m w (k + 1) (.slice bo q cb) wr) :=
                Lib.hid ⟨q, cb, _, rfl, Lib.hid (by rw [HT.out]; exact HQ.out), by omega, by rw [HT.out]; exact HO.out, HNX.out⟩
              go_wp2
              go_roundw
              case rel => exact ⟨k + 1, by omega, by go_num, HMn.out⟩
              case measure => simp [intOf]; omega
            · have hb1 : decide (x1 ≤ (N : Int)) = false := by simpa using h1
              have hb3 : decide ((N : Int) < x1) = true := by simp at h1 ⊢; omega
              clear h1
              have HMn : Hid (Mid N n m w (k + 1) (.slice bo q cb) wr) :=
                Lib.hid ⟨q, cb, _, rfl, Lib.hid (by rw [HT.out]; exact HQ.out), by omega, by rw [HT.out]; exact HO.out, HNX.out⟩
              go_wp2
              go_roundw
              case rel => exact ⟨k + 1, by omega, by go_num, HMn.out⟩
              case measure => simp [intOf]; omega
        · obtain rfl : n = k := by omega
          have hall : m.take n = m := List.take_of_length_le (Nat.le_of_eq HL.out)
          have HQ' : Hid ((G N m).length = q) := by have := HQ.out; rw [hall] at this; exact Lib.hid this.symm
          have HR : Hid (Reads 2 wr (.slice bo q cb) q (ecells (G N m))) := by have := Reads.of_own HO.out; rw [hall] at this; exact Lib.hid this
          have hq' : q ≤ 1099511627776 := by omega
          clear HO HQ hall
          go_wp2_with fail
          refine (cycle_any (G N m) _ q HQ'.out hq' 1 wr HR.out).mono ?_
          rintro e w1 ⟨c1, ao1, n1, cap1, rfl, hcl1, hcyc1, hi1, hb1⟩
          have hn1 : n1 = N := hcl1.symm.trans (W.G_cyc hN1 hcyc1)
          subst hn1
          have HB1 := Lib.hid (HNX.out.trans (hb1.mono hsz))
          have HR1 := Lib.hid (HR.out.below hb1 (Nat.le_refl _))
          clear hi1 hcyc1 hcl1 hb1 HR
          go_wp2_with fail
          refine (victim_any (G n1 m) _ q HQ'.out hq' n1 w1 HR1.out).mono ?_
          rintro e w2 ⟨v2, ok2, rfl, hv2, hb2⟩
          obtain ⟨rfl, rfl⟩ := W.G_vic hN1 hv2
          have HB2 := Lib.hid (HB1.out.trans (hb2.mono HB1.out.size))
          have HR2 := Lib.hid (HR1.out.below hb2 (Nat.le_refl _))
          clear hv2 hb2 HB1 HR1
          go_wp2_with fail
          refine (without_any (G n1 m) _ q HQ'.out hq' n1 w2 HR2.out).mono ?_
          rintro e w3 ⟨v3, rfl, hr3, hb3⟩
          have HB3 := Lib.hid (HB2.out.trans (hb3.mono HB2.out.size))
          have HR3 := Lib.hid hr3
          have hwl : (wout (G n1 m) n1).length ≤ 1099511627776 := by have := wout_length (G n1 m) n1; have := HQ'.out; omega
          have HWL := Lib.hid hwl
          clear hr3 hb3 HB2 HR2 hwl
          go_wp2_with fail
          refine (cycle_any (wout (G n1 m) n1) _ _ rfl HWL.out 1 w3 HR3.out).mono ?_
          rintro e w4 ⟨c4, ao4, n4, cap4, rfl, hcl4, hcyc4, hi4, hb4⟩
          obtain rfl := hcyc4.nil (W.G_cut hN1)
          have hn4 : n4 = 0 := hcl4.symm
          subst hn4
          have HB4 := Lib.hid (HB3.out.trans (hb4.mono HB3.out.size))
          clear hi4 hcyc4 hcl4 hb4 HB3 HR3
          go_wp2_with (go_at_call 7; refine (awake_any _).mono ?_; rintro e w1 ⟨rfl, hb⟩)
          go_ret
          exact ⟨rfl, HB4.out.trans (hb.mono HB4.out.size)⟩
end Go.Proofs.Ytjakekfalooebaa

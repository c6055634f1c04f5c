/- What Free tells, the program's and the reference's. Conditions: at most 2^40 edges. -/
import Derived.Test.YtjakekfalooebaaWRef
import Derived.Test.YtjakekfalooebaaWFreeP
namespace Go.Proofs.Ytjakekfalooebaa
set_option linter.unusedSimpArgs false
set_option linter.unusedVariables false
open Go.RowKit
open W (Rch IsCyc Best FreeTo)

/-- what Free tells -/
def FreeEnd (l : List (Int × Int)) (w : World) (e : Ending) (w' : World) : Prop :=
  ∃ f v, e = .returned v ∧ FreeTo l f ∧ Edges w' v f ∧ Below w.heap.size w w'

set_option maxRecDepth 100000 in
set_option maxHeartbeats 6400000 in
theorem free_any (l : List (Int × Int)) (v : Value) (n : Nat) (hl : l.length = n) (hn : n ≤ 1099511627776) (w : World) (hv : Reads 2 w v n (ecells l)) :
    Calls Try.prog 9 #[v] w (FreeEnd l w) := by
  obtain ⟨ao, c, rfl⟩ := hv.shape
  have HL := Lib.hid hl
  have HV := Lib.hid hv
  clear hl hv
  go_enter Try.func9, Try.ntmps9
  go_wp2_with fail
  refine (cloneE_any _ n _ w HV.out (ecells_one l) hn).mono ?_
  rintro e w1 ⟨ao1, cap1, rfl, hcap1, hr1, hb1⟩
  have HR1 := Lib.hid hr1
  have HB1 := Lib.hid hb1
  clear hr1 hb1
  go_wp2_with fail
  refine (clipE_any ao1 n cap1 _ hcap1).mono ?_
  rintro e w2 ⟨rfl, rfl⟩
  go_wp2_with fail
  go_loopw [0] (fun s wr => ∃ (m : List (Int × Int)) (ao : Option Addr) (nm cm : Nat), s = .slice ao nm cm ∧ Hid (m.length = nm) ∧ nm ≤ n ∧ (∀ f, FreeTo m f → FreeTo l f) ∧ Reads 2 wr (.slice ao nm cm) nm (ecells m) ∧ Below w.heap.size w wr) (fun s _ => lenOf s)
  case atStart => exact ⟨l, ao1, n, n, rfl, HL, Nat.le_refl _, fun f h => h, HR1.out.cut (Nat.le_refl _), HB1.out⟩
  case round =>
    clear HR1 HB1
    obtain ⟨m, aom, nm, cm, rfl, HM, hnm, hft, hrm, hbm⟩ := hrel
    have HFT := Lib.hid hft
    have HRM := Lib.hid hrm
    have HBM := Lib.hid hbm
    have hszm := hbm.size
    clear hft hrm hbm
    go_wp2_with fail
    obtain ⟨wo, rfl⟩ : ∃ wo : World, wo = wr := ⟨_, rfl⟩
    go_loopw [3, 4, 12] (fun bv sv i wr => ∃ (k : Nat) (best : Int) (some : Bool), bv = .int .i64 best ∧ sv = .bool some ∧ i = .int .i64 k ∧ k ≤ nm ∧ Best m k best some ∧ Below wo.heap.size wo wr) (fun _ _ i _ => nm - (intOf i).toNat)
    case atStart => exact ⟨0, 0, false, rfl, rfl, rfl, Nat.zero_le _, W.Best.start _ _, Below.refl _ _⟩
    case round =>
      obtain ⟨k, best, some, rfl, rfl, rfl, hk, hbest, hnx⟩ := hrel
      have HBest := Lib.hid hbest
      have HNX := Lib.hid hnx
      have hsz := hnx.size
      clear hbest hnx
      by_cases hlt : k < nm
      · have hkl : k < m.length := by rw [HM.out]; exact hlt
        have hmk : m[k]? = Option.some m[k] := List.getElem?_eq_getElem hkl
        obtain ⟨b, o, c', e, hb, _, hc1, hc2⟩ := Edges.at HRM.out k hlt m[k] hmk
        injection e with e1 e2 e3
        subst e1 e3
        generalize m[k] = x at *
        obtain ⟨x1, x2⟩ := x
        have hd1 := (HNX.out.cell (p := ⟨b, o + k * 2, none⟩) hb).trans hc1
        have hd2 := (HNX.out.cell (p := ⟨b, o + k * 2 + 1, none⟩) hb).trans hc2
        have HMK := Lib.hid hmk
        clear hmk hkl
        obtain ⟨g, hg0⟩ : ∃ g, wr.heap.size = g := ⟨_, rfl⟩
        have be := Box.new wr #[.int .i64 x1, .int .i64 x2] 24 hg0.symm
        have HF : Hid (Box (wr.alloc (.cells #[.int .i64 x1, .int .i64 x2] 24)) g [.int .i64 x1, .int .i64 x2] ∧ Below wr.heap.size wr (wr.alloc (.cells #[.int .i64 x1, .int .i64 x2] 24)) ∧ g < (wr.alloc (.cells #[.int .i64 x1, .int .i64 x2] 24)).heap.size) :=
          Lib.hid ⟨be, (Below.refl _ _).alloc (Nat.le_refl _) _, by simp; omega⟩
        have HG := Lib.hid hg0
        clear be hg0
        go_wp2_with fail
        rw [HG.out]
        refine calls_world (fun w0 => Box w0 g [.int .i64 x1, .int .i64 x2] ∧ Below wr.heap.size wr w0 ∧ g < w0.heap.size) HF.out ?_
        clear HF
        rintro w0 ⟨be, hb0, hs0⟩
        refine (cycle_any m _ nm HM.out (by omega) x1 _ (HRM.out.below (HNX.out.trans (hb0.mono hsz)) (Nat.le_refl _))).mono ?_
        rintro e w1 ⟨cc, ao1, nc, cap, rfl, hcl, hcyc, hi, hb1⟩
        have hcp : 0 < nc ↔ Rch m x1 x1 := by rw [← hcl]; exact hcyc.pos
        have hncn : nc ≤ nm := by rw [← hcl, ← HM.out]; exact hcyc.length
        have HCP := Lib.hid hcp
        clear hcl hcyc hi hcp
        have be1 := be.below' hb1 hs0
        have ce0 := be1.cell 0 _ rfl
        have ce1 := be1.cell 1 _ rfl
        have ceq := be1.free
        have HNXn : Hid (Below wo.heap.size wo w1) := Lib.hid ((HNX.out.trans (hb0.mono hsz)).trans (hb1.mono (Nat.le_trans hsz hb0.size)))
        clear be hb0 hb1
        by_cases hz : nc = 0
        · have hz1 : decide (0 < nc) = false := by simp [hz]
          have HBn := Lib.hid (HBest.out.skip HMK.out (fun h => absurd (HCP.out.2 h) (by simp [hz])))
          have HZ := Lib.hid hz
          clear hz
          go_wp2
          go_roundw
          case rel => exact ⟨k + 1, best, some, rfl, rfl, by go_num, by omega, HBn.out, HNXn.out⟩
          case measure => simp [intOf]; omega
        · have hz1 : decide (0 < nc) = true := by simp; omega
          have HRR := Lib.hid (HCP.out.1 (by omega))
          clear hz
          cases some with
          | false =>
            have HBn := Lib.hid (HBest.out.take HMK.out HRR.out (by intro h; cases h))
            go_wp2
            go_roundw
            case rel => exact ⟨k + 1, x1, true, rfl, rfl, by go_num, by omega, HBn.out, HNXn.out⟩
            case measure => simp [intOf]; omega
          | true =>
            by_cases hx : best < x1
            · have hx1 : decide (best < x1) = true := by simpa using hx
              have HBn := Lib.hid (HBest.out.take HMK.out HRR.out (fun _ => hx))
              clear hx
              go_wp2
              go_roundw
              case rel => exact ⟨k + 1, x1, true, rfl, rfl, by go_num, by omega, HBn.out, HNXn.out⟩
              case measure => simp [intOf]; omega
            · have hx1 : decide (best < x1) = false := by simpa using hx
              have HBn := Lib.hid (HBest.out.skip HMK.out (fun _ => ⟨rfl, by omega⟩))
              clear hx
              go_wp2
              go_roundw
              case rel => exact ⟨k + 1, best, true, rfl, rfl, by go_num, by omega, HBn.out, HNXn.out⟩
              case measure => simp [intOf]; omega
      · obtain rfl : nm = k := by omega
        have hall : m.take nm = m := List.take_of_length_le (Nat.le_of_eq HM.out)
        have HBW := Lib.hid (HBM.out.trans (HNX.out.mono hszm))
        cases some with
        | false =>
          have hno := HBest.out.no rfl
          rw [hall] at hno
          have HX := Lib.hid (⟨m, _, rfl, HFT.out _ (W.FreeTo.done hno), by show Reads 2 _ _ _ _; rw [HM.out]; exact HRM.out.below HNX.out (Nat.le_refl _), HBW.out⟩ : FreeEnd l w (.returned (.slice aom nm cm)) wr)
          clear hno hall
          go_wp2
          go_ret
          exact HX.out
        | true =>
          have hyes := HBest.out.yes rfl
          rw [hall] at hyes
          have hlt2 := W.wout_lt hyes.1
          rw [HM.out] at hlt2
          have HFTn := Lib.hid (fun f h => HFT.out f (W.FreeTo.step hyes.1 hyes.2 h) : ∀ f, FreeTo (wout m best) f → FreeTo l f)
          clear hyes hall
          go_wp2_with fail
          refine (without_any m _ nm HM.out (by omega) best _ (HRM.out.below HNX.out (Nat.le_refl _))).mono ?_
          rintro e w1 ⟨v1, rfl, hr1, hb1⟩
          obtain ⟨n1, hn1⟩ : ∃ n1, (wout m best).length = n1 := ⟨_, rfl⟩
          have hr1' : Reads 2 w1 v1 n1 (ecells (wout m best)) := by have := hr1; unfold Edges at this; rwa [hn1] at this
          rw [hn1] at hlt2
          obtain ⟨aow, cw, rfl⟩ := hr1'.shape
          have HR1 := Lib.hid hr1'
          have HN1 := Lib.hid hn1
          have HB1 := Lib.hid (HBW.out.trans (hb1.mono (Nat.le_trans hszm hsz)))
          clear hr1 hr1' hn1 hb1
          go_wp2
          go_roundw
          case rel => exact ⟨wout m best, aow, n1, cw, rfl, HN1, by omega, HFTn.out, HR1.out, HB1.out⟩
          case measure => simp [lenOf]; omega

set_option maxRecDepth 100000 in
set_option maxHeartbeats 6400000 in
theorem rfree_any (l : List (Int × Int)) (v : Value) (n : Nat) (hl : l.length = n) (hn : n ≤ 1099511627776) (w : World) (hv : Reads 2 w v n (ecells l)) :
    Calls Try.prog 17 #[v] w (FreeEnd l w) := by
  obtain ⟨ao, c, rfl⟩ := hv.shape
  have HL := Lib.hid hl
  have HV := Lib.hid hv
  clear hl hv
  go_enter Try.func17, Try.ntmps17
  go_wp2_with fail

  go_loopw [0] (fun s wr => ∃ (m : List (Int × Int)) (ao : Option Addr) (nm cm : Nat), s = .slice ao nm cm ∧ Hid (m.length = nm) ∧ nm ≤ n ∧ (∀ f, FreeTo m f → FreeTo l f) ∧ Reads 2 wr (.slice ao nm cm) nm (ecells m) ∧ Below w.heap.size w wr) (fun s _ => lenOf s)
  case atStart => exact ⟨l, ao, n, c, rfl, HL, Nat.le_refl _, fun f h => h, HV.out, Below.refl _ _⟩
  case round =>
    clear HV
    obtain ⟨m, aom, nm, cm, rfl, HM, hnm, hft, hrm, hbm⟩ := hrel
    have HFT := Lib.hid hft
    have HRM := Lib.hid hrm
    have HBM := Lib.hid hbm
    have hszm := hbm.size
    clear hft hrm hbm
    go_wp2_with fail
    obtain ⟨wo, rfl⟩ : ∃ wo : World, wo = wr := ⟨_, rfl⟩
    go_loopw [3, 4, 5] (fun bv sv i wr => ∃ (k : Nat) (best : Int) (some : Bool), bv = .int .i64 best ∧ sv = .bool some ∧ i = .int .i64 k ∧ k ≤ nm ∧ Best m k best some ∧ Below wo.heap.size wo wr) (fun _ _ i _ => nm - (intOf i).toNat)
    case atStart => exact ⟨0, 0, false, rfl, rfl, rfl, Nat.zero_le _, W.Best.start _ _, Below.refl _ _⟩
    case round =>
      obtain ⟨k, best, some, rfl, rfl, rfl, hk, hbest, hnx⟩ := hrel
      have HBest := Lib.hid hbest
      have HNX := Lib.hid hnx
      have hsz := hnx.size
      clear hbest hnx
      by_cases hlt : k < nm
      · have hkl : k < m.length := by rw [HM.out]; exact hlt
        have hmk : m[k]? = Option.some m[k] := List.getElem?_eq_getElem hkl
        obtain ⟨b, o, c', e, hb, _, hc1, hc2⟩ := Edges.at HRM.out k hlt m[k] hmk
        injection e with e1 e2 e3
        subst e1 e3
        generalize m[k] = x at *
        obtain ⟨x1, x2⟩ := x
        have hd1 := (HNX.out.cell (p := ⟨b, o + k * 2, none⟩) hb).trans hc1
        have hd2 := (HNX.out.cell (p := ⟨b, o + k * 2 + 1, none⟩) hb).trans hc2
        have HMK := Lib.hid hmk
        clear hmk hkl
        go_wp2_with fail
        refine (rcycle_any m _ nm HM.out (by omega) x1 _ (HRM.out.below HNX.out (Nat.le_refl _))).mono ?_
        rintro e w1 ⟨cc, ao1, nc, cap, rfl, hcl, hcyc, hi, hb1⟩
        have hcp : 0 < nc ↔ Rch m x1 x1 := by rw [← hcl]; exact hcyc.pos
        have hncn : nc ≤ nm := by rw [← hcl, ← HM.out]; exact hcyc.length
        have HCP := Lib.hid hcp
        clear hcl hcyc hi hcp
        have hd3 := (hb1.cell (p := ⟨b, o + k * 2, none⟩) (by show b < _; omega)).trans hd1
        have hd4 := (hb1.cell (p := ⟨b, o + k * 2 + 1, none⟩) (by show b < _; omega)).trans hd2
        have HNXn : Hid (Below wo.heap.size wo w1) := Lib.hid (HNX.out.trans (hb1.mono hsz))
        clear hb1
        by_cases hz : nc = 0
        · have hz1 : decide (0 < nc) = false := by simp [hz]
          have HBn := Lib.hid (HBest.out.skip HMK.out (fun h => absurd (HCP.out.2 h) (by simp [hz])))
          have HZ := Lib.hid hz
          clear hz
          go_wp2
          go_roundw
          case rel => exact ⟨k + 1, best, some, rfl, rfl, by go_num, by omega, HBn.out, HNXn.out⟩
          case measure => simp [intOf]; omega
        · have hz1 : decide (0 < nc) = true := by simp; omega
          have HRR := Lib.hid (HCP.out.1 (by omega))
          clear hz
          cases some with
          | false =>
            have HBn := Lib.hid (HBest.out.take HMK.out HRR.out (by intro h; cases h))
            go_wp2
            go_roundw
            case rel => exact ⟨k + 1, x1, true, rfl, rfl, by go_num, by omega, HBn.out, HNXn.out⟩
            case measure => simp [intOf]; omega
          | true =>
            by_cases hx : best < x1
            · have hx1 : decide (best < x1) = true := by simpa using hx
              have HBn := Lib.hid (HBest.out.take HMK.out HRR.out (fun _ => hx))
              clear hx
              go_wp2
              go_roundw
              case rel => exact ⟨k + 1, x1, true, rfl, rfl, by go_num, by omega, HBn.out, HNXn.out⟩
              case measure => simp [intOf]; omega
            · have hx1 : decide (best < x1) = false := by simpa using hx
              have HBn := Lib.hid (HBest.out.skip HMK.out (fun _ => ⟨rfl, by omega⟩))
              clear hx
              go_wp2
              go_roundw
              case rel => exact ⟨k + 1, best, true, rfl, rfl, by go_num, by omega, HBn.out, HNXn.out⟩
              case measure => simp [intOf]; omega
      · obtain rfl : nm = k := by omega
        have hall : m.take nm = m := List.take_of_length_le (Nat.le_of_eq HM.out)
        have HBW := Lib.hid (HBM.out.trans (HNX.out.mono hszm))
        cases some with
        | false =>
          have hno := HBest.out.no rfl
          rw [hall] at hno
          have HX := Lib.hid (⟨m, _, rfl, HFT.out _ (W.FreeTo.done hno), by show Reads 2 _ _ _ _; rw [HM.out]; exact HRM.out.below HNX.out (Nat.le_refl _), HBW.out⟩ : FreeEnd l w (.returned (.slice aom nm cm)) wr)
          clear hno hall
          go_wp2
          go_ret
          exact HX.out
        | true =>
          have hyes := HBest.out.yes rfl
          rw [hall] at hyes
          have hlt2 := W.wout_lt hyes.1
          rw [HM.out] at hlt2
          have HFTn := Lib.hid (fun f h => HFT.out f (W.FreeTo.step hyes.1 hyes.2 h) : ∀ f, FreeTo (wout m best) f → FreeTo l f)
          clear hyes hall
          go_wp2_with fail
          refine (rwithout_any m _ nm HM.out (by omega) best _ (HRM.out.below HNX.out (Nat.le_refl _))).mono ?_
          rintro e w1 ⟨v1, rfl, hr1, hb1⟩
          obtain ⟨n1, hn1⟩ : ∃ n1, (wout m best).length = n1 := ⟨_, rfl⟩
          have hr1' : Reads 2 w1 v1 n1 (ecells (wout m best)) := by have := hr1; unfold Edges at this; rwa [hn1] at this
          rw [hn1] at hlt2
          obtain ⟨aow, cw, rfl⟩ := hr1'.shape
          have HR1 := Lib.hid hr1'
          have HN1 := Lib.hid hn1
          have HB1 := Lib.hid (HBW.out.trans (hb1.mono (Nat.le_trans hszm hsz)))
          clear hr1 hr1' hn1 hb1
          go_wp2
          go_roundw
          case rel => exact ⟨wout m best, aow, n1, cw, rfl, HN1, by omega, HFTn.out, HR1.out, HB1.out⟩
          case measure => simp [lenOf]; omega

end Go.Proofs.Ytjakekfalooebaa

/- The document's Ask. Conditions: at most 2^20 locks and wants. -/
import Derived.Test.YtoghmllkaafckaaLkRef
import Derived.Deep.QuietTactic
import Derived.BigQuiet
namespace Go.Proofs.Ytoghmllkaafckaa
set_option linter.unusedSimpArgs false
set_option linter.unusedVariables false
open Go.RowKit
open W (putL)

def wantedB (l : List Wn) (n : ByteArray) : Bool := l.any fun w => decide (w.1 = n) && isM w.2
theorem wantedB_iff {l : List Wn} {n : ByteArray} : wantedB l n = true ↔ wanted l n := by
  unfold wantedB wanted
  rw [List.any_eq_true]
  constructor
  · rintro ⟨w, h1, h2⟩; simp only [Bool.and_eq_true, decide_eq_true_eq] at h2; exact ⟨w, h1, h2⟩
  · rintro ⟨w, h1, h2⟩; exact ⟨w, h1, by simp only [Bool.and_eq_true, decide_eq_true_eq]; exact h2⟩
theorem wantedB_snoc (l : List Wn) (w : Wn) (n : ByteArray) : wantedB (l ++ [w]) n = (wantedB l n || (decide (w.1 = n) && isM w.2)) := by simp [wantedB]
/-- does a lock stand in the way -/
def inWay (L : List Hd) (id : Int) (l : List Wn) (h : Hd) : Bool := decide (h.1 ≠ id) && wantedB l h.2.1 && !fitsB h.2.2 (goal L id l h.2.1)
def raskL (L : List Hd) (id : Int) (l : List Wn) (K : List Hd) : List Int := K.foldl (fun out h => if inWay L id l h = true then putL out h.1 else out) []
theorem raskL_snoc (L : List Hd) (id : Int) (l : List Wn) (K : List Hd) (h : Hd) : raskL L id l (K ++ [h]) = if inWay L id l h = true then putL (raskL L id l K) h.1 else raskL L id l K := by simp [raskL, List.foldl_append]
theorem raskL_spec (L : List Hd) (id : Int) (l : List Wn) (K : List Hd) : (raskL L id l K).Pairwise (· < ·) ∧ (∀ x, x ∈ raskL L id l K ↔ ∃ h ∈ K, h.1 = x ∧ inWay L id l h = true) ∧ (raskL L id l K).length ≤ K.length := by
  have key : ∀ k, k ≤ K.length → (raskL L id l (K.take k)).Pairwise (· < ·) ∧ (∀ x, x ∈ raskL L id l (K.take k) ↔ ∃ h ∈ K.take k, h.1 = x ∧ inWay L id l h = true) ∧ (raskL L id l (K.take k)).length ≤ k := by
    intro k
    induction k with
    | zero => intro _; exact ⟨by simp [raskL], fun x => by simp [raskL], by simp [raskL]⟩
    | succ k ih =>
      intro hk
      obtain ⟨h1, h2, h3⟩ := ih (by omega)
      rw [List.take_succ_eq_append_getElem (by omega), raskL_snoc]
      split
      · rename_i hw
        refine ⟨W.putL_sorted _ _ h1, fun x => ?_, by have := W.putL_length (raskL L id l (K.take k)) K[k].1; omega⟩
        rw [W.mem_putL, h2]
        constructor
        · rintro (⟨h, g1, g2⟩ | rfl)
          · exact ⟨h, List.mem_append_left _ g1, g2⟩
          · exact ⟨K[k], List.mem_append_right _ (List.mem_singleton.2 rfl), rfl, hw⟩
        · rintro ⟨h, g1, g2, g3⟩
          rcases List.mem_append.1 g1 with g1 | g1
          · exact .inl ⟨h, g1, g2, g3⟩
          · rw [List.mem_singleton] at g1; subst g1; exact .inr g2.symm
      · rename_i hw
        refine ⟨h1, fun x => ?_, by omega⟩
        rw [h2]
        constructor
        · rintro ⟨h, g1, g2⟩; exact ⟨h, List.mem_append_left _ g1, g2⟩
        · rintro ⟨h, g1, g2, g3⟩
          rcases List.mem_append.1 g1 with g1 | g1
          · exact ⟨h, g1, g2, g3⟩
          · rw [List.mem_singleton] at g1; subst g1; exact absurd g3 hw
  have := key K.length (Nat.le_refl _)
  rwa [List.take_length] at this
theorem raskL_is (L : List Hd) (id : Int) (l : List Wn) : IsAsk L id l (raskL L id l L) := by
  obtain ⟨h1, h2, _⟩ := raskL_spec L id l L
  refine ⟨h1, fun x => ?_⟩
  rw [h2]
  constructor
  · rintro ⟨h, g1, rfl, g3⟩
    simp only [inWay, Bool.and_eq_true, decide_eq_true_eq, Bool.not_eq_true'] at g3
    exact ⟨h, g1, rfl, g3.1.1, wantedB_iff.1 g3.1.2, g3.2⟩
  · rintro ⟨h, g1, rfl, g3, g4, g5⟩
    refine ⟨h, g1, rfl, ?_⟩
    simp only [inWay, Bool.and_eq_true, decide_eq_true_eq, Bool.not_eq_true']
    exact ⟨⟨g3, wantedB_iff.2 g4⟩, g5⟩

theorem rfits_same (a b : Int) (w : World) : Calls Try.prog 9 #[.int .i64 a, .int .i64 b] w fun e w' => e = .returned (.bool (fitsB a b)) ∧ w' = w := (rfits_any a b w).mono fun _ _ ⟨h1, h2⟩ => ⟨h1, h2.symm⟩

set_option maxRecDepth 100000 in
set_option maxHeartbeats 6400000 in
theorem rask_any (L : List Hd) (tb n c : Nat) (ao : Option Addr) (hn : n ≤ 1048576) (id : Int) (l : List Wn) (v : Value) (nl : Nat) (hl : l.length = nl) (hnl : nl ≤ 1048576) (w : World) (ht : TabR w tb n c ao L) (hv : Reads 2 w v nl (wcells l)) :
    Calls Try.prog 23 #[.pointer (some ⟨tb, 0, none⟩), .int .i64 id, v] w fun e w' => ∃ (c : List Int) (ao : Option Addr) (m cp : Nat), e = .returned (.slice ao m cp) ∧ IsAsk L id l c ∧ c.length = m ∧ m ≤ 1099511627776 ∧ Reads 1 w' (.slice ao m cp) m (c.map (Value.int .i64)) ∧ Below w.heap.size w w' := by
  obtain ⟨av, cv, rfl⟩ := hv.shape
  have HV := Lib.hid hv
  have HT := Lib.hid ht
  have HNL := Lib.hid hl
  have HL := Lib.hid ht.len
  have htl := ht.box.lt
  clear hv hl
  obtain ⟨G, hG⟩ : ∃ G, w.heap.size = G := ⟨_, rfl⟩
  have HG := Lib.hid hG
  clear hG ht
  go_enter Try.func23, Try.ntmps23
  go_wp2_with fail
  go_loopw [7, 8] (fun s i wr => ∃ (k q cb : Nat) (bo : Option Addr), k ≤ n ∧ i = .int .i64 k ∧ s = .slice bo q cb ∧ Hid ((raskL L id l (L.take k)).length = q) ∧
      Reads 1 wr (.slice bo q cb) q ((raskL L id l (L.take k)).map (Value.int .i64)) ∧ Below G w wr) (fun _ i _ => n - (intOf i).toNat)
  case atStart => exact ⟨0, 0, 0, none, Nat.zero_le _, rfl, rfl, Lib.hid rfl, Reads.empty, Below.refl _ _⟩
  case round =>
    obtain ⟨k, q, cb, bo, hk, rfl, rfl, HQ, hrd, hnx⟩ := hrel
    have HO := Lib.hid hrd
    have HNX := Lib.hid hnx
    have hsz : G ≤ wr.heap.size := by have := hnx.size; have := HG.out; omega
    have HT1 := Lib.hid (HT.out.below hnx (by rw [HG.out]; exact Nat.le_refl _))
    have hc0 := HT1.out.box.cell 0 _ rfl
    have hq : q ≤ k := by rw [← HQ.out]; exact Nat.le_trans (raskL_spec L id l (L.take k)).2.2 (by rw [List.length_take]; omega)
    clear hrd hnx
    by_cases hlt : k < n
    · have hkl : k < L.length := by rw [HL.out]; exact hlt
      have HTS : Hid (raskL L id l (L.take (k + 1)) = if inWay L id l L[k] = true then putL (raskL L id l (L.take k)) L[k].1 else raskL L id l (L.take k)) := Lib.hid (by rw [List.take_succ_eq_append_getElem hkl, raskL_snoc])
      obtain ⟨b, o, c', e, hb, _, hc1, hc2, hc3⟩ := Hds.at HT1.out.reads k hlt L[k] (List.getElem?_eq_getElem hkl)
      injection e with e1 e2 e3
      subst e1 e3
      generalize L[k] = x at *
      generalize raskL L id l (L.take k) = A at *
      obtain ⟨x1, x2, x3⟩ := x
      simp only at hc1 hc2 hc3
      obtain ⟨gx, hgx⟩ : ∃ g, wr.heap.size = g := ⟨_, rfl⟩
      have HGX := Lib.hid hgx
      have htg : tb < gx := by have := HT1.out.box.lt; omega
      have hal : Below wr.heap.size wr (wr.alloc (.cells #[.int .i64 x1, .string x2, .int .i64 x3] 72)) := (Below.refl wr.heap.size wr).alloc (Nat.le_refl _) _
      have HF : Hid (Box (wr.alloc (.cells #[.int .i64 x1, .string x2, .int .i64 x3] 72)) gx [.int .i64 x1, .string x2, .int .i64 x3] ∧ Below G w (wr.alloc (.cells #[.int .i64 x1, .string x2, .int .i64 x3] 72)) ∧ Reads 1 (wr.alloc (.cells #[.int .i64 x1, .string x2, .int .i64 x3] 72)) (.slice bo q cb) q (A.map (Value.int .i64))) :=
        Lib.hid ⟨Box.new wr _ _ hgx.symm, HNX.out.trans (hal.mono hsz), HO.out.below hal (Nat.le_refl _)⟩
      have htlr : tb < wr.heap.size := HT1.out.box.lt
      clear hal hgx e2 hkl hb
      go_wp2_with fail
      try rw [HGX.out]
      refine wp_world (fun w1 => Box w1 gx [.int .i64 x1, .string x2, .int .i64 x3] ∧ Below G w w1 ∧ Reads 1 w1 (.slice bo q cb) q (A.map (Value.int .i64))) HF.out ?_
      clear HF hc0 hc1 hc2 hc3 HT1 HNX HO htlr HGX
      rintro w1 ⟨bx, hb1, ho1⟩
      clear hsz
      obtain ⟨wo, rfl⟩ : ∃ wo : World, wo = wr := ⟨_, rfl⟩
      have BX := Lib.hid bx
      have HB1 := Lib.hid hb1
      have HO1 := Lib.hid ho1
      clear bx hb1 ho1
      go_loopw [10, 11] (fun s i wr => ∃ j : Nat, j ≤ nl ∧ i = .int .i64 j ∧ s = .bool (wantedB (l.take j) x2) ∧ Box wr gx [.int .i64 x1, .string x2, .int .i64 x3] ∧ Below G w wr ∧ Reads 1 wr (.slice bo q cb) q (A.map (Value.int .i64))) (fun _ i _ => nl - (intOf i).toNat)
      case atStart => exact ⟨0, Nat.zero_le _, rfl, rfl, BX.out, HB1.out, HO1.out⟩
      case round =>
        have hkn : k + 1 ≤ n := by omega
        clear BX HB1 HO1 hlt
        obtain ⟨j, hj, rfl, rfl, bx, hb1, ho1⟩ := hrel
        have BX := Lib.hid bx
        have HB1 := Lib.hid hb1
        have HO1 := Lib.hid ho1
        have cx0 := bx.cell 0 _ rfl
        have cx1 := bx.cell 1 _ rfl
        have cx2 := bx.cell 2 _ rfl
        clear bx hb1 ho1
        by_cases hjl : j < nl
        · have hjL : j < l.length := by rw [HNL.out]; exact hjl
          have HWS : Hid (wantedB (l.take (j + 1)) x2 = (wantedB (l.take j) x2 || (decide (l[j].1 = x2) && isM l[j].2))) := Lib.hid (by rw [List.take_succ_eq_append_getElem hjL, wantedB_snoc])
          obtain ⟨b2, o2, c2, e, hb2, _, hd1, hd2⟩ := Wns.at (HV.out.below HB1.out (by rw [HG.out]; exact Nat.le_refl _)) j hjl l[j] (List.getElem?_eq_getElem hjL)
          injection e with e1 e2 e3
          subst e1 e3
          generalize l[j] = y at *
          obtain ⟨y1, y2⟩ := y
          generalize wantedB (l.take j) x2 = wb at *
          simp only at hd1 hd2
          clear e2 hjL hb2
          have hdn : ∀ nq, Below wr.heap.size wr (wr.drewN nq) := fun nq => below_dn (Below.refl _ _) nq
          cases wb with
          | true =>
            have HW2 : Hid (wantedB (l.take (j + 1)) x2 = true) := Lib.hid (by rw [HWS.out]; rfl)
            clear HWS hdn
            go_wp2_with fail
            go_quiet (fail)
            have hq2 := below_dn (Below.refl wr.heap.size wr) nq
            go_wp2_with fail
            go_roundw
            case rel => exact ⟨j + 1, by omega, by go_num, by rw [HW2.out], BX.out.below hq2 (Nat.le_refl _), HB1.out.trans (hq2.mono (by have := HB1.out.size; have := HG.out; omega)), HO1.out.below hq2 (Nat.le_refl _)⟩
            case measure => simp [intOf]; omega
          | false =>
            by_cases hn1 : y1 = x2
            · have hb5 : (y1.toList == x2.toList) = true := str_eq hn1
              have HW2 : Hid (wantedB (l.take (j + 1)) x2 = isM y2) := Lib.hid (by rw [HWS.out]; simp [hn1])
              clear HWS hdn hn1
              go_wp2_with fail
              go_quiet ((go_at_call 29; exact Calls.quiet_of_same (rmode_any _ _)))
              have hq2 := below_dn (Below.refl wr.heap.size wr) nq
              go_wp2_with fail
              go_roundw
              case rel => exact ⟨j + 1, by omega, by go_num, by rw [HW2.out], BX.out.below hq2 (Nat.le_refl _), HB1.out.trans (hq2.mono (by have := HB1.out.size; have := HG.out; omega)), HO1.out.below hq2 (Nat.le_refl _)⟩
              case measure => simp [intOf]; omega
            · have hb5 : (y1.toList == x2.toList) = false := str_ne hn1
              have HW2 : Hid (wantedB (l.take (j + 1)) x2 = false) := Lib.hid (by rw [HWS.out]; simp [hn1])
              clear HWS hdn hn1
              go_wp2_with fail
              go_quiet (fail)
              have hq2 := below_dn (Below.refl wr.heap.size wr) nq
              go_wp2_with fail
              go_roundw
              case rel => exact ⟨j + 1, by omega, by go_num, by rw [HW2.out], BX.out.below hq2 (Nat.le_refl _), HB1.out.trans (hq2.mono (by have := HB1.out.size; have := HG.out; omega)), HO1.out.below hq2 (Nat.le_refl _)⟩
              case measure => simp [intOf]; omega
        · obtain rfl : nl = j := by omega
          have HWA : Hid (wantedB (l.take nl) x2 = wantedB l x2) := Lib.hid (by rw [List.take_of_length_le (Nat.le_of_eq HNL.out)])
          have hszr : G ≤ wr.heap.size := by have := HB1.out.size; have := HG.out; omega
          have HT2 := Lib.hid (HT.out.below HB1.out (by rw [HG.out]; exact Nat.le_refl _))
          have HV2 := Lib.hid (HV.out.below HB1.out (by rw [HG.out]; exact Nat.le_refl _))
          by_cases h1 : x1 = id
          · have hb5 : (x1 != id) = false := by simp [h1]
            have HS := Lib.hid (HTS.out.trans (if_neg (by simp [inWay, h1])))
            clear h1 HTS
            go_wp2_with fail
            go_quiet (fail)
            have hq2 := below_dn (Below.refl wr.heap.size wr) nq
            go_wp2_with fail
            go_roundw
            case rel => exact ⟨k + 1, q, cb, bo, hkn, by go_num, rfl, by rw [HS.out]; exact HQ, by rw [HS.out]; exact HO1.out.below hq2 (Nat.le_refl _), HB1.out.trans (hq2.mono hszr)⟩
            case measure => simp [intOf]; omega
          have hb5 : (x1 != id) = true := by simp [h1]
          cases hwb : wantedB l x2 with
          | false =>
            have HWF : Hid (wantedB (l.take nl) x2 = false) := Lib.hid (HWA.out.trans hwb)
            have HS := Lib.hid (HTS.out.trans (if_neg (by simp [inWay, hwb])))
            rw [HWF.out]
            clear h1 HTS hwb HWA HWF
            go_wp2_with fail
            go_quiet (fail)
            have hq2 := below_dn (Below.refl wr.heap.size wr) nq
            go_wp2_with fail
            go_roundw
            case rel => exact ⟨k + 1, q, cb, bo, hkn, by go_num, rfl, by rw [HS.out]; exact HQ, by rw [HS.out]; exact HO1.out.below hq2 (Nat.le_refl _), HB1.out.trans (hq2.mono hszr)⟩
            case measure => simp [intOf]; omega
          | true =>
            have HWF : Hid (wantedB (l.take nl) x2 = true) := Lib.hid (HWA.out.trans hwb)
            rw [HWF.out]
            obtain ⟨gl, hgl⟩ : ∃ gl, goal L id l x2 = gl := ⟨_, rfl⟩
            have HGL := Lib.hid (fun (m : Nat) => tgoal_any L tb n c (some ⟨b, o, none⟩) (by omega) id l (.slice av nl cv) nl HNL.out (by omega) x2 (wr.drewN m) (HT2.out.below (below_dn (Below.refl wr.heap.size wr) m) (Nat.le_refl _)) (HV2.out.below (below_dn (Below.refl wr.heap.size wr) m) (Nat.le_refl _)))
            rw [hgl] at HGL
            cases hfb : fitsB x3 gl with
            | true =>
              have HS := Lib.hid (HTS.out.trans (if_neg (by simp [inWay, hgl, hfb])))
              clear h1 HTS hwb HWA HWF hgl
              go_wp2_with fail
              go_quiet ((first | (go_at_call 41; exact Calls.quiet_of_same (HGL.out _)) | (go_at_call 9; exact Calls.quiet_of_same (rfits_same _ _ _))))
              have hq2 := below_dn (Below.refl wr.heap.size wr) nq
              go_wp2_with fail
              go_roundw
              case rel => exact ⟨k + 1, q, cb, bo, hkn, by go_num, rfl, by rw [HS.out]; exact HQ, by rw [HS.out]; exact HO1.out.below hq2 (Nat.le_refl _), HB1.out.trans (hq2.mono hszr)⟩
              case measure => simp [intOf]; omega
            | false =>
              have HS := Lib.hid (HTS.out.trans (if_pos (by simp [inWay, h1, hwb, hgl, hfb])))
              clear h1 HTS hwb HWA HWF hgl
              go_wp2_with fail
              go_quiet ((first | (go_at_call 41; exact Calls.quiet_of_same (HGL.out _)) | (go_at_call 9; exact Calls.quiet_of_same (rfits_same _ _ _))))
              have hq2 := below_dn (Below.refl wr.heap.size wr) nq
              have HO2 := Lib.hid (HO1.out.below hq2 (Nat.le_refl _))
              have HB2 := Lib.hid (HB1.out.trans (hq2.mono hszr))
              clear hq2
              go_wp2_with fail
              refine (put_any A _ q HQ.out (by omega) x1 _ HO2.out).mono ?_
              rintro e w3 ⟨a3, p3, rfl, hr3, hb3⟩
              obtain ⟨q3, hq3⟩ : ∃ q3, (putL A x1).length = q3 := ⟨_, rfl⟩
              unfold Ints at hr3
              rw [hq3] at hr3 ⊢
              have HR3 := Lib.hid hr3
              have HB3 := Lib.hid (HB2.out.trans (hb3.mono hszr))
              have HQ3 := Lib.hid hq3
              clear hr3 hb3 hq3
              go_wp2_with fail
              go_roundw
              case rel => exact ⟨k + 1, q3, p3, a3, hkn, by go_num, rfl, Lib.hid (by rw [HS.out]; exact HQ3.out), by rw [HS.out]; exact HR3.out, HB3.out⟩
              case measure => simp [intOf]; omega
    · obtain rfl : n = k := by omega
      have hall : L.take n = L := List.take_of_length_le (Nat.le_of_eq HL.out)
      rw [hall] at HQ HO
      go_wp2_with fail
      go_ret
      exact ⟨raskL L id l L, bo, q, cb, rfl, raskL_is L id l, HQ.out, by omega, HO.out, by rw [HG.out]; exact HNX.out⟩
end Go.Proofs.Ytoghmllkaafckaa

/- What node.Size and node.Encode answer. Conditions: short lists. -/
import Derived.Test.YtfbblgcdggpehaaNZero
namespace Go.Proofs.Ytfbblgcdggpehaa
set_option linter.unusedSimpArgs false
set_option linter.unusedVariables false
open Go.RowKit

theorem may_any (x : Nd) (hsm : x.small) (ks vs ds : Value) (w : World) (hx : NodeAt w ks vs ds x) (b : Bool) (n : Int) (hb : x.leaf = b) (hn : x.next = n) :
    Calls Try.prog 32 #[.agg #[.bool b, ks, vs, ds, .int .i64 n]] w fun e w' => SaysB x.Fit w e w' := by
  cases b with
  | true => exact may_true x hb hsm ks vs ds w hx n hn
  | false => exact may_false x hb hsm ks vs ds w hx n hn

set_option maxRecDepth 100000 in
set_option maxHeartbeats 1600000 in
theorem psize_true (x : Nd) (hlf : x.leaf = true) (hsm : x.small) (ks vs ds : Value) (w : World) (hx : NodeAt w ks vs ds x) (n : Int) :
    Calls Try.prog 23 #[.agg #[.bool true, ks, vs, ds, .int .i64 n]] w fun e w' => e = .returned (.int .i64 (psize x)) ∧ Below w.heap.size w w' := by
  obtain ⟨_, ⟨ka, kc, rfl, _⟩, _⟩ := id hx.keys
  obtain ⟨_, ⟨va, vc, rfl, _⟩, _⟩ := id hx.vals
  obtain ⟨da, dc, rfl⟩ := hx.kids.shape
  obtain ⟨nk, hnk⟩ : ∃ nk, x.keys.length = nk := ⟨_, rfl⟩
  obtain ⟨nv, hnv⟩ : ∃ nv, x.vals.length = nv := ⟨_, rfl⟩
  obtain ⟨nd, hnd⟩ : ∃ nd, x.kids.length = nd := ⟨_, rfl⟩
  have hk : nk ≤ 1048576 := hnk ▸ hsm.keys
  have hv : nv ≤ 1048576 := hnv ▸ hsm.vals
  have hd : nd ≤ 1048577 := hnd ▸ hsm.kids
  simp only [hnk, hnv, hnd] at hx ⊢
  obtain ⟨g, hg0⟩ : ∃ g, w.heap.size = g := ⟨_, rfl⟩
  have ba := Box.new w #[.bool true, .slice ka nk kc, .slice va nv vc, .slice da nd dc, .int .i64 n] 25 hg0.symm
  have hB := (Below.refl w.heap.size w).alloc (Nat.le_refl _) (.cells #[.bool true, .slice ka nk kc, .slice va nv vc, .slice da nd dc, .int .i64 n] 25)
  have HG := Lib.hid hg0
  have HNK := Lib.hid hnk
  have HNV := Lib.hid hnv
  have HND := Lib.hid hnd
  have HX := Lib.hid (hx.below hB (Nat.le_refl _))
  have HLF := Lib.hid hlf
  have HW := Lib.hid (⟨ba, hB, hx.below hB (Nat.le_refl _)⟩ : Box (w.alloc (.cells #[.bool true, .slice ka nk kc, .slice va nv vc, .slice da nd dc, .int .i64 n] 25)) g [.bool true, .slice ka nk kc, .slice va nv vc, .slice da nd dc, .int .i64 n] ∧ Below w.heap.size w (w.alloc (.cells #[.bool true, .slice ka nk kc, .slice va nv vc, .slice da nd dc, .int .i64 n] 25)) ∧ NodeAt (w.alloc (.cells #[.bool true, .slice ka nk kc, .slice va nv vc, .slice da nd dc, .int .i64 n] 25)) (.slice ka nk kc) (.slice va nv vc) (.slice da nd dc) x)
  clear hx hnk hnv hnd hg0 hlf
  have ca0 := ba.cell 0 _ rfl
  have ca1 := ba.cell 1 _ rfl
  have ca2 := ba.cell 2 _ rfl
  have ca3 := ba.cell 3 _ rfl
  have ca4 := ba.cell 4 _ rfl
  have fa := ba.free
  go_enter Try.func23, Try.ntmps23
  go_wp2_with fail
  clear ca0 ca1 ca2 ca3 ca4 fa
  rw [HG.out]
  refine wp_world (fun w0 => Box w0 g [.bool true, .slice ka nk kc, .slice va nv vc, .slice da nd dc, .int .i64 n] ∧ Below w.heap.size w w0 ∧ NodeAt w0 (.slice ka nk kc) (.slice va nv vc) (.slice da nd dc) x) HW.out ?_
  clear HW HX ba hB
  rintro w0 ⟨ba, hB, hx⟩
  have HX := Lib.hid hx
  clear hx
  have ca0 := ba.cell 0 _ rfl
  have ca1 := ba.cell 1 _ rfl
  have ca2 := ba.cell 2 _ rfl
  have ca3 := ba.cell 3 _ rfl
  have ca4 := ba.cell 4 _ rfl
  have fa := ba.free
  go_loop [3, 20, 5] (fun s i _ => ∃ k : Nat, k ≤ nk ∧ i = .int .i64 k ∧ s = .int .i64 (((7) + sumL x.keys k : Nat) : Int)) (fun _ i _ => nk - (intOf i).toNat)
  case atStart => exact ⟨0, Nat.zero_le _, rfl, by first | rfl | (simp [sumL]; done) | (simp [sumL]; omega)⟩
  case round =>
    obtain ⟨k, hkk, rfl, rfl⟩ := hrel
    have hsl := sumL_le hsm.keys2 k
    obtain ⟨s0, hs0⟩ : ∃ s0, sumL x.keys k = s0 := ⟨_, rfl⟩
    rw [hs0] at hsl
    simp only [hs0]
    have HSS := Lib.hid hs0
    clear hs0
    by_cases hlt : k < nk
    · have hkl : k < x.keys.length := by rw [HNK.out]; exact hlt
      have hu := List.getElem?_eq_getElem hkl
      have hll := hsm.keys2 _ (List.getElem_mem hkl)
      have hgd : x.keys.getD k [] = x.keys[k] := by rw [List.getD_eq_getElem?_getD, hu]; rfl
      generalize x.keys[k] = l at *
      obtain ⟨b1, p1, q1, a0, c0, e1, hd1, hb1, hrs⟩ := HX.out.keys.at' k l hu
      have hka := (Value.slice.inj e1).1
      have HKA := Lib.hid hka
      have HS := Lib.hid (show sumL x.keys (k + 1) = s0 + (2 + l.length) by rw [sumL, HSS.out, hgd])
      clear e1 hu hrs hka hkl hgd
      rw [HKA.out]
      go_wp2
      go_round
      case rel => exact ⟨k + 1, by omega, by go_num, by rw [HS.out]; first | rfl | (congr 1; omega) | (simp; omega)⟩
      case measure => simp [intOf]; omega
    · obtain rfl : nk = k := by omega
      have HSK := HSS
      clear HSS
      go_wp2_with fail
      clear hkk hlt
      go_loop [3, 35, 7] (fun s i _ => ∃ k : Nat, k ≤ nv ∧ i = .int .i64 k ∧ s = .int .i64 (((7 + s0) + sumL x.vals k : Nat) : Int)) (fun _ i _ => nv - (intOf i).toNat)
      case atStart => exact ⟨0, Nat.zero_le _, rfl, by first | rfl | (simp [sumL]; done) | (simp [sumL]; omega)⟩
      case round =>
        obtain ⟨k, hkk, rfl, rfl⟩ := hrel
        have hsl := sumL_le hsm.vals2 k
        obtain ⟨s1, hs0⟩ : ∃ s1, sumL x.vals k = s1 := ⟨_, rfl⟩
        rw [hs0] at hsl
        simp only [hs0]
        have HSS := Lib.hid hs0
        clear hs0
        by_cases hlt : k < nv
        · have hkl : k < x.vals.length := by rw [HNV.out]; exact hlt
          have hu := List.getElem?_eq_getElem hkl
          have hll := hsm.vals2 _ (List.getElem_mem hkl)
          have hgd : x.vals.getD k [] = x.vals[k] := by rw [List.getD_eq_getElem?_getD, hu]; rfl
          generalize x.vals[k] = l at *
          obtain ⟨b1, p1, q1, a0, c0, e1, hd1, hb1, hrs⟩ := HX.out.vals.at' k l hu
          have hka := (Value.slice.inj e1).1
          have HKA := Lib.hid hka
          have HS := Lib.hid (show sumL x.vals (k + 1) = s1 + (2 + l.length) by rw [sumL, HSS.out, hgd])
          clear e1 hu hrs hka hkl hgd
          rw [HKA.out]
          go_wp2
          go_round
          case rel => exact ⟨k + 1, by omega, by go_num, by rw [HS.out]; first | rfl | (congr 1; omega) | (simp; omega)⟩
          case measure => simp [intOf]; omega
        · obtain rfl : nv = k := by omega
          go_wp2
          go_ret
          refine ⟨?_, hB⟩
          rw [psize, HLF.out]
          simp only [if_true]
          rw [HNK.out, HNV.out, HSK.out, HSS.out]
          rfl

set_option maxRecDepth 100000 in
set_option maxHeartbeats 1600000 in
theorem psize_false (x : Nd) (hlf : x.leaf = false) (hsm : x.small) (ks vs ds : Value) (w : World) (hx : NodeAt w ks vs ds x) (n : Int) :
    Calls Try.prog 23 #[.agg #[.bool false, ks, vs, ds, .int .i64 n]] w fun e w' => e = .returned (.int .i64 (psize x)) ∧ Below w.heap.size w w' := by
  obtain ⟨_, ⟨ka, kc, rfl, _⟩, _⟩ := id hx.keys
  obtain ⟨_, ⟨va, vc, rfl, _⟩, _⟩ := id hx.vals
  obtain ⟨da, dc, rfl⟩ := hx.kids.shape
  obtain ⟨nk, hnk⟩ : ∃ nk, x.keys.length = nk := ⟨_, rfl⟩
  obtain ⟨nv, hnv⟩ : ∃ nv, x.vals.length = nv := ⟨_, rfl⟩
  obtain ⟨nd, hnd⟩ : ∃ nd, x.kids.length = nd := ⟨_, rfl⟩
  have hk : nk ≤ 1048576 := hnk ▸ hsm.keys
  have hv : nv ≤ 1048576 := hnv ▸ hsm.vals
  have hd : nd ≤ 1048577 := hnd ▸ hsm.kids
  simp only [hnk, hnv, hnd] at hx ⊢
  obtain ⟨g, hg0⟩ : ∃ g, w.heap.size = g := ⟨_, rfl⟩
  have ba := Box.new w #[.bool false, .slice ka nk kc, .slice va nv vc, .slice da nd dc, .int .i64 n] 25 hg0.symm
  have hB := (Below.refl w.heap.size w).alloc (Nat.le_refl _) (.cells #[.bool false, .slice ka nk kc, .slice va nv vc, .slice da nd dc, .int .i64 n] 25)
  have HG := Lib.hid hg0
  have HNK := Lib.hid hnk
  have HNV := Lib.hid hnv
  have HND := Lib.hid hnd
  have HX := Lib.hid (hx.below hB (Nat.le_refl _))
  have HLF := Lib.hid hlf
  have HW := Lib.hid (⟨ba, hB, hx.below hB (Nat.le_refl _)⟩ : Box (w.alloc (.cells #[.bool false, .slice ka nk kc, .slice va nv vc, .slice da nd dc, .int .i64 n] 25)) g [.bool false, .slice ka nk kc, .slice va nv vc, .slice da nd dc, .int .i64 n] ∧ Below w.heap.size w (w.alloc (.cells #[.bool false, .slice ka nk kc, .slice va nv vc, .slice da nd dc, .int .i64 n] 25)) ∧ NodeAt (w.alloc (.cells #[.bool false, .slice ka nk kc, .slice va nv vc, .slice da nd dc, .int .i64 n] 25)) (.slice ka nk kc) (.slice va nv vc) (.slice da nd dc) x)
  clear hx hnk hnv hnd hg0 hlf
  have ca0 := ba.cell 0 _ rfl
  have ca1 := ba.cell 1 _ rfl
  have ca2 := ba.cell 2 _ rfl
  have ca3 := ba.cell 3 _ rfl
  have ca4 := ba.cell 4 _ rfl
  have fa := ba.free
  go_enter Try.func23, Try.ntmps23
  go_wp2_with fail
  clear ca0 ca1 ca2 ca3 ca4 fa
  rw [HG.out]
  refine wp_world (fun w0 => Box w0 g [.bool false, .slice ka nk kc, .slice va nv vc, .slice da nd dc, .int .i64 n] ∧ Below w.heap.size w w0 ∧ NodeAt w0 (.slice ka nk kc) (.slice va nv vc) (.slice da nd dc) x) HW.out ?_
  clear HW HX ba hB
  rintro w0 ⟨ba, hB, hx⟩
  have HX := Lib.hid hx
  clear hx
  have ca0 := ba.cell 0 _ rfl
  have ca1 := ba.cell 1 _ rfl
  have ca2 := ba.cell 2 _ rfl
  have ca3 := ba.cell 3 _ rfl
  have ca4 := ba.cell 4 _ rfl
  have fa := ba.free
  go_loop [3, 20, 5] (fun s i _ => ∃ k : Nat, k ≤ nk ∧ i = .int .i64 k ∧ s = .int .i64 (((7 + 4 * nd) + sumL x.keys k : Nat) : Int)) (fun _ i _ => nk - (intOf i).toNat)
  case atStart => exact ⟨0, Nat.zero_le _, rfl, by first | rfl | (simp [sumL]; done) | (simp [sumL]; omega)⟩
  case round =>
    obtain ⟨k, hkk, rfl, rfl⟩ := hrel
    have hsl := sumL_le hsm.keys2 k
    obtain ⟨s0, hs0⟩ : ∃ s0, sumL x.keys k = s0 := ⟨_, rfl⟩
    rw [hs0] at hsl
    simp only [hs0]
    have HSS := Lib.hid hs0
    clear hs0
    by_cases hlt : k < nk
    · have hkl : k < x.keys.length := by rw [HNK.out]; exact hlt
      have hu := List.getElem?_eq_getElem hkl
      have hll := hsm.keys2 _ (List.getElem_mem hkl)
      have hgd : x.keys.getD k [] = x.keys[k] := by rw [List.getD_eq_getElem?_getD, hu]; rfl
      generalize x.keys[k] = l at *
      obtain ⟨b1, p1, q1, a0, c0, e1, hd1, hb1, hrs⟩ := HX.out.keys.at' k l hu
      have hka := (Value.slice.inj e1).1
      have HKA := Lib.hid hka
      have HS := Lib.hid (show sumL x.keys (k + 1) = s0 + (2 + l.length) by rw [sumL, HSS.out, hgd])
      clear e1 hu hrs hka hkl hgd
      rw [HKA.out]
      go_wp2
      go_round
      case rel => exact ⟨k + 1, by omega, by go_num, by rw [HS.out]; first | rfl | (congr 1; omega) | (simp; omega)⟩
      case measure => simp [intOf]; omega
    · obtain rfl : nk = k := by omega
      go_wp2
      go_ret
      refine ⟨?_, hB⟩
      rw [psize, HLF.out]
      simp only [Bool.false_eq_true, if_false]
      rw [HNK.out, HND.out, HSS.out]
      rfl

set_option maxRecDepth 100000 in
set_option maxHeartbeats 3200000 in
theorem penc_true (x : Nd) (hlf : x.leaf = true) (hsm : x.small) (ks vs ds : Value) (w : World) (hx : NodeAt w ks vs ds x) (n : Int) (hn : x.next = n) :
    Calls Try.prog 13 #[.agg #[.bool true, ks, vs, ds, .int .i64 n]] w fun e w' => EncEnd x w e w' := by
  obtain ⟨_, ⟨ka, kc, rfl, _⟩, _⟩ := id hx.keys
  obtain ⟨_, ⟨va, vc, rfl, _⟩, _⟩ := id hx.vals
  obtain ⟨da, dc, rfl⟩ := hx.kids.shape
  obtain ⟨nk, hnk⟩ : ∃ nk, x.keys.length = nk := ⟨_, rfl⟩
  obtain ⟨nv, hnv⟩ : ∃ nv, x.vals.length = nv := ⟨_, rfl⟩
  obtain ⟨nd, hnd⟩ : ∃ nd, x.kids.length = nd := ⟨_, rfl⟩
  have hk : nk ≤ 1048576 := hnk ▸ hsm.keys
  have hv : nv ≤ 1048576 := hnv ▸ hsm.vals
  have hd : nd ≤ 1048577 := hnd ▸ hsm.kids
  simp only [hnk, hnv, hnd] at hx ⊢
  obtain ⟨g, hg0⟩ : ∃ g, w.heap.size = g := ⟨_, rfl⟩
  have ba := Box.new w #[.bool true, .slice ka nk kc, .slice va nv vc, .slice da nd dc, .int .i64 n] 25 hg0.symm
  have hB := (Below.refl w.heap.size w).alloc (Nat.le_refl _) (.cells #[.bool true, .slice ka nk kc, .slice va nv vc, .slice da nd dc, .int .i64 n] 25)
  have HG := Lib.hid hg0
  have HNK := Lib.hid hnk
  have HNV := Lib.hid hnv
  have HND := Lib.hid hnd
  have HX := Lib.hid (hx.below hB (Nat.le_refl _))
  have HLF := Lib.hid hlf
  have HN := Lib.hid hn
  clear hn
  clear hx hnk hnv hnd hg0 hlf
  have ca0 := ba.cell 0 _ rfl
  have ca1 := ba.cell 1 _ rfl
  have ca2 := ba.cell 2 _ rfl
  have ca3 := ba.cell 3 _ rfl
  have ca4 := ba.cell 4 _ rfl
  have fa := ba.free
  go_enter Try.func13, Try.ntmps13
  go_wp2_with fail
  clear ca0 ca1 ca2 ca3 ca4 fa
  have hgw : w.heap.size ≤ g := Nat.le_of_eq HG.out
  rw [HG.out]
  refine (may_any x hsm _ _ _ _ HX.out true n HLF.out HN.out).mono ?_
  rintro e w1 ⟨r, rfl, hr, hb1⟩
  replace ba := ba.below hb1 (Nat.le_refl _)
  replace hB := hB.trans (hb1.mono (by simp))
  have hx1 := HX.out.below hb1 (Nat.le_refl _)
  clear HX
  have HX := Lib.hid hx1
  clear hb1 hx1
  by_cases hf : x.Fit
  · obtain rfl : r = true := hr.2 hf
    have HF := Lib.hid hf
    clear hr hf
    have ca0 := ba.cell 0 _ rfl
    have ca1 := ba.cell 1 _ rfl
    have ca2 := ba.cell 2 _ rfl
    have ca3 := ba.cell 3 _ rfl
    have ca4 := ba.cell 4 _ rfl
    have fa := ba.free
    go_wp2_with fail
    clear ca0 ca1 ca2 ca3 ca4 fa
    refine (psize_true x HLF.out hsm _ _ _ _ HX.out n).mono ?_
    rintro e w2 ⟨rfl, hb2⟩
    replace ba := ba.below hb2 (Nat.le_refl _)
    replace hB := hB.trans (hb2.mono (by have := ba.lt; have := hB.size; omega))
    have hx2 := HX.out.below hb2 (Nat.le_refl _)
    clear HX
    have HX := Lib.hid hx2
    clear hb2 hx2
    have hr1 := rsize_le hsm x.keys.length
    rw [← psize_eq HF.out.fits] at hr1
    obtain ⟨r, hr⟩ : ∃ r, psize x = r := ⟨_, rfl⟩
    rw [hr] at hr1
    simp only [hr]
    have HR := Lib.hid (show rsize x x.keys.length = r by rw [← psize_eq HF.out.fits, hr])
    clear hr
    rw [HNK.out] at hr1
    have ca0 := ba.cell 0 _ rfl
    have ca1 := ba.cell 1 _ rfl
    have ca2 := ba.cell 2 _ rfl
    have ca3 := ba.cell 3 _ rfl
    have ca4 := ba.cell 4 _ rfl
    have fa := ba.free
    by_cases hbig : 504 < r
    · have d1 : decide ((504 : Int) < (r : Int)) = true := by simp; omega
      go_wp2
      go_ret2
      exact ⟨_, _, rfl, hB, .inr (.inl ⟨HF.out, by rw [HR.out]; exact hbig, rfl, rfl⟩)⟩
    · have d1 : decide ((504 : Int) < (r : Int)) = false := by simp; omega
      obtain ⟨B0, hB0⟩ : ∃ B0, w2.heap.size = B0 := ⟨_, rfl⟩
      have hgB : g < B0 := by have := ba.lt; omega
      have HB0 := Lib.hid hB0
      have hgw2 : w.heap.size ≤ w2.heap.size := by omega
      have hlt0 := ba.lt
      clear hB0
      have hnn : n = (n.toNat : Int) := by have := HF.out.2.1; rw [HN.out] at this; unfold numOk at this; omega
      have hnb : n.toNat ≤ 1152921504606846976 := by have := HF.out.2.1; rw [HN.out] at this; unfold numOk at this; omega
      obtain ⟨u, hu⟩ : ∃ u, n.toNat = u := ⟨_, rfl⟩
      rw [hu] at hnn hnb
      have HU := Lib.hid hu
      have HNN := Lib.hid hnn
      clear hu hnn
      go_wp2_with fail
      clear ca0 ca1 ca2 ca3 ca4 fa
      rw [HB0.out]
      refine calls_world (fun q => Below B0 w2 q ∧ q.ownsRow B0 5 1 (.slice (some ⟨B0, 0, none⟩) 3 3) 3 (([1] ++ two nk).map B) ∧ B0 ≤ q.heap.size) ⟨(Below.refl B0 w2).alloc (Nat.le_of_eq HB0.out.symm) _, own_lit (by simp [HB0.out]) (by omega) rfl ?_ (by omega), by have := HB0.out; simp; omega⟩ ?_
      · simp only [two, List.cons_append, List.nil_append, List.map_cons, List.map_nil, ofNat_B]
        rw [show ((nk / 256 : Nat) : Int) = (nk : Int) / 256 by omega]
        rfl
      have ba2 := ba
      have hBw := hB
      clear ba hB hlt0
      rintro wq ⟨hB, hown, hcur⟩
      refine (pfour_any _ 3 u _ B0 _ hown hcur _ HNN.out hnb (by omega)).mono ?_
      clear hown
      rintro e w3 ⟨ao, cap, rfl, hown, hbq⟩
      replace hB := hB.trans hbq
      replace hcur := Nat.le_trans hcur hbq.size
      clear hbq
      have ba := ba2.below' hB hgB
      have ca0 := ba.cell 0 _ rfl
      have ca1 := ba.cell 1 _ rfl
      have ca2 := ba.cell 2 _ rfl
      have ca3 := ba.cell 3 _ rfl
      have ca4 := ba.cell 4 _ rfl
      have fa := ba.free
      go_wp2_with fail
      have hz : rsize x 0 = 7 := by rw [rsize, HLF.out]; rfl
      have he : encTo x 0 = [1] ++ two nk ++ four u := by rw [encTo, HLF.out, HNK.out, HN.out, HU.out]; rfl
      have HZ := Lib.hid hz
      have HE := Lib.hid he
      clear hz he
      clear ca0 ca1 ca2 ca3 ca4 fa
      go_loopw [5, 42, 6, 7] (fun v i _ _ wr => ∃ k ao cap, k ≤ nk ∧ i = .int .i64 k ∧ v = .slice ao (rsize x k) cap ∧ wr.ownsRow B0 5 1 (.slice ao (rsize x k) cap) (rsize x k) ((encTo x k).map B) ∧ Below B0 w2 wr ∧ B0 ≤ wr.heap.size) (fun _ i _ _ _ => nk - (intOf i).toNat)
      case atStart => exact ⟨0, ao, cap, Nat.zero_le _, rfl, by rw [HZ.out], by rw [HZ.out, HE.out]; simpa [List.map_append] using hown, hB, hcur⟩
      case round =>
        clear hB hown hcur ba
        obtain ⟨k, ao, cap, hkk, rfl, rfl, hown, hB, hcur⟩ := hrel
        have hmono := rsize_mono x
        have hrk0 := hmono k nk hkk
        have hrr : rsize x nk = r := HNK.out ▸ HR.out
        rw [hrr] at hrk0
        have hr7 := hmono 0 k (Nat.zero_le _)
        rw [HZ.out] at hr7
        have HM := Lib.hid hmono
        have HRR := Lib.hid hrr
        obtain ⟨rk, hrk⟩ : ∃ rk, rsize x k = rk := ⟨_, rfl⟩
        rw [hrk] at hown hrk0 hr7
        simp only [hrk]
        have HRK := Lib.hid hrk
        clear hrk hmono hrr
        have ba := ba2.below' hB hgB
        by_cases hlt : k < nk
        · have hkl : k < x.keys.length := by rw [HNK.out]; exact hlt
          have hu := List.getElem?_eq_getElem hkl
          have hll1 := hsm.keys2 _ (List.getElem_mem hkl)
          have hgd : x.keys.getD k [] = x.keys[k] := by rw [List.getD_eq_getElem?_getD, hu]; rfl
          have HGD1 := Lib.hid hgd
          generalize x.keys[k] = l at *
          obtain ⟨b1, p1, q1, a1, c1, e1, hw1, hb1, hrs⟩ := HX.out.keys.at' k l hu
          have E1 := Lib.hid (Value.slice.inj e1).1
          have HW1 := Lib.hid hw1
          have HRS1 := Lib.hid hrs
          rw [HB0.out] at hb1
          clear e1 hu hrs hkl hw1 hgd
          have hnv1 : nv = nk := by have := HF.out.2.2; rw [HLF.out, if_pos rfl, HNV.out, HNK.out] at this; exact this.2.1
          obtain rfl : nk = nv := hnv1.symm
          have hkl : k < x.vals.length := by rw [HNV.out]; exact hlt
          have hu := List.getElem?_eq_getElem hkl
          have hll2 := hsm.vals2 _ (List.getElem_mem hkl)
          have hgd : x.vals.getD k [] = x.vals[k] := by rw [List.getD_eq_getElem?_getD, hu]; rfl
          have HGD2 := Lib.hid hgd
          generalize x.vals[k] = l2 at *
          obtain ⟨b2, p2, q2, a2, c2, e1, hw2, hb2, hrs⟩ := HX.out.vals.at' k l2 hu
          have E2 := Lib.hid (Value.slice.inj e1).1
          have HW2 := Lib.hid hw2
          have HRS2 := Lib.hid hrs
          rw [HB0.out] at hb2
          clear e1 hu hrs hkl hw2 hgd
          have hs : rsize x (k + 1) = rk + 2 + l.length + 2 + l2.length := by rw [rsize, HLF.out, HRK.out, HGD1.out, HGD2.out]; simp; omega
          have he : encTo x (k + 1) = encTo x k ++ two l.length ++ l ++ (two l2.length ++ l2) := by rw [encTo, HLF.out, HGD1.out, HGD2.out]; rfl
          have hs1 := HM.out (k + 1) nk (by omega)
          rw [HRR.out, hs] at hs1
          have HS := Lib.hid hs
          have HE1 := Lib.hid he
          clear hs he
          have ca0 := ba.cell 0 _ rfl
          have ca1 := ba.cell 1 _ rfl
          have ca2 := ba.cell 2 _ rfl
          have ca3 := ba.cell 3 _ rfl
          have ca4 := ba.cell 4 _ rfl
          have fa := ba.free
          rw [E1.out] at ca1
          rw [E2.out] at ca2
          have hd1 := (hB.cell (p := ⟨b1, p1 + k, none⟩) hb1).trans HW1.out
          have hd2 := (hB.cell (p := ⟨b2, p2 + k, none⟩) hb2).trans HW2.out
          rw [E1.out]
          go_wp2_with fail
          clear ca0 ca1 ca2 ca3 ca4 fa hd1 hd2
          refine (plong_any _ _ rk _ l B0 _ hown hcur (fun w' hb => HRS1.out.below (hB.trans hb) (Nat.le_of_eq HB0.out)) (by omega) (by omega)).mono ?_
          clear hown
          rintro e w5 ⟨ao, cap, rfl, hown, hbq⟩
          replace hB := hB.trans hbq
          replace hcur := Nat.le_trans hcur hbq.size
          clear hbq
          replace ba := ba2.below' hB hgB
          have ca0 := ba.cell 0 _ rfl
          have ca1 := ba.cell 1 _ rfl
          have ca2 := ba.cell 2 _ rfl
          have ca3 := ba.cell 3 _ rfl
          have ca4 := ba.cell 4 _ rfl
          have fa := ba.free
          rw [E1.out] at ca1
          rw [E2.out] at ca2
          have hd1 := (hB.cell (p := ⟨b1, p1 + k, none⟩) hb1).trans HW1.out
          have hd2 := (hB.cell (p := ⟨b2, p2 + k, none⟩) hb2).trans HW2.out
          go_wp2_with fail
          clear ca0 ca1 ca2 ca3 ca4 fa hd1 hd2
          refine (plong_any _ _ _ _ l2 B0 _ hown hcur (fun w' hb => HRS2.out.below (hB.trans hb) (Nat.le_of_eq HB0.out)) (by omega) (by omega)).mono ?_
          clear hown
          rintro e w6 ⟨ao, cap, rfl, hown, hbq⟩
          replace hB := hB.trans hbq
          replace hcur := Nat.le_trans hcur hbq.size
          clear hbq
          replace ba := ba2.below' hB hgB
          go_wp2
          go_roundw
          case rel =>
            refine ⟨k + 1, ao, cap, by omega, by go_num, ?_, ?_, hB, hcur⟩
            · rw [HS.out]
            · rw [HS.out, HE1.out]; simpa [List.map_append] using hown
          case measure => simp [intOf]; omega
        · obtain rfl : nk = k := by omega
          have hrkr : rk = r := by rw [← HRK.out, HRR.out]
          subst hrkr
          obtain ⟨gz, cz, hsh, hz1, hz2, hz3, _⟩ := own_some hown (fun e => by injection e with _ e2 _; omega)
          obtain ⟨rfl, rfl⟩ : ao = some ⟨gz, 0, none⟩ ∧ cap = cz := by injection hsh with e1 _ e3; exact ⟨e1, e3⟩
          clear hsh
          have ca0 := ba.cell 0 _ rfl
          have ca1 := ba.cell 1 _ rfl
          have ca2 := ba.cell 2 _ rfl
          have ca3 := ba.cell 3 _ rfl
          have ca4 := ba.cell 4 _ rfl
          have fa := ba.free
          go_wp2_with (first
            | (at_builtin; refine wpList_append_zeros sl_bytes Try.underlying3 (.tmp 68) (.tmp 71) rfl rfl (base := B0) (W0 := wr) (k := 504 - rk) rfl hown (Below.refl _ _) rfl (by omega) (by omega) hcur ?_; intro ao4 cap4 wn hown4 hbel4))
          go_ret2
          have e504 : rk + (504 - rk) = 504 := by omega
          rw [e504] at hown4
          refine ⟨.slice ao4 504 cap4, 0, ?_, hBw.trans ((hB.trans hbel4).mono (by have := HB0.out; omega)), .inr (.inr ⟨HF.out, by rw [HR.out]; omega, rfl, ?_⟩)⟩
          · show Ending.returned (.tuple #[.slice ao4 (rk + (504 - rk)) cap4, .int .i64 0]) = _
            rw [e504]
          · have := Reads.of_own hown4
            unfold page
            rw [encTo_length, HNK.out, HRK.out]
            exact this
  · obtain rfl : r = false := by cases r with | false => rfl | true => exact absurd (hr.1 rfl) hf
    have HF := Lib.hid hf
    clear hr hf
    have ca0 := ba.cell 0 _ rfl
    have ca1 := ba.cell 1 _ rfl
    have ca2 := ba.cell 2 _ rfl
    have ca3 := ba.cell 3 _ rfl
    have ca4 := ba.cell 4 _ rfl
    have fa := ba.free
    go_wp2
    go_ret2
    exact ⟨_, _, rfl, hB, .inl ⟨HF.out, rfl, rfl⟩⟩

set_option maxRecDepth 100000 in
set_option maxHeartbeats 3200000 in
theorem penc_false (x : Nd) (hlf : x.leaf = false) (hsm : x.small) (ks vs ds : Value) (w : World) (hx : NodeAt w ks vs ds x) (n : Int) (hn : x.next = n) :
    Calls Try.prog 13 #[.agg #[.bool false, ks, vs, ds, .int .i64 n]] w fun e w' => EncEnd x w e w' := by
  obtain ⟨_, ⟨ka, kc, rfl, _⟩, _⟩ := id hx.keys
  obtain ⟨_, ⟨va, vc, rfl, _⟩, _⟩ := id hx.vals
  obtain ⟨da, dc, rfl⟩ := hx.kids.shape
  obtain ⟨nk, hnk⟩ : ∃ nk, x.keys.length = nk := ⟨_, rfl⟩
  obtain ⟨nv, hnv⟩ : ∃ nv, x.vals.length = nv := ⟨_, rfl⟩
  obtain ⟨nd, hnd⟩ : ∃ nd, x.kids.length = nd := ⟨_, rfl⟩
  have hk : nk ≤ 1048576 := hnk ▸ hsm.keys
  have hv : nv ≤ 1048576 := hnv ▸ hsm.vals
  have hd : nd ≤ 1048577 := hnd ▸ hsm.kids
  simp only [hnk, hnv, hnd] at hx ⊢
  obtain ⟨g, hg0⟩ : ∃ g, w.heap.size = g := ⟨_, rfl⟩
  have ba := Box.new w #[.bool false, .slice ka nk kc, .slice va nv vc, .slice da nd dc, .int .i64 n] 25 hg0.symm
  have hB := (Below.refl w.heap.size w).alloc (Nat.le_refl _) (.cells #[.bool false, .slice ka nk kc, .slice va nv vc, .slice da nd dc, .int .i64 n] 25)
  have HG := Lib.hid hg0
  have HNK := Lib.hid hnk
  have HNV := Lib.hid hnv
  have HND := Lib.hid hnd
  have HX := Lib.hid (hx.below hB (Nat.le_refl _))
  have HLF := Lib.hid hlf
  have HN := Lib.hid hn
  clear hn
  clear hx hnk hnv hnd hg0 hlf
  have ca0 := ba.cell 0 _ rfl
  have ca1 := ba.cell 1 _ rfl
  have ca2 := ba.cell 2 _ rfl
  have ca3 := ba.cell 3 _ rfl
  have ca4 := ba.cell 4 _ rfl
  have fa := ba.free
  go_enter Try.func13, Try.ntmps13
  go_wp2_with fail
  clear ca0 ca1 ca2 ca3 ca4 fa
  have hgw : w.heap.size ≤ g := Nat.le_of_eq HG.out
  rw [HG.out]
  refine (may_any x hsm _ _ _ _ HX.out false n HLF.out HN.out).mono ?_
  rintro e w1 ⟨r, rfl, hr, hb1⟩
  replace ba := ba.below hb1 (Nat.le_refl _)
  replace hB := hB.trans (hb1.mono (by simp))
  have hx1 := HX.out.below hb1 (Nat.le_refl _)
  clear HX
  have HX := Lib.hid hx1
  clear hb1 hx1
  by_cases hf : x.Fit
  · obtain rfl : r = true := hr.2 hf
    have HF := Lib.hid hf
    clear hr hf
    have ca0 := ba.cell 0 _ rfl
    have ca1 := ba.cell 1 _ rfl
    have ca2 := ba.cell 2 _ rfl
    have ca3 := ba.cell 3 _ rfl
    have ca4 := ba.cell 4 _ rfl
    have fa := ba.free
    go_wp2_with fail
    clear ca0 ca1 ca2 ca3 ca4 fa
    refine (psize_false x HLF.out hsm _ _ _ _ HX.out n).mono ?_
    rintro e w2 ⟨rfl, hb2⟩
    replace ba := ba.below hb2 (Nat.le_refl _)
    replace hB := hB.trans (hb2.mono (by have := ba.lt; have := hB.size; omega))
    have hx2 := HX.out.below hb2 (Nat.le_refl _)
    clear HX
    have HX := Lib.hid hx2
    clear hb2 hx2
    have hr1 := rsize_le hsm x.keys.length
    rw [← psize_eq HF.out.fits] at hr1
    obtain ⟨r, hr⟩ : ∃ r, psize x = r := ⟨_, rfl⟩
    rw [hr] at hr1
    simp only [hr]
    have HR := Lib.hid (show rsize x x.keys.length = r by rw [← psize_eq HF.out.fits, hr])
    clear hr
    rw [HNK.out] at hr1
    have ca0 := ba.cell 0 _ rfl
    have ca1 := ba.cell 1 _ rfl
    have ca2 := ba.cell 2 _ rfl
    have ca3 := ba.cell 3 _ rfl
    have ca4 := ba.cell 4 _ rfl
    have fa := ba.free
    by_cases hbig : 504 < r
    · have d1 : decide ((504 : Int) < (r : Int)) = true := by simp; omega
      go_wp2
      go_ret2
      exact ⟨_, _, rfl, hB, .inr (.inl ⟨HF.out, by rw [HR.out]; exact hbig, rfl, rfl⟩)⟩
    · have d1 : decide ((504 : Int) < (r : Int)) = false := by simp; omega
      obtain ⟨B0, hB0⟩ : ∃ B0, w2.heap.size = B0 := ⟨_, rfl⟩
      have hgB : g < B0 := by have := ba.lt; omega
      have HB0 := Lib.hid hB0
      have hgw2 : w.heap.size ≤ w2.heap.size := by omega
      have hlt0 := ba.lt
      clear hB0
      have hnn : n = (n.toNat : Int) := by have := HF.out.2.1; rw [HN.out] at this; unfold numOk at this; omega
      have hnb : n.toNat ≤ 1152921504606846976 := by have := HF.out.2.1; rw [HN.out] at this; unfold numOk at this; omega
      obtain ⟨u, hu⟩ : ∃ u, n.toNat = u := ⟨_, rfl⟩
      rw [hu] at hnn hnb
      have HU := Lib.hid hu
      have HNN := Lib.hid hnn
      clear hu hnn
      go_wp2_with fail
      clear ca0 ca1 ca2 ca3 ca4 fa
      rw [HB0.out]
      refine calls_world (fun q => Below B0 w2 q ∧ q.ownsRow B0 5 1 (.slice (some ⟨B0, 0, none⟩) 3 3) 3 (([2] ++ two nk).map B) ∧ B0 ≤ q.heap.size) ⟨(Below.refl B0 w2).alloc (Nat.le_of_eq HB0.out.symm) _, own_lit (by simp [HB0.out]) (by omega) rfl ?_ (by omega), by have := HB0.out; simp; omega⟩ ?_
      · simp only [two, List.cons_append, List.nil_append, List.map_cons, List.map_nil, ofNat_B]
        rw [show ((nk / 256 : Nat) : Int) = (nk : Int) / 256 by omega]
        rfl
      have ba2 := ba
      have hBw := hB
      clear ba hB hlt0
      rintro wq ⟨hB, hown, hcur⟩
      refine (pfour_any _ 3 u _ B0 _ hown hcur _ HNN.out hnb (by omega)).mono ?_
      clear hown
      rintro e w3 ⟨ao, cap, rfl, hown, hbq⟩
      replace hB := hB.trans hbq
      replace hcur := Nat.le_trans hcur hbq.size
      clear hbq
      have ba := ba2.below' hB hgB
      have ca0 := ba.cell 0 _ rfl
      have ca1 := ba.cell 1 _ rfl
      have ca2 := ba.cell 2 _ rfl
      have ca3 := ba.cell 3 _ rfl
      have ca4 := ba.cell 4 _ rfl
      have fa := ba.free
      have hnd1 : nd = nk + 1 := by have := HF.out.2.2; rw [HLF.out, if_neg (by decide), HND.out, HNK.out] at this; exact this.2.2.1
      have hdat : ∀ k, k < nd → ∃ (b1 p1 d : Nat), da = some ⟨b1, p1, none⟩ ∧ b1 < B0 ∧ w2.cell? ⟨b1, p1 + k, none⟩ = some (.int .i64 (d : Int)) ∧ (d : Nat) ≤ 1152921504606846976 ∧ (x.kids.getD k 0).toNat = d := by
        intro k hk
        have hkl : k < x.kids.length := by rw [HND.out]; exact hk
        have hu : (x.kids.map I)[k]? = some (I x.kids[k]) := by rw [List.getElem?_map, List.getElem?_eq_getElem hkl]; rfl
        have hno := HF.out.2.2
        rw [HLF.out, if_neg (by decide)] at hno
        have hno := hno.2.1 k _ (List.getElem?_eq_getElem hkl)
        have hgd : x.kids.getD k 0 = x.kids[k] := by rw [List.getD_eq_getElem?_getD, List.getElem?_eq_getElem hkl]; rfl
        have hx3 := HX.out.kids
        rw [HND.out] at hx3
        obtain ⟨b1, p1, q1, e1, hb1, _, hc1⟩ := hx3.at k hk _ hu
        unfold numOk at hno
        refine ⟨b1, p1, (x.kids[k]).toNat, (Value.slice.inj e1).1, by have := HB0.out; omega, ?_, by omega, by rw [hgd]⟩
        rw [hc1]
        simp only [I]
        rw [Int.toNat_of_nonneg hno.1]
      have HD := Lib.hid hdat
      have HND1 := Lib.hid hnd1
      clear hdat hnd1
      obtain ⟨b0, p0, d0, hda, hb0, hc0, hdb, hd0⟩ := HD.out 0 (by have := HND1.out; omega)
      have HDA := Lib.hid hda
      have HD0 := Lib.hid hd0
      have hlz : 0 < nd := by have := HND1.out; omega
      rw [Nat.add_zero] at hc0
      have HC0 := Lib.hid hc0
      clear hda hd0 hc0
      rw [HDA.out] at ca3
      have hcq := (hB.cell (p := ⟨b0, p0, none⟩) hb0).trans HC0.out
      go_wp2_with fail
      clear ca0 ca1 ca2 ca3 ca4 fa
      clear hcq
      refine (pfour_any _ _ d0 _ B0 _ hown hcur _ rfl hdb (by omega)).mono ?_
      clear hown
      rintro e w4 ⟨ao, cap, rfl, hown, hbq⟩
      replace hB := hB.trans hbq
      replace hcur := Nat.le_trans hcur hbq.size
      clear hbq
      replace ba := ba2.below' hB hgB
      have ca0 := ba.cell 0 _ rfl
      have ca1 := ba.cell 1 _ rfl
      have ca2 := ba.cell 2 _ rfl
      have ca3 := ba.cell 3 _ rfl
      have ca4 := ba.cell 4 _ rfl
      have fa := ba.free
      go_wp2_with fail
      have hz : rsize x 0 = 11 := by rw [rsize, HLF.out]; rfl
      have he : encTo x 0 = [2] ++ two nk ++ four u ++ four d0 := by rw [encTo, HLF.out, HNK.out, HN.out, HU.out, HD0.out]; rfl
      have HZ := Lib.hid hz
      have HE := Lib.hid he
      clear hz he
      clear ca0 ca1 ca2 ca3 ca4 fa
      go_loopw [5, 42, 6, 7] (fun v i _ _ wr => ∃ k ao cap, k ≤ nk ∧ i = .int .i64 k ∧ v = .slice ao (rsize x k) cap ∧ wr.ownsRow B0 5 1 (.slice ao (rsize x k) cap) (rsize x k) ((encTo x k).map B) ∧ Below B0 w2 wr ∧ B0 ≤ wr.heap.size) (fun _ i _ _ _ => nk - (intOf i).toNat)
      case atStart => exact ⟨0, ao, cap, Nat.zero_le _, rfl, by rw [HZ.out], by rw [HZ.out, HE.out]; simpa [List.map_append] using hown, hB, hcur⟩
      case round =>
        clear hB hown hcur ba
        obtain ⟨k, ao, cap, hkk, rfl, rfl, hown, hB, hcur⟩ := hrel
        have hmono := rsize_mono x
        have hrk0 := hmono k nk hkk
        have hrr : rsize x nk = r := HNK.out ▸ HR.out
        rw [hrr] at hrk0
        have hr7 := hmono 0 k (Nat.zero_le _)
        rw [HZ.out] at hr7
        have HM := Lib.hid hmono
        have HRR := Lib.hid hrr
        obtain ⟨rk, hrk⟩ : ∃ rk, rsize x k = rk := ⟨_, rfl⟩
        rw [hrk] at hown hrk0 hr7
        simp only [hrk]
        have HRK := Lib.hid hrk
        clear hrk hmono hrr
        have ba := ba2.below' hB hgB
        by_cases hlt : k < nk
        · have hkl : k < x.keys.length := by rw [HNK.out]; exact hlt
          have hu := List.getElem?_eq_getElem hkl
          have hll1 := hsm.keys2 _ (List.getElem_mem hkl)
          have hgd : x.keys.getD k [] = x.keys[k] := by rw [List.getD_eq_getElem?_getD, hu]; rfl
          have HGD1 := Lib.hid hgd
          generalize x.keys[k] = l at *
          obtain ⟨b1, p1, q1, a1, c1, e1, hw1, hb1, hrs⟩ := HX.out.keys.at' k l hu
          have E1 := Lib.hid (Value.slice.inj e1).1
          have HW1 := Lib.hid hw1
          have HRS1 := Lib.hid hrs
          rw [HB0.out] at hb1
          clear e1 hu hrs hkl hw1 hgd
          obtain ⟨b2, p2, d, hda2, hb2, hw2, hdd, hgd2⟩ := HD.out (k + 1) (by have := HND1.out; omega)
          have E2 := Lib.hid hda2
          have HW2 := Lib.hid hw2
          have HGD2 := Lib.hid hgd2
          have hlk : k + 1 < nd := by have := HND1.out; omega
          clear hda2 hw2 hgd2
          have hs : rsize x (k + 1) = rk + 2 + l.length + 4 := by rw [rsize, HLF.out, HRK.out, HGD1.out]; simp
          have he : encTo x (k + 1) = encTo x k ++ two l.length ++ l ++ four d := by rw [encTo, HLF.out, HGD1.out, HGD2.out]; rfl
          have hs1 := HM.out (k + 1) nk (by omega)
          rw [HRR.out, hs] at hs1
          have HS := Lib.hid hs
          have HE1 := Lib.hid he
          clear hs he
          have ca0 := ba.cell 0 _ rfl
          have ca1 := ba.cell 1 _ rfl
          have ca2 := ba.cell 2 _ rfl
          have ca3 := ba.cell 3 _ rfl
          have ca4 := ba.cell 4 _ rfl
          have fa := ba.free
          rw [E1.out] at ca1
          rw [E2.out] at ca3
          have hd1 := (hB.cell (p := ⟨b1, p1 + k, none⟩) hb1).trans HW1.out
          have hd2 := (hB.cell (p := ⟨b2, p2 + (k + 1), none⟩) hb2).trans HW2.out
          rw [E1.out]
          go_wp2_with fail
          clear ca0 ca1 ca2 ca3 ca4 fa hd1 hd2
          refine (plong_any _ _ rk _ l B0 _ hown hcur (fun w' hb => HRS1.out.below (hB.trans hb) (Nat.le_of_eq HB0.out)) (by omega) (by omega)).mono ?_
          clear hown
          rintro e w5 ⟨ao, cap, rfl, hown, hbq⟩
          replace hB := hB.trans hbq
          replace hcur := Nat.le_trans hcur hbq.size
          clear hbq
          replace ba := ba2.below' hB hgB
          have ca0 := ba.cell 0 _ rfl
          have ca1 := ba.cell 1 _ rfl
          have ca2 := ba.cell 2 _ rfl
          have ca3 := ba.cell 3 _ rfl
          have ca4 := ba.cell 4 _ rfl
          have fa := ba.free
          rw [E1.out] at ca1
          rw [E2.out] at ca3
          have hd1 := (hB.cell (p := ⟨b1, p1 + k, none⟩) hb1).trans HW1.out
          have hd2 := (hB.cell (p := ⟨b2, p2 + (k + 1), none⟩) hb2).trans HW2.out
          go_wp2_with fail
          clear ca0 ca1 ca2 ca3 ca4 fa hd1 hd2
          refine (pfour_any _ _ d _ B0 _ hown hcur _ rfl hdd (by omega)).mono ?_
          clear hown
          rintro e w6 ⟨ao, cap, rfl, hown, hbq⟩
          replace hB := hB.trans hbq
          replace hcur := Nat.le_trans hcur hbq.size
          clear hbq
          replace ba := ba2.below' hB hgB
          go_wp2
          go_roundw
          case rel =>
            refine ⟨k + 1, ao, cap, by omega, by go_num, ?_, ?_, hB, hcur⟩
            · rw [HS.out]
            · rw [HS.out, HE1.out]; simpa [List.map_append] using hown
          case measure => simp [intOf]; omega
        · obtain rfl : nk = k := by omega
          have hrkr : rk = r := by rw [← HRK.out, HRR.out]
          subst hrkr
          obtain ⟨gz, cz, hsh, hz1, hz2, hz3, _⟩ := own_some hown (fun e => by injection e with _ e2 _; omega)
          obtain ⟨rfl, rfl⟩ : ao = some ⟨gz, 0, none⟩ ∧ cap = cz := by injection hsh with e1 _ e3; exact ⟨e1, e3⟩
          clear hsh
          have ca0 := ba.cell 0 _ rfl
          have ca1 := ba.cell 1 _ rfl
          have ca2 := ba.cell 2 _ rfl
          have ca3 := ba.cell 3 _ rfl
          have ca4 := ba.cell 4 _ rfl
          have fa := ba.free
          go_wp2_with (first
            | (at_builtin; refine wpList_append_zeros sl_bytes Try.underlying3 (.tmp 68) (.tmp 71) rfl rfl (base := B0) (W0 := wr) (k := 504 - rk) rfl hown (Below.refl _ _) rfl (by omega) (by omega) hcur ?_; intro ao4 cap4 wn hown4 hbel4))
          go_ret2
          have e504 : rk + (504 - rk) = 504 := by omega
          rw [e504] at hown4
          refine ⟨.slice ao4 504 cap4, 0, ?_, hBw.trans ((hB.trans hbel4).mono (by have := HB0.out; omega)), .inr (.inr ⟨HF.out, by rw [HR.out]; omega, rfl, ?_⟩)⟩
          · show Ending.returned (.tuple #[.slice ao4 (rk + (504 - rk)) cap4, .int .i64 0]) = _
            rw [e504]
          · have := Reads.of_own hown4
            unfold page
            rw [encTo_length, HNK.out, HRK.out]
            exact this
  · obtain rfl : r = false := by cases r with | false => rfl | true => exact absurd (hr.1 rfl) hf
    have HF := Lib.hid hf
    clear hr hf
    have ca0 := ba.cell 0 _ rfl
    have ca1 := ba.cell 1 _ rfl
    have ca2 := ba.cell 2 _ rfl
    have ca3 := ba.cell 3 _ rfl
    have ca4 := ba.cell 4 _ rfl
    have fa := ba.free
    go_wp2
    go_ret2
    exact ⟨_, _, rfl, hB, .inl ⟨HF.out, rfl, rfl⟩⟩
end Go.Proofs.Ytfbblgcdggpehaa

/- Which nodes may be written, by the program. Conditions: short lists. -/
import Derived.Test.YtfbblgcdggpehaaNCmp
namespace Go.Proofs.Ytfbblgcdggpehaa
set_option linter.unusedSimpArgs false
set_option linter.unusedVariables false
open Go.RowKit

theorem Nd.Fit.fits {x : Nd} (h : x.Fit) : x.fits = true := by
  obtain ⟨_, _, h⟩ := h
  unfold Nd.fits fitsB
  split at h
  · rename_i hl
    rw [if_pos hl, h.2.1, h.2.2]; simp
  · rename_i hl
    rw [if_neg hl, h.2.2.1, h.2.2.2]; simp

/-- one of the texts, at any slice -/
theorem Texts.at' {w : World} {v : Value} {L : List (List UInt8)} (h : Texts w v L) (k : Nat) (l : List UInt8) (hu : L[k]? = some l) :
    ∃ b o c a0 c0, v = .slice (some ⟨b, o, none⟩) L.length c ∧ w.cell? ⟨b, o + k, none⟩ = some (.slice a0 l.length c0) ∧ b < w.heap.size ∧ Reads 1 w (.slice a0 l.length c0) l.length (l.map B) := by
  obtain ⟨xs, hr, ht⟩ := h
  obtain ⟨ao, c, rfl, hl, hle, hc⟩ := hr
  have hk := (List.getElem?_eq_some_iff.1 hu).1
  obtain ⟨b, o, rfl, hlt, hcell⟩ := hc (by omega)
  have hx : k < xs.length := by omega
  have hr2 := ht.2 k _ _ (List.getElem?_eq_getElem hx) hu
  have hc2 := hcell k _ (List.getElem?_eq_getElem hx)
  obtain ⟨a0, c0, he, _⟩ := id hr2
  rw [he] at hr2 hc2
  exact ⟨b, o, c, a0, c0, rfl, hc2, hlt, hr2⟩

set_option maxRecDepth 100000 in
set_option maxHeartbeats 3200000 in
theorem may_true (x : Nd) (hlf : x.leaf = true) (hsm : x.small) (ks vs ds : Value) (w : World) (hx : NodeAt w ks vs ds x) (n : Int) (hn : x.next = n) :
    Calls Try.prog 32 #[.agg #[.bool true, ks, vs, ds, .int .i64 n]] w fun e w' => SaysB x.Fit w e w' := by
  obtain ⟨_, ⟨ka, kc, rfl, _⟩, _⟩ := id hx.keys
  obtain ⟨_, ⟨va, vc, rfl, _⟩, _⟩ := id hx.vals
  obtain ⟨da, dc, rfl⟩ := hx.kids.shape
  obtain ⟨nk, hnk⟩ : ∃ nk, x.keys.length = nk := ⟨_, rfl⟩
  obtain ⟨nv, hnv⟩ : ∃ nv, x.vals.length = nv := ⟨_, rfl⟩
  obtain ⟨nd, hnd⟩ : ∃ nd, x.kids.length = nd := ⟨_, rfl⟩
  have hk : nk ≤ 1048576 := hnk ▸ hsm.keys
  have hv : nv ≤ 1048576 := hnv ▸ hsm.vals
  have hd : nd ≤ 1048577 := hnd ▸ hsm.kids
  simp only [hnk, hnv, hnd] at hx ⊢
  obtain ⟨g, hg0⟩ : ∃ g, w.heap.size = g := ⟨_, rfl⟩
  have ba := Box.new w #[.bool true, .slice ka nk kc, .slice va nv vc, .slice da nd dc, .int .i64 n] 25 hg0.symm
  have hB := (Below.refl w.heap.size w).alloc (Nat.le_refl _) (.cells #[.bool true, .slice ka nk kc, .slice va nv vc, .slice da nd dc, .int .i64 n] 25)
  have HG := Lib.hid hg0
  have HNK := Lib.hid hnk
  have HNV := Lib.hid hnv
  have HND := Lib.hid hnd
  have HX := Lib.hid (hx.below hB (Nat.le_refl _))
  have HLF := Lib.hid hlf
  have HN := Lib.hid hn
  clear hx hnk hnv hnd hg0 hlf hn
  have ca0 := ba.cell 0 _ rfl
  have ca1 := ba.cell 1 _ rfl
  have ca2 := ba.cell 2 _ rfl
  have ca3 := ba.cell 3 _ rfl
  have ca4 := ba.cell 4 _ rfl
  have fa := ba.free
  go_enter Try.func32, Try.ntmps32
  go_wp2_with fail
  clear ca0 ca1 ca2 ca3 ca4 fa
  have hgw : w.heap.size ≤ g := Nat.le_of_eq HG.out
  rw [HG.out]
  have hff : ∃ r, x.fits = r := ⟨_, rfl⟩
  obtain ⟨r, hr⟩ := hff
  refine (fits_sl' x _ _ _ _ HX.out hsm.ok true n HLF.out HN.out r hr).mono ?_
  rintro e w1 ⟨rfl, hb1⟩
  replace ba := ba.below hb1 (Nat.le_refl _)
  replace hB := hB.trans (hb1.mono (by simp))
  have hx1 := HX.out.below hb1 (Nat.le_refl _)
  clear HX
  have HX := Lib.hid hx1
  have HR := Lib.hid hr
  clear hb1 hx1 hr
  have ca0 := ba.cell 0 _ rfl
  have ca1 := ba.cell 1 _ rfl
  have ca2 := ba.cell 2 _ rfl
  have ca3 := ba.cell 3 _ rfl
  have ca4 := ba.cell 4 _ rfl
  have fa := ba.free
  cases r with
  | false =>
    go_wp2
    go_ret
    exact SaysB.no (fun h => by have := h.fits; rw [HR.out] at this; cases this) hB
  | true =>
    by_cases hn1 : n < 0
    · have d1 : decide (n < 0) = true := by simp [hn1]
      have HN1 := Lib.hid hn1
      clear hn1
      go_wp2
      go_ret
      exact SaysB.no (fun h => by have h1 := h.2.1; rw [HN.out] at h1; have := h1.1; have := HN1.out; omega) hB
    · have d1 : decide (n < 0) = false := by simp; omega
      by_cases hn2 : 4294967295 < n
      · have d2 : decide (4294967295 < n) = true := by simp [hn2]
        have HN2 := Lib.hid hn2
        clear hn2
        go_wp2
        go_ret
        exact SaysB.no (fun h => by have h1 := h.2.1; rw [HN.out] at h1; have := h1.2; have := HN2.out; omega) hB
      · have d2 : decide (4294967295 < n) = false := by simp; omega
        have HNO := Lib.hid (show numOk n from ⟨by omega, by omega⟩)
        clear hn1 hn2
        go_wp2_with fail
        go_loop [33, 3, 4] (fun i _ _ => ∃ k : Nat, k ≤ nk ∧ i = .int .i64 k ∧ Hid (KeysTo x.keys k)) (fun i _ _ => nk - (intOf i).toNat)
        case atStart => exact ⟨0, Nat.zero_le _, rfl, Lib.hid (KeysTo.zero _)⟩
        case round =>
          obtain ⟨k, hkk, rfl, HP⟩ := hrel
          by_cases hlt : k < nk
          · have hkl : k < x.keys.length := by rw [HNK.out]; exact hlt
            have hu := List.getElem?_eq_getElem hkl
            have hll := hsm.keys2 _ (List.getElem_mem hkl)
            generalize x.keys[k] = l at *
            obtain ⟨b1, p1, q1, a0, c0, e1, hd1, hb1, hrs⟩ := HX.out.keys.at' k l hu
            have hka := (Value.slice.inj e1).1
            have HU := Lib.hid hu
            have HRS := Lib.hid hrs
            have HKA := Lib.hid hka
            clear e1 hu hrs hka hkl
            rw [HKA.out]
            rw [HKA.out] at ca1
            by_cases h100 : 100 < l.length
            · have d3 : decide ((100 : Int) < (l.length : Int)) = true := by simp; omega
              have H100 := Lib.hid h100
              clear h100
              go_wp2
              go_ret
              exact SaysB.no (fun h => by have h1 := h.1.1 k l HU.out; have := H100.out; omega) hB
            · have d3 : decide ((100 : Int) < (l.length : Int)) = false := by simp; omega
              have H100 := Lib.hid (show l.length ≤ 100 by omega)
              clear h100
              rcases Nat.eq_zero_or_pos k with hk0 | hk0
              · have d4 : decide (0 < k) = false := by simp; omega
                have HK0 := Lib.hid hk0
                clear hk0
                go_wp2
                go_round
                case rel => exact ⟨k + 1, by omega, by go_num, Lib.hid (HP.out.step HU.out H100.out (.inl HK0.out))⟩
                case measure => simp [intOf]; omega
              · have d4 : decide ((0 : Int) < (k : Int)) = true := by simp; omega
                have hk1 : k - 1 < x.keys.length := by have := HNK.out; omega
                have hu2 := List.getElem?_eq_getElem hk1
                generalize x.keys[k - 1] = l2 at *
                obtain ⟨b2, p2, q2, a2, c2, e2, hd2, hb2, hrs2⟩ := HX.out.keys.at' (k - 1) l2 hu2
                have e3 := (Value.slice.inj e2).1
                rw [HKA.out] at e3
                obtain ⟨rfl, rfl⟩ : b1 = b2 ∧ p1 = p2 := by injection e3 with e3; injection e3 with e4 e5; exact ⟨e4, e5⟩
                have HU2 := Lib.hid hu2
                have HRS2 := Lib.hid hrs2
                have hki : ((k : Int) - 1).toNat = k - 1 := by omega
                have hki2 : 0 ≤ (k : Int) - 1 := by omega
                clear e2 e3 hu2 hrs2 hk1
                go_wp2_with fail
                refine (bcompare_any _ _ _ _ l2 l _ HRS2.out HRS.out).mono ?_
                rintro e w2 ⟨rfl, rfl⟩
                cases hle : lessB l2 l with
                | false =>
                  have hc : 0 ≤ Lib.compareBytes l2 l := by
                    rcases Int.lt_or_le (Lib.compareBytes l2 l) 0 with h | h
                    · rw [(cmp_less _ _).1 h] at hle; cases hle
                    · exact h
                  have d5 : decide (0 ≤ Lib.compareBytes l2 l) = true := by simp [hc]
                  have HLE := Lib.hid hle
                  clear hle hc
                  go_wp2
                  go_ret
                  refine SaysB.no (fun h => ?_) hB
                  have := h.1.2 (k - 1) l2 l HU2.out (by rw [Nat.sub_add_cancel hk0]; exact HU.out)
                  rw [HLE.out] at this; cases this
                | true =>
                  have hc := (cmp_less _ _).2 hle
                  have d5 : decide (0 ≤ Lib.compareBytes l2 l) = false := by simp; omega
                  have HLE := Lib.hid hle
                  clear hle hc
                  go_wp2
                  go_round
                  case rel => exact ⟨k + 1, by omega, by go_num, Lib.hid (HP.out.step HU.out H100.out (.inr ⟨l2, HU2.out, HLE.out⟩))⟩
                  case measure => simp [intOf]; omega
          · obtain rfl : nk = k := by omega
            have HKO := Lib.hid (HP.out.all HNK.out)
            clear HP
            go_wp2_with fail
            go_loop [60, 6] (fun i _ => ∃ k : Nat, k ≤ nv ∧ i = .int .i64 k ∧ Hid (AllTo (fun l : List UInt8 => l.length ≤ 100) x.vals k)) (fun i _ => nv - (intOf i).toNat)
            case atStart => exact ⟨0, Nat.zero_le _, rfl, Lib.hid (AllTo.zero _ _)⟩
            case round =>
              clear hkk hlt
              obtain ⟨k, hkk, rfl, HP⟩ := hrel
              by_cases hlt : k < nv
              · have hkl : k < x.vals.length := by rw [HNV.out]; exact hlt
                have hu := List.getElem?_eq_getElem hkl
                have hll := hsm.vals2 _ (List.getElem_mem hkl)
                generalize x.vals[k] = l at *
                obtain ⟨b1, p1, q1, a0, c0, e1, hd1, hb1, hrs⟩ := HX.out.vals.at' k l hu
                have hka := (Value.slice.inj e1).1
                have HU := Lib.hid hu
                have HKA := Lib.hid hka
                clear e1 hu hrs hka hkl
                rw [HKA.out]
                by_cases h100 : 100 < l.length
                · have d3 : decide ((100 : Int) < (l.length : Int)) = true := by simp; omega
                  have H100 := Lib.hid h100
                  clear h100
                  go_wp2
                  go_ret
                  exact SaysB.no (fun h => by
                    have h2 := h.2.2
                    rw [HLF.out, if_pos rfl] at h2
                    have := h2.1 k l HU.out; have := H100.out; omega) hB
                · have d3 : decide ((100 : Int) < (l.length : Int)) = false := by simp; omega
                  have H100 := Lib.hid (show l.length ≤ 100 by omega)
                  clear h100
                  go_wp2
                  go_round
                  case rel => exact ⟨k + 1, by omega, by go_num, Lib.hid (HP.out.step HU.out H100.out)⟩
                  case measure => simp [intOf]; omega
              · obtain rfl : nv = k := by omega
                have HVO := Lib.hid (HP.out.all HNV.out)
                clear HP
                have hkr := HX.out.kids
                rw [HND.out] at hkr
                have HKR := Lib.hid hkr
                clear hkr
                by_cases hkk : ∀ (i : Nat) d, x.kids[i]? = some d → numOk d
                · have HKK := Lib.hid hkk
                  clear hkk
                  go_wp2_with fail
                  refine (contains_any x.kids _ nd _ HKR.out (by omega) HND.out false ⟨fun h => absurd h (by decide), fun h => absurd HKK.out h⟩).mono ?_
                  rintro e w2 ⟨rfl, rfl⟩
                  go_wp2
                  go_ret
                  refine SaysB.yes ⟨HKO.out, by rw [HN.out]; exact HNO.out, ?_⟩ hB
                  have hf := HR.out
                  unfold Nd.fits fitsB at hf
                  rw [HLF.out] at hf ⊢
                  simp only [if_true, Bool.and_eq_true, beq_iff_eq] at hf ⊢
                  exact ⟨HVO.out, hf.1, hf.2⟩
                · have HKK := Lib.hid hkk
                  clear hkk
                  go_wp2_with fail
                  refine (contains_any x.kids _ nd _ HKR.out (by omega) HND.out true ⟨fun _ => HKK.out, fun _ => rfl⟩).mono ?_
                  rintro e w2 ⟨rfl, rfl⟩
                  go_wp2
                  go_ret
                  exact SaysB.no (fun h => by
                    have h2 := h.2.2
                    rw [HLF.out, if_pos rfl] at h2
                    exact HKK.out (fun i d hi => by rw [List.eq_nil_of_length_eq_zero h2.2.2] at hi; simp at hi)) hB

set_option maxRecDepth 100000 in
set_option maxHeartbeats 3200000 in
theorem may_false (x : Nd) (hlf : x.leaf = false) (hsm : x.small) (ks vs ds : Value) (w : World) (hx : NodeAt w ks vs ds x) (n : Int) (hn : x.next = n) :
    Calls Try.prog 32 #[.agg #[.bool false, ks, vs, ds, .int .i64 n]] w fun e w' => SaysB x.Fit w e w' := by
  obtain ⟨_, ⟨ka, kc, rfl, _⟩, _⟩ := id hx.keys
  obtain ⟨_, ⟨va, vc, rfl, _⟩, _⟩ := id hx.vals
  obtain ⟨da, dc, rfl⟩ := hx.kids.shape
  obtain ⟨nk, hnk⟩ : ∃ nk, x.keys.length = nk := ⟨_, rfl⟩
  obtain ⟨nv, hnv⟩ : ∃ nv, x.vals.length = nv := ⟨_, rfl⟩
  obtain ⟨nd, hnd⟩ : ∃ nd, x.kids.length = nd := ⟨_, rfl⟩
  have hk : nk ≤ 1048576 := hnk ▸ hsm.keys
  have hv : nv ≤ 1048576 := hnv ▸ hsm.vals
  have hd : nd ≤ 1048577 := hnd ▸ hsm.kids
  simp only [hnk, hnv, hnd] at hx ⊢
  obtain ⟨g, hg0⟩ : ∃ g, w.heap.size = g := ⟨_, rfl⟩
  have ba := Box.new w #[.bool false, .slice ka nk kc, .slice va nv vc, .slice da nd dc, .int .i64 n] 25 hg0.symm
  have hB := (Below.refl w.heap.size w).alloc (Nat.le_refl _) (.cells #[.bool false, .slice ka nk kc, .slice va nv vc, .slice da nd dc, .int .i64 n] 25)
  have HG := Lib.hid hg0
  have HNK := Lib.hid hnk
  have HNV := Lib.hid hnv
  have HND := Lib.hid hnd
  have HX := Lib.hid (hx.below hB (Nat.le_refl _))
  have HLF := Lib.hid hlf
  have HN := Lib.hid hn
  clear hx hnk hnv hnd hg0 hlf hn
  have ca0 := ba.cell 0 _ rfl
  have ca1 := ba.cell 1 _ rfl
  have ca2 := ba.cell 2 _ rfl
  have ca3 := ba.cell 3 _ rfl
  have ca4 := ba.cell 4 _ rfl
  have fa := ba.free
  go_enter Try.func32, Try.ntmps32
  go_wp2_with fail
  clear ca0 ca1 ca2 ca3 ca4 fa
  have hgw : w.heap.size ≤ g := Nat.le_of_eq HG.out
  rw [HG.out]
  have hff : ∃ r, x.fits = r := ⟨_, rfl⟩
  obtain ⟨r, hr⟩ := hff
  refine (fits_sl' x _ _ _ _ HX.out hsm.ok false n HLF.out HN.out r hr).mono ?_
  rintro e w1 ⟨rfl, hb1⟩
  replace ba := ba.below hb1 (Nat.le_refl _)
  replace hB := hB.trans (hb1.mono (by simp))
  have hx1 := HX.out.below hb1 (Nat.le_refl _)
  clear HX
  have HX := Lib.hid hx1
  have HR := Lib.hid hr
  clear hb1 hx1 hr
  have ca0 := ba.cell 0 _ rfl
  have ca1 := ba.cell 1 _ rfl
  have ca2 := ba.cell 2 _ rfl
  have ca3 := ba.cell 3 _ rfl
  have ca4 := ba.cell 4 _ rfl
  have fa := ba.free
  cases r with
  | false =>
    go_wp2
    go_ret
    exact SaysB.no (fun h => by have := h.fits; rw [HR.out] at this; cases this) hB
  | true =>
    by_cases hn1 : n < 0
    · have d1 : decide (n < 0) = true := by simp [hn1]
      have HN1 := Lib.hid hn1
      clear hn1
      go_wp2
      go_ret
      exact SaysB.no (fun h => by have h1 := h.2.1; rw [HN.out] at h1; have := h1.1; have := HN1.out; omega) hB
    · have d1 : decide (n < 0) = false := by simp; omega
      by_cases hn2 : 4294967295 < n
      · have d2 : decide (4294967295 < n) = true := by simp [hn2]
        have HN2 := Lib.hid hn2
        clear hn2
        go_wp2
        go_ret
        exact SaysB.no (fun h => by have h1 := h.2.1; rw [HN.out] at h1; have := h1.2; have := HN2.out; omega) hB
      · have d2 : decide (4294967295 < n) = false := by simp; omega
        have HNO := Lib.hid (show numOk n from ⟨by omega, by omega⟩)
        clear hn1 hn2
        by_cases hn0 : n = 0
        · have d0 : (n != 0) = false := by simp [hn0]
          have HN0 := Lib.hid hn0
          clear hn0
          go_wp2_with fail
          go_loop [33, 3, 4] (fun i _ _ => ∃ k : Nat, k ≤ nk ∧ i = .int .i64 k ∧ Hid (KeysTo x.keys k)) (fun i _ _ => nk - (intOf i).toNat)
          case atStart => exact ⟨0, Nat.zero_le _, rfl, Lib.hid (KeysTo.zero _)⟩
          case round =>
            obtain ⟨k, hkk, rfl, HP⟩ := hrel
            by_cases hlt : k < nk
            · have hkl : k < x.keys.length := by rw [HNK.out]; exact hlt
              have hu := List.getElem?_eq_getElem hkl
              have hll := hsm.keys2 _ (List.getElem_mem hkl)
              generalize x.keys[k] = l at *
              obtain ⟨b1, p1, q1, a0, c0, e1, hd1, hb1, hrs⟩ := HX.out.keys.at' k l hu
              have hka := (Value.slice.inj e1).1
              have HU := Lib.hid hu
              have HRS := Lib.hid hrs
              have HKA := Lib.hid hka
              clear e1 hu hrs hka hkl
              rw [HKA.out]
              rw [HKA.out] at ca1
              by_cases h100 : 100 < l.length
              · have d3 : decide ((100 : Int) < (l.length : Int)) = true := by simp; omega
                have H100 := Lib.hid h100
                clear h100
                go_wp2
                go_ret
                exact SaysB.no (fun h => by have h1 := h.1.1 k l HU.out; have := H100.out; omega) hB
              · have d3 : decide ((100 : Int) < (l.length : Int)) = false := by simp; omega
                have H100 := Lib.hid (show l.length ≤ 100 by omega)
                clear h100
                rcases Nat.eq_zero_or_pos k with hk0 | hk0
                · have d4 : decide (0 < k) = false := by simp; omega
                  have HK0 := Lib.hid hk0
                  clear hk0
                  go_wp2
                  go_round
                  case rel => exact ⟨k + 1, by omega, by go_num, Lib.hid (HP.out.step HU.out H100.out (.inl HK0.out))⟩
                  case measure => simp [intOf]; omega
                · have d4 : decide ((0 : Int) < (k : Int)) = true := by simp; omega
                  have hk1 : k - 1 < x.keys.length := by have := HNK.out; omega
                  have hu2 := List.getElem?_eq_getElem hk1
                  generalize x.keys[k - 1] = l2 at *
                  obtain ⟨b2, p2, q2, a2, c2, e2, hd2, hb2, hrs2⟩ := HX.out.keys.at' (k - 1) l2 hu2
                  have e3 := (Value.slice.inj e2).1
                  rw [HKA.out] at e3
                  obtain ⟨rfl, rfl⟩ : b1 = b2 ∧ p1 = p2 := by injection e3 with e3; injection e3 with e4 e5; exact ⟨e4, e5⟩
                  have HU2 := Lib.hid hu2
                  have HRS2 := Lib.hid hrs2
                  have hki : ((k : Int) - 1).toNat = k - 1 := by omega
                  have hki2 : 0 ≤ (k : Int) - 1 := by omega
                  clear e2 e3 hu2 hrs2 hk1
                  go_wp2_with fail
                  refine (bcompare_any _ _ _ _ l2 l _ HRS2.out HRS.out).mono ?_
                  rintro e w2 ⟨rfl, rfl⟩
                  cases hle : lessB l2 l with
                  | false =>
                    have hc : 0 ≤ Lib.compareBytes l2 l := by
                      rcases Int.lt_or_le (Lib.compareBytes l2 l) 0 with h | h
                      · rw [(cmp_less _ _).1 h] at hle; cases hle
                      · exact h
                    have d5 : decide (0 ≤ Lib.compareBytes l2 l) = true := by simp [hc]
                    have HLE := Lib.hid hle
                    clear hle hc
                    go_wp2
                    go_ret
                    refine SaysB.no (fun h => ?_) hB
                    have := h.1.2 (k - 1) l2 l HU2.out (by rw [Nat.sub_add_cancel hk0]; exact HU.out)
                    rw [HLE.out] at this; cases this
                  | true =>
                    have hc := (cmp_less _ _).2 hle
                    have d5 : decide (0 ≤ Lib.compareBytes l2 l) = false := by simp; omega
                    have HLE := Lib.hid hle
                    clear hle hc
                    go_wp2
                    go_round
                    case rel => exact ⟨k + 1, by omega, by go_num, Lib.hid (HP.out.step HU.out H100.out (.inr ⟨l2, HU2.out, HLE.out⟩))⟩
                    case measure => simp [intOf]; omega
            · obtain rfl : nk = k := by omega
              have HKO := Lib.hid (HP.out.all HNK.out)
              clear HP
              go_wp2_with fail
              go_loop [60, 6] (fun i _ => ∃ k : Nat, k ≤ nv ∧ i = .int .i64 k ∧ Hid (AllTo (fun l : List UInt8 => l.length ≤ 100) x.vals k)) (fun i _ => nv - (intOf i).toNat)
              case atStart => exact ⟨0, Nat.zero_le _, rfl, Lib.hid (AllTo.zero _ _)⟩
              case round =>
                clear hkk hlt
                obtain ⟨k, hkk, rfl, HP⟩ := hrel
                by_cases hlt : k < nv
                · have hkl : k < x.vals.length := by rw [HNV.out]; exact hlt
                  have hu := List.getElem?_eq_getElem hkl
                  have hll := hsm.vals2 _ (List.getElem_mem hkl)
                  generalize x.vals[k] = l at *
                  obtain ⟨b1, p1, q1, a0, c0, e1, hd1, hb1, hrs⟩ := HX.out.vals.at' k l hu
                  have hka := (Value.slice.inj e1).1
                  have HU := Lib.hid hu
                  have HKA := Lib.hid hka
                  clear e1 hu hrs hka hkl
                  rw [HKA.out]
                  by_cases h100 : 100 < l.length
                  · have d3 : decide ((100 : Int) < (l.length : Int)) = true := by simp; omega
                    have H100 := Lib.hid h100
                    clear h100
                    go_wp2
                    go_ret
                    exact SaysB.no (fun h => by
                      have h2 := h.2.2
                      rw [HLF.out, if_neg (by decide), HNV.out] at h2
                      have := h2.2.2.2; omega) hB
                  · have d3 : decide ((100 : Int) < (l.length : Int)) = false := by simp; omega
                    have H100 := Lib.hid (show l.length ≤ 100 by omega)
                    clear h100
                    go_wp2
                    go_round
                    case rel => exact ⟨k + 1, by omega, by go_num, Lib.hid (HP.out.step HU.out H100.out)⟩
                    case measure => simp [intOf]; omega
                · obtain rfl : nv = k := by omega
                  have HVO := Lib.hid (HP.out.all HNV.out)
                  clear HP
                  have hkr := HX.out.kids
                  rw [HND.out] at hkr
                  have HKR := Lib.hid hkr
                  clear hkr
                  by_cases hkk : ∀ (i : Nat) d, x.kids[i]? = some d → numOk d
                  · have HKK := Lib.hid hkk
                    clear hkk
                    go_wp2_with fail
                    refine (contains_any x.kids _ nd _ HKR.out (by omega) HND.out false ⟨fun h => absurd h (by decide), fun h => absurd HKK.out h⟩).mono ?_
                    rintro e w2 ⟨rfl, rfl⟩
                    go_wp2
                    go_ret
                    refine SaysB.yes ⟨HKO.out, by rw [HN.out]; exact HNO.out, ?_⟩ hB
                    have hf := HR.out
                    unfold Nd.fits fitsB at hf
                    rw [HLF.out] at hf ⊢
                    simp only [Bool.false_eq_true, if_false, Bool.and_eq_true, beq_iff_eq] at hf ⊢
                    exact ⟨by rw [HN.out]; exact HN0.out, HKK.out, hf.1, hf.2⟩
                  · have HKK := Lib.hid hkk
                    clear hkk
                    go_wp2_with fail
                    refine (contains_any x.kids _ nd _ HKR.out (by omega) HND.out true ⟨fun _ => HKK.out, fun _ => rfl⟩).mono ?_
                    rintro e w2 ⟨rfl, rfl⟩
                    go_wp2
                    go_ret
                    exact SaysB.no (fun h => by
                      have h2 := h.2.2
                      rw [HLF.out, if_neg (by decide)] at h2
                      exact HKK.out h2.2.1) hB
        · have d0 : (n != 0) = true := by simp [hn0]
          have HN0 := Lib.hid hn0
          clear hn0
          go_wp2
          go_ret
          exact SaysB.no (fun h => by
            have h2 := h.2.2
            rw [HLF.out, if_neg (by decide), HN.out] at h2
            exact HN0.out h2.1) hB
end Go.Proofs.Ytfbblgcdggpehaa

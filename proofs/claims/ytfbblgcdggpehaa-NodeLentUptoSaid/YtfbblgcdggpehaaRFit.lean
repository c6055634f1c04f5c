/- Which nodes may be, by the reference. Conditions: short lists. -/
import Derived.Test.YtfbblgcdggpehaaNSame
import Derived.Test.YtfbblgcdggpehaaNPlain
import Derived.WalkLawsBesides
namespace Go.Proofs.Ytfbblgcdggpehaa
set_option linter.unusedSimpArgs false
set_option linter.unusedVariables false
open Go.RowKit

def numOk (n : Int) : Prop := 0 ≤ n ∧ n < 4294967296
/-- a node that may be, but for its size -/
def Nd.Fit (x : Nd) : Prop := keysOk x.keys ∧ numOk x.next ∧
  (if x.leaf then (∀ (i : Nat) (l : List UInt8), x.vals[i]? = some l → l.length ≤ 100) ∧ x.vals.length = x.keys.length ∧ x.kids.length = 0
   else x.next = 0 ∧ (∀ (i : Nat) (d : Int), x.kids[i]? = some d → numOk d) ∧ x.kids.length = x.keys.length + 1 ∧ x.vals.length = 0)

theorem number_any (n : Int) (r : Bool) (w : World) (h : r = true ↔ numOk n) : Calls Try.prog 51 #[.int .i64 n] w fun e w' => e = .returned (.bool r) ∧ w' = w := by
  unfold numOk at h
  by_cases h1 : 0 ≤ n
  · by_cases h2 : n < 4294967296
    · obtain rfl : r = true := h.2 ⟨h1, h2⟩
      have d1 : decide (0 ≤ n) = true := by simp [h1]
      have d2 : decide (n < 4294967296) = true := by simp [h2]
      clear h
      go_enter Try.func51, Try.ntmps51
      go_wp2
      go_ret
      exact ⟨rfl, rfl⟩
    · obtain rfl : r = false := by cases r with | false => rfl | true => exact absurd (h.1 rfl).2 h2
      have d1 : decide (0 ≤ n) = true := by simp [h1]
      have d2 : decide (n < 4294967296) = false := by simp; omega
      clear h
      go_enter Try.func51, Try.ntmps51
      go_wp2
      go_ret
      exact ⟨rfl, rfl⟩
  · obtain rfl : r = false := by cases r with | false => rfl | true => exact absurd (h.1 rfl).1 h1
    have d1 : decide (0 ≤ n) = false := by simp; omega
    clear h
    go_enter Try.func51, Try.ntmps51
    go_wp2
    go_ret
    exact ⟨rfl, rfl⟩

/-- a bool that says p, and memory that has only grown -/
def SaysB (p : Prop) (w : World) (e : Ending) (w' : World) : Prop := ∃ r : Bool, e = .returned (.bool r) ∧ (r = true ↔ p) ∧ Below w.heap.size w w'
theorem SaysB.no {p : Prop} {w w' : World} (h : ¬ p) (hb : Below w.heap.size w w') : SaysB p w (.returned (.bool false)) w' := ⟨false, rfl, ⟨fun e => absurd e (by decide), fun e => absurd e h⟩, hb⟩
theorem SaysB.yes {p : Prop} {w w' : World} (h : p) (hb : Below w.heap.size w w') : SaysB p w (.returned (.bool true)) w' := ⟨true, rfl, ⟨fun _ => h, fun _ => rfl⟩, hb⟩


set_option maxRecDepth 100000 in
set_option maxHeartbeats 3200000 in
theorem rfit_true (x : Nd) (hlf : x.leaf = true) (ks vs ds : Value) (w : World) (hx : RefAt w ks vs ds x) (hk : x.keys.length ≤ 1152921504606846976) (hv : x.vals.length ≤ 1152921504606846976) (hd : x.kids.length ≤ 1152921504606846976) (hkl : ∀ l ∈ x.keys, l.length ≤ 1152921504606846976) (hvl : ∀ l ∈ x.vals, l.length ≤ 1152921504606846976) (n : Int) (hn : x.next = n) :
    Calls Try.prog 35 #[.agg #[.bool true, ks, vs, ds, .int .i64 n]] w fun e w' => SaysB x.Fit w e w' := by
  obtain ⟨ka, kc, rfl⟩ := hx.keys.shape
  obtain ⟨va, vc, rfl⟩ := hx.vals.shape
  obtain ⟨da, dc, rfl⟩ := hx.kids.shape
  have hx1 := hx.keys
  have hx2 := hx.vals
  have hx3 := hx.kids
  obtain ⟨nk, hnk⟩ : ∃ nk, x.keys.length = nk := ⟨_, rfl⟩
  obtain ⟨nv, hnv⟩ : ∃ nv, x.vals.length = nv := ⟨_, rfl⟩
  obtain ⟨nd, hnd⟩ : ∃ nd, x.kids.length = nd := ⟨_, rfl⟩
  rw [hnk] at hk hx1
  rw [hnv] at hv hx2
  rw [hnd] at hd hx3
  simp only [hnk, hnv, hnd]
  obtain ⟨g, hg0⟩ : ∃ g, w.heap.size = g := ⟨_, rfl⟩
  have ba := Box.new w #[.bool true, .slice ka nk kc, .slice va nv vc, .slice da nd dc, .int .i64 n] 38 hg0.symm
  have hB := (Below.refl w.heap.size w).alloc (Nat.le_refl _) (.cells #[.bool true, .slice ka nk kc, .slice va nv vc, .slice da nd dc, .int .i64 n] 38)
  have hs : (w.alloc (.cells #[.bool true, .slice ka nk kc, .slice va nv vc, .slice da nd dc, .int .i64 n] 38)).heap.size = g + 1 := by simp; omega
  have HG := Lib.hid hg0
  have HNK := Lib.hid hnk
  have HNV := Lib.hid hnv
  have HND := Lib.hid hnd
  have HX1 := Lib.hid hx1
  have HX2 := Lib.hid hx2
  have HX3 := Lib.hid hx3
  have HKL := Lib.hid hkl
  have HVL := Lib.hid hvl
  have HLF := Lib.hid hlf
  have HN := Lib.hid hn
  have HW := Lib.hid (⟨ba, hB, hs⟩ : Box (w.alloc (.cells #[.bool true, .slice ka nk kc, .slice va nv vc, .slice da nd dc, .int .i64 n] 38)) g [.bool true, .slice ka nk kc, .slice va nv vc, .slice da nd dc, .int .i64 n] ∧ Below w.heap.size w (w.alloc (.cells #[.bool true, .slice ka nk kc, .slice va nv vc, .slice da nd dc, .int .i64 n] 38)) ∧ (w.alloc (.cells #[.bool true, .slice ka nk kc, .slice va nv vc, .slice da nd dc, .int .i64 n] 38)).heap.size = g + 1)
  clear hx hx1 hx2 hx3 ba hB hs hnk hnv hnd hg0 hkl hvl hlf hn
  go_enter Try.func35, Try.ntmps35
  go_wp2_with fail
  have hgw : w.heap.size ≤ g := Nat.le_of_eq HG.out
  rw [HG.out]
  refine wp_world (fun w0 => Box w0 g [.bool true, .slice ka nk kc, .slice va nv vc, .slice da nd dc, .int .i64 n] ∧ Below w.heap.size w w0 ∧ w0.heap.size = g + 1) HW.out ?_
  clear HW
  rintro w0 ⟨ba, hB, hs0⟩
  have hs3 : g + 1 ≤ w0.heap.size := Nat.le_of_eq hs0.symm
  clear hs0
  go_loopw [3] (fun i wr => ∃ k, k ≤ nk ∧ i = .int .i64 k ∧ Box wr g [.bool true, .slice ka nk kc, .slice va nv vc, .slice da nd dc, .int .i64 n] ∧ Below w.heap.size w wr ∧ g + 1 ≤ wr.heap.size ∧ Hid (KeysTo x.keys k)) (fun i _ => nk - (intOf i).toNat)
  case atStart => exact ⟨0, Nat.zero_le _, rfl, ba, hB, hs3, Lib.hid (KeysTo.zero _)⟩
  case round =>
    clear ba hB hs3
    obtain ⟨k, hk, rfl, ba, hB, hs3, HP⟩ := hrel
    by_cases hlt : k < nk
    · have hkl : k < x.keys.length := by rw [HNK.out]; exact hlt
      have hu : (x.keys.map S)[k]? = some (S x.keys[k]) := by rw [List.getElem?_map, List.getElem?_eq_getElem hkl]; rfl
      have HU := Lib.hid (List.getElem?_eq_getElem hkl)
      have hll := HKL.out _ (List.getElem_mem hkl)
      generalize x.keys[k] = l at *
      obtain ⟨b1, p1, q1, e1, hb1, _, hc1⟩ := HX1.out.at k hlt _ hu
      have hd1 := (hB.cell (p := ⟨b1, p1 + k, none⟩) hb1).trans hc1
      have E1 := Lib.hid (Value.slice.inj e1).1
      simp only [S] at hd1
      clear e1 hu hc1 hkl
      have ca0 := ba.cell 0 _ rfl
      have ca1 := ba.cell 1 _ rfl
      have ca2 := ba.cell 2 _ rfl
      have ca3 := ba.cell 3 _ rfl
      have ca4 := ba.cell 4 _ rfl
      have fa := ba.free
      have ca1q := ca1
      rw [E1.out] at ca1
      clear ca1q
      by_cases h100 : 100 < l.length
      · have d1 : decide ((100 : Int) < (l.length : Int)) = true := by simp; omega
        go_wp2_with fail
        go_quiet (fail)
        go_wp2
        go_ret
        exact SaysB.no (fun h => by have := h.1.1 k l HU.out; omega) (below_dn hB nq)
      · have d1 : decide ((100 : Int) < (l.length : Int)) = false := by simp; omega
        rcases Nat.eq_zero_or_pos k with hk0 | hk0
        · have d2 : decide (0 < k) = false := by simp; omega
          have HK0 := Lib.hid hk0
          clear hk0
          go_wp2_with fail
          go_quiet (fail)
          go_wp2
          have hq := below_dn (Below.refl wr.heap.size wr) nq
          go_roundw
          case rel => exact ⟨k + 1, by omega, by go_num, ba.below hq (Nat.le_refl _), hB.trans (hq.mono (by omega)), by have := hq.size; omega, Lib.hid (HP.out.step HU.out (by omega) (.inl HK0.out))⟩
          case measure => simp [intOf]; omega
        · have d2 : decide ((0 : Int) < (k : Int)) = true := by simp; omega
          have hk1 : k - 1 < x.keys.length := by have := HNK.out; omega
          have hu2 : (x.keys.map S)[k - 1]? = some (S x.keys[k - 1]) := by rw [List.getElem?_map, List.getElem?_eq_getElem hk1]; rfl
          have HU2 := Lib.hid (List.getElem?_eq_getElem hk1)
          generalize x.keys[k - 1] = l2 at *
          obtain ⟨b2, p2, q2, e2, hb2, _, hc2⟩ := HX1.out.at (k - 1) (by omega) _ hu2
          have e3 := (Value.slice.inj e2).1
          rw [E1.out] at e3
          obtain ⟨rfl, rfl⟩ : b1 = b2 ∧ p1 = p2 := by injection e3 with e3; injection e3 with e4 e5; exact ⟨e4, e5⟩
          have hd2 := (hB.cell (p := ⟨b1, p1 + (k - 1), none⟩) hb2).trans hc2
          simp only [S] at hd2
          have hki : ((k : Int) - 1).toNat = k - 1 := by omega
          have hki2 : 0 ≤ (k : Int) - 1 := by omega
          clear e2 e3 hu2 hc2 hk1
          have hlq := leq_iff l l2
          cases hle : lessB l2 l with
          | false =>
            rw [hle] at hlq
            simp only [Bool.not_false] at hlq
            go_wp2_with fail
            go_quiet (fail)
            go_wp2
            go_ret
            refine SaysB.no (fun h => ?_) (below_dn hB nq)
            have := h.1.2 (k - 1) l2 l HU2.out (by rw [Nat.sub_add_cancel hk0]; exact HU.out)
            rw [hle] at this; cases this
          | true =>
            have HLE := Lib.hid hle
            rw [hle] at hlq
            simp only [Bool.not_true] at hlq
            go_wp2_with fail
            go_quiet (fail)
            go_wp2
            have hq := below_dn (Below.refl wr.heap.size wr) nq
            go_roundw
            case rel => exact ⟨k + 1, by omega, by go_num, ba.below hq (Nat.le_refl _), hB.trans (hq.mono (by omega)), by have := hq.size; omega, Lib.hid (HP.out.step HU.out (by omega) (.inr ⟨l2, HU2.out, HLE.out⟩))⟩
            case measure => simp [intOf]; omega
    · obtain rfl : nk = k := by omega
      have ca0 := ba.cell 0 _ rfl
      have ca1 := ba.cell 1 _ rfl
      have ca2 := ba.cell 2 _ rfl
      have ca3 := ba.cell 3 _ rfl
      have ca4 := ba.cell 4 _ rfl
      have fa := ba.free
      have HKO := Lib.hid (HP.out.all HNK.out)
      clear HP
      by_cases hno : numOk n
      · have HNO := Lib.hid hno
        clear hno
        go_wp2_with fail
        refine (number_any n true _ ⟨fun _ => HNO.out, fun _ => rfl⟩).mono ?_
        rintro e w' ⟨rfl, rfl⟩
        go_wp2_with fail
        clear ca0 ca1 ca2 ca3 ca4 fa
        clear hk hlt
        go_loopw [4] (fun i wr => ∃ k, k ≤ nv ∧ i = .int .i64 k ∧ Box wr g [.bool true, .slice ka nk kc, .slice va nv vc, .slice da nd dc, .int .i64 n] ∧ Below w.heap.size w wr ∧ g + 1 ≤ wr.heap.size ∧ Hid (AllTo (fun l : List UInt8 => l.length ≤ 100) x.vals k)) (fun i _ => nv - (intOf i).toNat)
        case atStart => exact ⟨0, Nat.zero_le _, rfl, ba, hB, hs3, Lib.hid (AllTo.zero _ _)⟩
        case round =>
          clear ba hB hs3
          obtain ⟨k, hk, rfl, ba, hB, hs3, HP⟩ := hrel
          by_cases hlt : k < nv
          · have hkl : k < x.vals.length := by rw [HNV.out]; exact hlt
            have hu : (x.vals.map S)[k]? = some (S x.vals[k]) := by rw [List.getElem?_map, List.getElem?_eq_getElem hkl]; rfl
            have HU := Lib.hid (List.getElem?_eq_getElem hkl)
            have hll := HVL.out _ (List.getElem_mem hkl)
            generalize x.vals[k] = l at *
            obtain ⟨b1, p1, q1, e1, hb1, _, hc1⟩ := HX2.out.at k hlt _ hu
            have hd1 := (hB.cell (p := ⟨b1, p1 + k, none⟩) hb1).trans hc1
            have E1 := Lib.hid (Value.slice.inj e1).1
            simp only [S] at hd1
            clear e1 hu hc1 hkl
            have ca0 := ba.cell 0 _ rfl
            have ca1 := ba.cell 1 _ rfl
            have ca2 := ba.cell 2 _ rfl
            have ca3 := ba.cell 3 _ rfl
            have ca4 := ba.cell 4 _ rfl
            have fa := ba.free
            have ca2q := ca2
            rw [E1.out] at ca2
            clear ca2q
            by_cases h100 : 100 < l.length
            · have d1 : decide ((100 : Int) < (l.length : Int)) = true := by simp; omega
              go_wp2
              go_ret
              exact SaysB.no (fun h => by
                have := h.2.2
                rw [HLF.out, if_pos rfl] at this
                have := this.1 k l HU.out
                omega) hB
            · have d1 : decide ((100 : Int) < (l.length : Int)) = false := by simp; omega
              go_wp2
              go_roundw
              case rel => exact ⟨k + 1, by omega, by go_num, ba, hB, hs3, Lib.hid (HP.out.step HU.out (by omega))⟩
              case measure => simp [intOf]; omega
          · obtain rfl : nv = k := by omega
            have ca0 := ba.cell 0 _ rfl
            have ca1 := ba.cell 1 _ rfl
            have ca2 := ba.cell 2 _ rfl
            have ca3 := ba.cell 3 _ rfl
            have ca4 := ba.cell 4 _ rfl
            have fa := ba.free
            by_cases h1 : nv = nk
            · have d1 : ((nv : Int) == (nk : Int)) = true := by simp [h1]
              by_cases h2 : nd = 0
              · have d2 : ((nd : Int) == 0) = true := by simp [h2]
                have H1 := Lib.hid h1
                have H2 := Lib.hid h2
                clear h1 h2
                go_wp2
                go_ret
                refine SaysB.yes ⟨HKO.out, by rw [HN.out]; exact HNO.out, ?_⟩ hB
                rw [HLF.out, if_pos rfl]
                exact ⟨HP.out.all HNV.out, by rw [HNV.out, HNK.out, H1.out], by rw [HND.out, H2.out]⟩
              · have d2 : ((nd : Int) == 0) = false := by rw [beq_eq_false_iff_ne]; omega
                have H2 := Lib.hid h2
                clear h2
                go_wp2
                go_ret
                exact SaysB.no (fun h => by
                  have := h.2.2
                  rw [HLF.out, if_pos rfl, HND.out] at this
                  exact H2.out this.2.2) hB
            · have d1 : ((nv : Int) == (nk : Int)) = false := by rw [beq_eq_false_iff_ne]; omega
              have H1 := Lib.hid h1
              clear h1
              go_wp2
              go_ret
              exact SaysB.no (fun h => by
                have := h.2.2
                rw [HLF.out, if_pos rfl, HNK.out, HNV.out] at this
                exact H1.out this.2.1) hB
      · have HNO := Lib.hid hno
        clear hno
        go_wp2_with fail
        refine (number_any n false _ ⟨fun h => absurd h (by decide), fun h => absurd h HNO.out⟩).mono ?_
        rintro e w' ⟨rfl, rfl⟩
        go_wp2
        go_ret
        exact SaysB.no (fun h => HNO.out (HN.out ▸ h.2.1)) hB

set_option maxRecDepth 100000 in
set_option maxHeartbeats 3200000 in
theorem rfit_false (x : Nd) (hlf : x.leaf = false) (ks vs ds : Value) (w : World) (hx : RefAt w ks vs ds x) (hk : x.keys.length ≤ 1152921504606846976) (hv : x.vals.length ≤ 1152921504606846976) (hd : x.kids.length ≤ 1152921504606846976) (hkl : ∀ l ∈ x.keys, l.length ≤ 1152921504606846976) (hvl : ∀ l ∈ x.vals, l.length ≤ 1152921504606846976) (n : Int) (hn : x.next = n) :
    Calls Try.prog 35 #[.agg #[.bool false, ks, vs, ds, .int .i64 n]] w fun e w' => SaysB x.Fit w e w' := by
  obtain ⟨ka, kc, rfl⟩ := hx.keys.shape
  obtain ⟨va, vc, rfl⟩ := hx.vals.shape
  obtain ⟨da, dc, rfl⟩ := hx.kids.shape
  have hx1 := hx.keys
  have hx2 := hx.vals
  have hx3 := hx.kids
  obtain ⟨nk, hnk⟩ : ∃ nk, x.keys.length = nk := ⟨_, rfl⟩
  obtain ⟨nv, hnv⟩ : ∃ nv, x.vals.length = nv := ⟨_, rfl⟩
  obtain ⟨nd, hnd⟩ : ∃ nd, x.kids.length = nd := ⟨_, rfl⟩
  rw [hnk] at hk hx1
  rw [hnv] at hv hx2
  rw [hnd] at hd hx3
  simp only [hnk, hnv, hnd]
  obtain ⟨g, hg0⟩ : ∃ g, w.heap.size = g := ⟨_, rfl⟩
  have ba := Box.new w #[.bool false, .slice ka nk kc, .slice va nv vc, .slice da nd dc, .int .i64 n] 38 hg0.symm
  have hB := (Below.refl w.heap.size w).alloc (Nat.le_refl _) (.cells #[.bool false, .slice ka nk kc, .slice va nv vc, .slice da nd dc, .int .i64 n] 38)
  have hs : (w.alloc (.cells #[.bool false, .slice ka nk kc, .slice va nv vc, .slice da nd dc, .int .i64 n] 38)).heap.size = g + 1 := by simp; omega
  have HG := Lib.hid hg0
  have HNK := Lib.hid hnk
  have HNV := Lib.hid hnv
  have HND := Lib.hid hnd
  have HX1 := Lib.hid hx1
  have HX2 := Lib.hid hx2
  have HX3 := Lib.hid hx3
  have HKL := Lib.hid hkl
  have HVL := Lib.hid hvl
  have HLF := Lib.hid hlf
  have HN := Lib.hid hn
  have HW := Lib.hid (⟨ba, hB, hs⟩ : Box (w.alloc (.cells #[.bool false, .slice ka nk kc, .slice va nv vc, .slice da nd dc, .int .i64 n] 38)) g [.bool false, .slice ka nk kc, .slice va nv vc, .slice da nd dc, .int .i64 n] ∧ Below w.heap.size w (w.alloc (.cells #[.bool false, .slice ka nk kc, .slice va nv vc, .slice da nd dc, .int .i64 n] 38)) ∧ (w.alloc (.cells #[.bool false, .slice ka nk kc, .slice va nv vc, .slice da nd dc, .int .i64 n] 38)).heap.size = g + 1)
  clear hx hx1 hx2 hx3 ba hB hs hnk hnv hnd hg0 hkl hvl hlf hn
  go_enter Try.func35, Try.ntmps35
  go_wp2_with fail
  have hgw : w.heap.size ≤ g := Nat.le_of_eq HG.out
  rw [HG.out]
  refine wp_world (fun w0 => Box w0 g [.bool false, .slice ka nk kc, .slice va nv vc, .slice da nd dc, .int .i64 n] ∧ Below w.heap.size w w0 ∧ w0.heap.size = g + 1) HW.out ?_
  clear HW
  rintro w0 ⟨ba, hB, hs0⟩
  have hs3 : g + 1 ≤ w0.heap.size := Nat.le_of_eq hs0.symm
  clear hs0
  go_loopw [3] (fun i wr => ∃ k, k ≤ nk ∧ i = .int .i64 k ∧ Box wr g [.bool false, .slice ka nk kc, .slice va nv vc, .slice da nd dc, .int .i64 n] ∧ Below w.heap.size w wr ∧ g + 1 ≤ wr.heap.size ∧ Hid (KeysTo x.keys k)) (fun i _ => nk - (intOf i).toNat)
  case atStart => exact ⟨0, Nat.zero_le _, rfl, ba, hB, hs3, Lib.hid (KeysTo.zero _)⟩
  case round =>
    clear ba hB hs3
    obtain ⟨k, hk, rfl, ba, hB, hs3, HP⟩ := hrel
    by_cases hlt : k < nk
    · have hkl : k < x.keys.length := by rw [HNK.out]; exact hlt
      have hu : (x.keys.map S)[k]? = some (S x.keys[k]) := by rw [List.getElem?_map, List.getElem?_eq_getElem hkl]; rfl
      have HU := Lib.hid (List.getElem?_eq_getElem hkl)
      have hll := HKL.out _ (List.getElem_mem hkl)
      generalize x.keys[k] = l at *
      obtain ⟨b1, p1, q1, e1, hb1, _, hc1⟩ := HX1.out.at k hlt _ hu
      have hd1 := (hB.cell (p := ⟨b1, p1 + k, none⟩) hb1).trans hc1
      have E1 := Lib.hid (Value.slice.inj e1).1
      simp only [S] at hd1
      clear e1 hu hc1 hkl
      have ca0 := ba.cell 0 _ rfl
      have ca1 := ba.cell 1 _ rfl
      have ca2 := ba.cell 2 _ rfl
      have ca3 := ba.cell 3 _ rfl
      have ca4 := ba.cell 4 _ rfl
      have fa := ba.free
      have ca1q := ca1
      rw [E1.out] at ca1
      clear ca1q
      by_cases h100 : 100 < l.length
      · have d1 : decide ((100 : Int) < (l.length : Int)) = true := by simp; omega
        go_wp2_with fail
        go_quiet (fail)
        go_wp2
        go_ret
        exact SaysB.no (fun h => by have := h.1.1 k l HU.out; omega) (below_dn hB nq)
      · have d1 : decide ((100 : Int) < (l.length : Int)) = false := by simp; omega
        rcases Nat.eq_zero_or_pos k with hk0 | hk0
        · have d2 : decide (0 < k) = false := by simp; omega
          have HK0 := Lib.hid hk0
          clear hk0
          go_wp2_with fail
          go_quiet (fail)
          go_wp2
          have hq := below_dn (Below.refl wr.heap.size wr) nq
          go_roundw
          case rel => exact ⟨k + 1, by omega, by go_num, ba.below hq (Nat.le_refl _), hB.trans (hq.mono (by omega)), by have := hq.size; omega, Lib.hid (HP.out.step HU.out (by omega) (.inl HK0.out))⟩
          case measure => simp [intOf]; omega
        · have d2 : decide ((0 : Int) < (k : Int)) = true := by simp; omega
          have hk1 : k - 1 < x.keys.length := by have := HNK.out; omega
          have hu2 : (x.keys.map S)[k - 1]? = some (S x.keys[k - 1]) := by rw [List.getElem?_map, List.getElem?_eq_getElem hk1]; rfl
          have HU2 := Lib.hid (List.getElem?_eq_getElem hk1)
          generalize x.keys[k - 1] = l2 at *
          obtain ⟨b2, p2, q2, e2, hb2, _, hc2⟩ := HX1.out.at (k - 1) (by omega) _ hu2
          have e3 := (Value.slice.inj e2).1
          rw [E1.out] at e3
          obtain ⟨rfl, rfl⟩ : b1 = b2 ∧ p1 = p2 := by injection e3 with e3; injection e3 with e4 e5; exact ⟨e4, e5⟩
          have hd2 := (hB.cell (p := ⟨b1, p1 + (k - 1), none⟩) hb2).trans hc2
          simp only [S] at hd2
          have hki : ((k : Int) - 1).toNat = k - 1 := by omega
          have hki2 : 0 ≤ (k : Int) - 1 := by omega
          clear e2 e3 hu2 hc2 hk1
          have hlq := leq_iff l l2
          cases hle : lessB l2 l with
          | false =>
            rw [hle] at hlq
            simp only [Bool.not_false] at hlq
            go_wp2_with fail
            go_quiet (fail)
            go_wp2
            go_ret
            refine SaysB.no (fun h => ?_) (below_dn hB nq)
            have := h.1.2 (k - 1) l2 l HU2.out (by rw [Nat.sub_add_cancel hk0]; exact HU.out)
            rw [hle] at this; cases this
          | true =>
            have HLE := Lib.hid hle
            rw [hle] at hlq
            simp only [Bool.not_true] at hlq
            go_wp2_with fail
            go_quiet (fail)
            go_wp2
            have hq := below_dn (Below.refl wr.heap.size wr) nq
            go_roundw
            case rel => exact ⟨k + 1, by omega, by go_num, ba.below hq (Nat.le_refl _), hB.trans (hq.mono (by omega)), by have := hq.size; omega, Lib.hid (HP.out.step HU.out (by omega) (.inr ⟨l2, HU2.out, HLE.out⟩))⟩
            case measure => simp [intOf]; omega
    · obtain rfl : nk = k := by omega
      have ca0 := ba.cell 0 _ rfl
      have ca1 := ba.cell 1 _ rfl
      have ca2 := ba.cell 2 _ rfl
      have ca3 := ba.cell 3 _ rfl
      have ca4 := ba.cell 4 _ rfl
      have fa := ba.free
      have HKO := Lib.hid (HP.out.all HNK.out)
      clear HP
      by_cases hno : numOk n
      · have HNO := Lib.hid hno
        clear hno
        go_wp2_with fail
        refine (number_any n true _ ⟨fun _ => HNO.out, fun _ => rfl⟩).mono ?_
        rintro e w' ⟨rfl, rfl⟩
        by_cases hn0 : n = 0
        · have d0 : (n != 0) = false := by simp [hn0]
          have HN0 := Lib.hid hn0
          clear hn0
          go_wp2_with fail
          clear ca0 ca1 ca2 ca3 ca4 fa
          clear hk hlt
          go_loopw [5] (fun i wr => ∃ k, k ≤ nd ∧ i = .int .i64 k ∧ Box wr g [.bool false, .slice ka nk kc, .slice va nv vc, .slice da nd dc, .int .i64 n] ∧ Below w.heap.size w wr ∧ g + 1 ≤ wr.heap.size ∧ Hid (AllTo numOk x.kids k)) (fun i _ => nd - (intOf i).toNat)
          case atStart => exact ⟨0, Nat.zero_le _, rfl, ba, hB, hs3, Lib.hid (AllTo.zero _ _)⟩
          case round =>
            clear ba hB hs3
            obtain ⟨k, hk, rfl, ba, hB, hs3, HP⟩ := hrel
            by_cases hlt : k < nd
            · have hkl : k < x.kids.length := by rw [HND.out]; exact hlt
              have hu : (x.kids.map I)[k]? = some (I x.kids[k]) := by rw [List.getElem?_map, List.getElem?_eq_getElem hkl]; rfl
              have HU := Lib.hid (List.getElem?_eq_getElem hkl)
              generalize x.kids[k] = l at *
              obtain ⟨b1, p1, q1, e1, hb1, _, hc1⟩ := HX3.out.at k hlt _ hu
              have hd1 := (hB.cell (p := ⟨b1, p1 + k, none⟩) hb1).trans hc1
              have E1 := Lib.hid (Value.slice.inj e1).1
              simp only [I] at hd1
              clear e1 hu hc1 hkl
              have ca0 := ba.cell 0 _ rfl
              have ca1 := ba.cell 1 _ rfl
              have ca2 := ba.cell 2 _ rfl
              have ca3 := ba.cell 3 _ rfl
              have ca4 := ba.cell 4 _ rfl
              have fa := ba.free
              have ca3q := ca3
              rw [E1.out] at ca3
              clear ca3q
              by_cases hno : numOk l
              · have HNO := Lib.hid hno
                go_wp2_with fail
                refine (number_any l true _ ⟨fun _ => HNO.out, fun _ => rfl⟩).mono ?_
                rintro e w' ⟨rfl, rfl⟩
                go_wp2
                go_roundw
                case rel => exact ⟨k + 1, by omega, by go_num, ba, hB, hs3, Lib.hid (HP.out.step HU.out HNO.out)⟩
                case measure => simp [intOf]; omega
              · have HNO := Lib.hid hno
                clear hno
                go_wp2_with fail
                refine (number_any l false _ ⟨fun h => absurd h (by decide), fun h => absurd h HNO.out⟩).mono ?_
                rintro e w' ⟨rfl, rfl⟩
                go_wp2
                go_ret
                exact SaysB.no (fun h => by
                  have := h.2.2
                  rw [HLF.out, if_neg (by decide)] at this
                  exact HNO.out (this.2.1 k l HU.out)) hB
            · obtain rfl : nd = k := by omega
              have ca0 := ba.cell 0 _ rfl
              have ca1 := ba.cell 1 _ rfl
              have ca2 := ba.cell 2 _ rfl
              have ca3 := ba.cell 3 _ rfl
              have ca4 := ba.cell 4 _ rfl
              have fa := ba.free
              by_cases h1 : nd = nk + 1
              · have d1 : ((nd : Int) == (nk : Int) + 1) = true := by simp [h1]
                by_cases h2 : nv = 0
                · have d2 : ((nv : Int) == 0) = true := by simp [h2]
                  have H1 := Lib.hid h1
                  have H2 := Lib.hid h2
                  clear h1 h2
                  go_wp2
                  go_ret
                  refine SaysB.yes ⟨HKO.out, by rw [HN.out]; exact HNO.out, ?_⟩ hB
                  rw [HLF.out, if_neg (by decide)]
                  exact ⟨by rw [HN.out]; exact HN0.out, HP.out.all HND.out, by rw [HND.out, HNK.out, H1.out], by rw [HNV.out, H2.out]⟩
                · have d2 : ((nv : Int) == 0) = false := by rw [beq_eq_false_iff_ne]; omega
                  have H2 := Lib.hid h2
                  clear h2
                  go_wp2
                  go_ret
                  exact SaysB.no (fun h => by
                    have := h.2.2
                    rw [HLF.out, if_neg (by decide), HNV.out] at this
                    exact H2.out this.2.2.2) hB
              · have d1 : ((nd : Int) == (nk : Int) + 1) = false := by rw [beq_eq_false_iff_ne]; omega
                have H1 := Lib.hid h1
                clear h1
                go_wp2
                go_ret
                exact SaysB.no (fun h => by
                  have := h.2.2
                  rw [HLF.out, if_neg (by decide), HNK.out, HND.out] at this
                  exact H1.out this.2.2.1) hB
        · have d0 : (n != 0) = true := by simp [hn0]
          have HN0 := Lib.hid hn0
          clear hn0
          go_wp2
          go_ret
          exact SaysB.no (fun h => by
            have := h.2.2
            rw [HLF.out, if_neg (by decide), HN.out] at this
            exact HN0.out this.1) hB
      · have HNO := Lib.hid hno
        clear hno
        go_wp2_with fail
        refine (number_any n false _ ⟨fun h => absurd h (by decide), fun h => absurd h HNO.out⟩).mono ?_
        rintro e w' ⟨rfl, rfl⟩
        go_wp2
        go_ret
        exact SaysB.no (fun h => HNO.out (HN.out ▸ h.2.1)) hB
end Go.Proofs.Ytfbblgcdggpehaa

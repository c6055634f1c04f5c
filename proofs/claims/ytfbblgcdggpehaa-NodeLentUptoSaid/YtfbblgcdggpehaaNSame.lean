/- What Same answers of two nodes that are the same. Conditions: short lists. -/
import Derived.Test.YtfbblgcdggpehaaNTo
namespace Go.Proofs.Ytfbblgcdggpehaa
set_option linter.unusedSimpArgs false
set_option linter.unusedVariables false
open Go.RowKit

theorem Reads.at {w : World} {v : Value} {n : Nat} {xs : List Value} (h : Reads 1 w v n xs) (k : Nat) (hk : k < n) (u : Value) (hu : xs[k]? = some u) :
    ∃ b o c, v = .slice (some ⟨b, o, none⟩) n c ∧ b < w.heap.size ∧ n ≤ c ∧ w.cell? ⟨b, o + k, none⟩ = some u := by
  obtain ⟨ao, c, rfl, hl, hc, hr⟩ := h
  obtain ⟨b, o, rfl, hb, hcell⟩ := hr (by omega)
  exact ⟨b, o, c, rfl, hb, hc, hcell k u hu⟩

theorem Reads.shape {w : World} {v : Value} {n : Nat} {xs : List Value} (h : Reads 1 w v n xs) : ∃ a c, v = .slice a n c := by
  obtain ⟨a, c, e, _⟩ := h; exact ⟨a, c, e⟩


set_option maxRecDepth 100000 in
set_option maxHeartbeats 3200000 in
theorem same_eq (x : Nd) (ks vs ds ks2 vs2 ds2 : Value) (w : World) (hx : RefAt w ks vs ds x) (hy : RefAt w ks2 vs2 ds2 x) (hk : x.keys.length ≤ 1152921504606846976) (hv : x.vals.length ≤ 1152921504606846976) (hd : x.kids.length ≤ 1152921504606846976) (b : Bool) (n : Int) :
    Calls Try.prog 14 #[.agg #[.bool b, ks, vs, ds, .int .i64 n], .agg #[.bool b, ks2, vs2, ds2, .int .i64 n]] w fun e w' => e = .returned (.bool true) ∧ Below w.heap.size w w' := by
  obtain ⟨ka, kc, rfl⟩ := hx.keys.shape
  obtain ⟨va, vc, rfl⟩ := hx.vals.shape
  obtain ⟨da, dc, rfl⟩ := hx.kids.shape
  obtain ⟨ka2, kc2, rfl⟩ := hy.keys.shape
  obtain ⟨va2, vc2, rfl⟩ := hy.vals.shape
  obtain ⟨da2, dc2, rfl⟩ := hy.kids.shape
  have hx1 := hx.keys
  have hx2 := hx.vals
  have hx3 := hx.kids
  have hy1 := hy.keys
  have hy2 := hy.vals
  have hy3 := hy.kids
  obtain ⟨nk, hnk⟩ : ∃ nk, x.keys.length = nk := ⟨_, rfl⟩
  obtain ⟨nv, hnv⟩ : ∃ nv, x.vals.length = nv := ⟨_, rfl⟩
  obtain ⟨nd, hnd⟩ : ∃ nd, x.kids.length = nd := ⟨_, rfl⟩
  rw [hnk] at hk hx1 hy1
  rw [hnv] at hv hx2 hy2
  rw [hnd] at hd hx3 hy3
  simp only [hnk, hnv, hnd]
  obtain ⟨g, hg0⟩ : ∃ g, w.heap.size = g := ⟨_, rfl⟩
  have ba := (Box.new w #[.bool b, .slice ka nk kc, .slice va nv vc, .slice da nd dc, .int .i64 n] 38 hg0.symm).alloc (.cells #[.bool b, .slice ka2 nk kc2, .slice va2 nv vc2, .slice da2 nd dc2, .int .i64 n] 38)
  have bb := Box.new (w.alloc (.cells #[.bool b, .slice ka nk kc, .slice va nv vc, .slice da nd dc, .int .i64 n] 38)) #[.bool b, .slice ka2 nk kc2, .slice va2 nv vc2, .slice da2 nd dc2, .int .i64 n] 38 (g := g + 1) (by simp; omega)
  have hB := ((Below.refl w.heap.size w).alloc (Nat.le_refl _) (.cells #[.bool b, .slice ka nk kc, .slice va nv vc, .slice da nd dc, .int .i64 n] 38)).alloc (by simp) (.cells #[.bool b, .slice ka2 nk kc2, .slice va2 nv vc2, .slice da2 nd dc2, .int .i64 n] 38)
  have hs : ((w.alloc (.cells #[.bool b, .slice ka nk kc, .slice va nv vc, .slice da nd dc, .int .i64 n] 38)).alloc (.cells #[.bool b, .slice ka2 nk kc2, .slice va2 nv vc2, .slice da2 nd dc2, .int .i64 n] 38)).heap.size = g + 2 := by simp; omega
  have HG := Lib.hid hg0
  have HNK := Lib.hid hnk
  have HNV := Lib.hid hnv
  have HND := Lib.hid hnd
  have HX1 := Lib.hid hx1
  have HX2 := Lib.hid hx2
  have HX3 := Lib.hid hx3
  have HY1 := Lib.hid hy1
  have HY2 := Lib.hid hy2
  have HY3 := Lib.hid hy3
  have HW := Lib.hid (⟨ba, bb, hB, hs⟩ : Box ((w.alloc (.cells #[.bool b, .slice ka nk kc, .slice va nv vc, .slice da nd dc, .int .i64 n] 38)).alloc (.cells #[.bool b, .slice ka2 nk kc2, .slice va2 nv vc2, .slice da2 nd dc2, .int .i64 n] 38)) g [.bool b, .slice ka nk kc, .slice va nv vc, .slice da nd dc, .int .i64 n] ∧ Box ((w.alloc (.cells #[.bool b, .slice ka nk kc, .slice va nv vc, .slice da nd dc, .int .i64 n] 38)).alloc (.cells #[.bool b, .slice ka2 nk kc2, .slice va2 nv vc2, .slice da2 nd dc2, .int .i64 n] 38)) (g + 1) [.bool b, .slice ka2 nk kc2, .slice va2 nv vc2, .slice da2 nd dc2, .int .i64 n] ∧ Below w.heap.size w ((w.alloc (.cells #[.bool b, .slice ka nk kc, .slice va nv vc, .slice da nd dc, .int .i64 n] 38)).alloc (.cells #[.bool b, .slice ka2 nk kc2, .slice va2 nv vc2, .slice da2 nd dc2, .int .i64 n] 38)) ∧ ((w.alloc (.cells #[.bool b, .slice ka nk kc, .slice va nv vc, .slice da nd dc, .int .i64 n] 38)).alloc (.cells #[.bool b, .slice ka2 nk kc2, .slice va2 nv vc2, .slice da2 nd dc2, .int .i64 n] 38)).heap.size = g + 2)
  clear hx hy hx1 hx2 hx3 hy1 hy2 hy3 ba bb hB hs hnk hnv hnd hg0
  go_enter Try.func14, Try.ntmps14
  go_wp2_with fail
  have hgw : w.heap.size ≤ g := Nat.le_of_eq HG.out
  rw [HG.out]
  refine wp_world (fun w0 => Box w0 g [.bool b, .slice ka nk kc, .slice va nv vc, .slice da nd dc, .int .i64 n] ∧ Box w0 (g + 1) [.bool b, .slice ka2 nk kc2, .slice va2 nv vc2, .slice da2 nd dc2, .int .i64 n] ∧ Below w.heap.size w w0 ∧ w0.heap.size = g + 2) HW.out ?_
  clear HW
  rintro w0 ⟨ba, bb, hB, hs0⟩
  have hs3 : g + 2 ≤ w0.heap.size := Nat.le_of_eq hs0.symm
  clear hs0
  go_loopw [5] (fun i wr => ∃ k, k ≤ nk ∧ i = .int .i64 k ∧ Box wr g [.bool b, .slice ka nk kc, .slice va nv vc, .slice da nd dc, .int .i64 n] ∧ Box wr (g + 1) [.bool b, .slice ka2 nk kc2, .slice va2 nv vc2, .slice da2 nd dc2, .int .i64 n] ∧ Below w.heap.size w wr ∧ g + 2 ≤ wr.heap.size) (fun i _ => nk - (intOf i).toNat)
  case atStart => exact ⟨0, Nat.zero_le _, rfl, ba, bb, hB, hs3⟩
  case round =>
    clear ba bb hB hs3
    obtain ⟨k, hk, rfl, ba, bb, hB, hs3⟩ := hrel
    by_cases hlt : k < nk
    · have hkl : k < x.keys.length := by rw [HNK.out]; exact hlt
      have hu : (x.keys.map S)[k]? = some (S x.keys[k]) := by rw [List.getElem?_map, List.getElem?_eq_getElem hkl]; rfl
      generalize x.keys[k] = l at *
      obtain ⟨b1, p1, q1, e1, hb1, _, hc1⟩ := HX1.out.at k hlt _ hu
      obtain ⟨b2, p2, q2, e2, hb2, _, hc2⟩ := HY1.out.at k hlt _ hu
      have hd1 := (hB.cell (p := ⟨b1, p1 + k, none⟩) hb1).trans hc1
      have hd2 := (hB.cell (p := ⟨b2, p2 + k, none⟩) hb2).trans hc2
      have E1 := Lib.hid (Value.slice.inj e1).1
      have E2 := Lib.hid (Value.slice.inj e2).1
      clear e1 e2 hu hkl hc1 hc2
      have ca0 := ba.cell 0 _ rfl
      have ca1 := ba.cell 1 _ rfl
      have ca2 := ba.cell 2 _ rfl
      have ca3 := ba.cell 3 _ rfl
      have ca4 := ba.cell 4 _ rfl
      have fa := ba.free
      have cb0 := bb.cell 0 _ rfl
      have cb1 := bb.cell 1 _ rfl
      have cb2 := bb.cell 2 _ rfl
      have cb3 := bb.cell 3 _ rfl
      have cb4 := bb.cell 4 _ rfl
      have fb := bb.free
      simp only [S] at hd1 hd2
      have ca1q := ca1
      have cb1q := cb1
      rw [E1.out] at ca1
      rw [E2.out] at cb1
      clear ca1q cb1q
      go_wp2_with fail
      go_quiet (fail)
      go_wp2
      have hq := below_dn (Below.refl wr.heap.size wr) nq
      go_roundw
      case rel => exact ⟨k + 1, by omega, by go_num, ba.below hq (Nat.le_refl _), bb.below hq (Nat.le_refl _), hB.trans (hq.mono (by omega)), by have := hq.size; omega⟩
      case measure => simp [intOf]; omega
    · obtain rfl : nk = k := by omega
      have ca0 := ba.cell 0 _ rfl
      have ca1 := ba.cell 1 _ rfl
      have ca2 := ba.cell 2 _ rfl
      have ca3 := ba.cell 3 _ rfl
      have ca4 := ba.cell 4 _ rfl
      have fa := ba.free
      have cb0 := bb.cell 0 _ rfl
      have cb1 := bb.cell 1 _ rfl
      have cb2 := bb.cell 2 _ rfl
      have cb3 := bb.cell 3 _ rfl
      have cb4 := bb.cell 4 _ rfl
      have fb := bb.free
      go_wp2_with fail
      clear ca0 ca1 ca2 ca3 ca4 fa
      clear cb0 cb1 cb2 cb3 cb4 fb
      clear hk hlt
      go_loopw [6] (fun i wr => ∃ k, k ≤ nv ∧ i = .int .i64 k ∧ Box wr g [.bool b, .slice ka nk kc, .slice va nv vc, .slice da nd dc, .int .i64 n] ∧ Box wr (g + 1) [.bool b, .slice ka2 nk kc2, .slice va2 nv vc2, .slice da2 nd dc2, .int .i64 n] ∧ Below w.heap.size w wr ∧ g + 2 ≤ wr.heap.size) (fun i _ => nv - (intOf i).toNat)
      case atStart => exact ⟨0, Nat.zero_le _, rfl, ba, bb, hB, hs3⟩
      case round =>
        clear ba bb hB hs3
        obtain ⟨k, hk, rfl, ba, bb, hB, hs3⟩ := hrel
        by_cases hlt : k < nv
        · have hkl : k < x.vals.length := by rw [HNV.out]; exact hlt
          have hu : (x.vals.map S)[k]? = some (S x.vals[k]) := by rw [List.getElem?_map, List.getElem?_eq_getElem hkl]; rfl
          generalize x.vals[k] = l at *
          obtain ⟨b1, p1, q1, e1, hb1, _, hc1⟩ := HX2.out.at k hlt _ hu
          obtain ⟨b2, p2, q2, e2, hb2, _, hc2⟩ := HY2.out.at k hlt _ hu
          have hd1 := (hB.cell (p := ⟨b1, p1 + k, none⟩) hb1).trans hc1
          have hd2 := (hB.cell (p := ⟨b2, p2 + k, none⟩) hb2).trans hc2
          have E1 := Lib.hid (Value.slice.inj e1).1
          have E2 := Lib.hid (Value.slice.inj e2).1
          clear e1 e2 hu hkl hc1 hc2
          have ca0 := ba.cell 0 _ rfl
          have ca1 := ba.cell 1 _ rfl
          have ca2 := ba.cell 2 _ rfl
          have ca3 := ba.cell 3 _ rfl
          have ca4 := ba.cell 4 _ rfl
          have fa := ba.free
          have cb0 := bb.cell 0 _ rfl
          have cb1 := bb.cell 1 _ rfl
          have cb2 := bb.cell 2 _ rfl
          have cb3 := bb.cell 3 _ rfl
          have cb4 := bb.cell 4 _ rfl
          have fb := bb.free
          simp only [S] at hd1 hd2
          have ca2q := ca2
          have cb2q := cb2
          rw [E1.out] at ca2
          rw [E2.out] at cb2
          clear ca2q cb2q
          go_wp2_with fail
          go_quiet (fail)
          go_wp2
          have hq := below_dn (Below.refl wr.heap.size wr) nq
          go_roundw
          case rel => exact ⟨k + 1, by omega, by go_num, ba.below hq (Nat.le_refl _), bb.below hq (Nat.le_refl _), hB.trans (hq.mono (by omega)), by have := hq.size; omega⟩
          case measure => simp [intOf]; omega
        · obtain rfl : nv = k := by omega
          have ca0 := ba.cell 0 _ rfl
          have ca1 := ba.cell 1 _ rfl
          have ca2 := ba.cell 2 _ rfl
          have ca3 := ba.cell 3 _ rfl
          have ca4 := ba.cell 4 _ rfl
          have fa := ba.free
          have cb0 := bb.cell 0 _ rfl
          have cb1 := bb.cell 1 _ rfl
          have cb2 := bb.cell 2 _ rfl
          have cb3 := bb.cell 3 _ rfl
          have cb4 := bb.cell 4 _ rfl
          have fb := bb.free
          go_wp2_with fail
          clear ca0 ca1 ca2 ca3 ca4 fa
          clear cb0 cb1 cb2 cb3 cb4 fb
          clear hk hlt
          go_loopw [7] (fun i wr => ∃ k, k ≤ nd ∧ i = .int .i64 k ∧ Box wr g [.bool b, .slice ka nk kc, .slice va nv vc, .slice da nd dc, .int .i64 n] ∧ Box wr (g + 1) [.bool b, .slice ka2 nk kc2, .slice va2 nv vc2, .slice da2 nd dc2, .int .i64 n] ∧ Below w.heap.size w wr ∧ g + 2 ≤ wr.heap.size) (fun i _ => nd - (intOf i).toNat)
          case atStart => exact ⟨0, Nat.zero_le _, rfl, ba, bb, hB, hs3⟩
          case round =>
            clear ba bb hB hs3
            obtain ⟨k, hk, rfl, ba, bb, hB, hs3⟩ := hrel
            by_cases hlt : k < nd
            · have hkl : k < x.kids.length := by rw [HND.out]; exact hlt
              have hu : (x.kids.map I)[k]? = some (I x.kids[k]) := by rw [List.getElem?_map, List.getElem?_eq_getElem hkl]; rfl
              generalize x.kids[k] = l at *
              obtain ⟨b1, p1, q1, e1, hb1, _, hc1⟩ := HX3.out.at k hlt _ hu
              obtain ⟨b2, p2, q2, e2, hb2, _, hc2⟩ := HY3.out.at k hlt _ hu
              have hd1 := (hB.cell (p := ⟨b1, p1 + k, none⟩) hb1).trans hc1
              have hd2 := (hB.cell (p := ⟨b2, p2 + k, none⟩) hb2).trans hc2
              have E1 := Lib.hid (Value.slice.inj e1).1
              have E2 := Lib.hid (Value.slice.inj e2).1
              clear e1 e2 hu hkl hc1 hc2
              have ca0 := ba.cell 0 _ rfl
              have ca1 := ba.cell 1 _ rfl
              have ca2 := ba.cell 2 _ rfl
              have ca3 := ba.cell 3 _ rfl
              have ca4 := ba.cell 4 _ rfl
              have fa := ba.free
              have cb0 := bb.cell 0 _ rfl
              have cb1 := bb.cell 1 _ rfl
              have cb2 := bb.cell 2 _ rfl
              have cb3 := bb.cell 3 _ rfl
              have cb4 := bb.cell 4 _ rfl
              have fb := bb.free
              simp only [I] at hd1 hd2
              have ca3q := ca3
              have cb3q := cb3
              rw [E1.out] at ca3
              rw [E2.out] at cb3
              clear ca3q cb3q
              go_wp2_with fail
              go_quiet (fail)
              go_wp2
              have hq := below_dn (Below.refl wr.heap.size wr) nq
              go_roundw
              case rel => exact ⟨k + 1, by omega, by go_num, ba.below hq (Nat.le_refl _), bb.below hq (Nat.le_refl _), hB.trans (hq.mono (by omega)), by have := hq.size; omega⟩
              case measure => simp [intOf]; omega
            · obtain rfl : nd = k := by omega
              have ca0 := ba.cell 0 _ rfl
              have ca1 := ba.cell 1 _ rfl
              have ca2 := ba.cell 2 _ rfl
              have ca3 := ba.cell 3 _ rfl
              have ca4 := ba.cell 4 _ rfl
              have fa := ba.free
              have cb0 := bb.cell 0 _ rfl
              have cb1 := bb.cell 1 _ rfl
              have cb2 := bb.cell 2 _ rfl
              have cb3 := bb.cell 3 _ rfl
              have cb4 := bb.cell 4 _ rfl
              have fb := bb.free
              go_wp2
              go_ret
              exact ⟨rfl, hB⟩
end Go.Proofs.Ytfbblgcdggpehaa

/- What node.Put answers at a leaf without the key. Conditions: short lists. -/
import Derived.Test.YtfbblgcdggpehaaNPutL
import Derived.Deep.DeepCutAuto
namespace Go.Proofs.Ytfbblgcdggpehaa
set_option linter.unusedSimpArgs false
set_option linter.unusedVariables false
open Go.RowKit

def WPn9 (W0 : World) (g nk nv nd p kl kc : Nat) (nx : Int) (ak av ad ka : Option Addr) (k : List UInt8) (j b o : Nat) : Prop := False
def PPn9 (W0 : World) (g nk nv nd p kl kc : Nat) (nx : Int) (ak av ad ka : Option Addr) (k : List UInt8) (i : Nat) (v : Value) (lo hi : Nat) (w : World) : Prop :=
  match i with
  | 0 => v = .pointer (some ⟨g, 1, none⟩)
  | 1 => v = .slice ak nk nk
  | 2 => v = .int .i64 (p : Nat)
  | 3 => v = .slice ka kl kc
  | 4 => ∃ ao c, v = .slice ao kl c ∧ kl ≤ c ∧ Kept (fun q => q < W0.heap.size) w (fun w2 => w2.ownsRow W0.heap.size 5 1 (.slice ao kl c) kl (k.map B))
  | 5 => ∃ ao c, v = .slice ao kl kl ∧ Kept (fun q => q < W0.heap.size) w (fun w2 => w2.ownsRow W0.heap.size 5 1 (.slice ao kl c) kl (k.map B))
  | 6 => v = .slice (some ⟨lo, 0, none⟩) 1 1 ∧ W0.heap.size ≤ lo ∧ lo < w.heap.size ∧ ∃ ao c, w.cell? ⟨lo, 0, none⟩ = some (.slice ao kl kl) ∧ Kept (fun q => q < W0.heap.size) w (fun w2 => w2.ownsRow W0.heap.size 5 1 (.slice ao kl c) kl (k.map B))
  | _ => True
theorem PPn9_stable (W0 : World) (g nk nv nd p kl kc : Nat) (nx : Int) (ak av ad ka : Option Addr) (k : List UInt8)  : ∀ i j, i < 7 → j < 7 → j ≠ i → j ∉ ([[], [0], [], [], [3], [3, 4], [3, 4, 5]] : List (List Nat)).getD i [] → ∀ v lo hi w w', PPn9 W0 g nk nv nd p kl kc nx ak av ad ka k i v lo hi w → GrowC (WPn9 W0 g nk nv nd p kl kc nx ak av ad ka k j) w w' → PPn9 W0 g nk nv nd p kl kc nx ak av ad ka k i v lo hi w' := by
  intro i j hi hj hne hbs v lo hj2 w w' h hg
  match i, hi with
  | 0, _ =>
    simp only [PPn9] at h ⊢
    exact h
  | 1, _ =>
    simp only [PPn9] at h ⊢
    exact h
  | 2, _ =>
    simp only [PPn9] at h ⊢
    exact h
  | 3, _ =>
    simp only [PPn9] at h ⊢
    exact h
  | 4, _ =>
    simp only [PPn9] at h ⊢
    obtain ⟨ao, c, h1, h2, h3⟩ := h
    exact ⟨ao, c, h1, h2, h3.grow (GrowX.of_growC hg (fun k i hw => False.elim hw))⟩
  | 5, _ =>
    simp only [PPn9] at h ⊢
    obtain ⟨ao, c, h1, h2⟩ := h
    exact ⟨ao, c, h1, h2.grow (GrowX.of_growC hg (fun k i hw => False.elim hw))⟩
  | 6, _ =>
    simp only [PPn9] at h ⊢
    obtain ⟨h1, h2, h3, ao, c, h4, h5⟩ := h
    exact ⟨h1, h2, Nat.lt_of_lt_of_le h3 hg.size, ao, c, (hg.cell _ _ h3 (fun hw => hw)).trans h4, h5.grow (GrowX.of_growC hg (fun k i hw => False.elim hw))⟩
  | (q + 7), hq => exact absurd hq (by omega)

set_option maxRecDepth 100000 in
set_option maxHeartbeats 6400000 in
theorem put_new (x : Nd) (hsm : x.small) (hlf : x.leaf = true) (ks vs ds : Value) (k v : List UInt8) (hft : x.fits = true) (hhas : fhas x.keys k = false) (kv vv : Value) (w : World) (hx : NodeAt w ks vs ds x) (hk : Reads 1 w kv k.length (k.map B)) (hv : Reads 1 w vv v.length (v.map B)) (hkl : k.length ≤ 1048576) (hvl : v.length ≤ 1048576) :
    Calls Try.prog 20 #[.agg #[.bool x.leaf, ks, vs, ds, .int .i64 x.next], kv, vv] w fun e w' => ∃ r, e = .returned r ∧ NodeEnd (x.put k v) w w' r := by
  have hput : x.put k v = ⟨x.leaf, x.keys.take (fpos x.keys k) ++ k :: x.keys.drop (fpos x.keys k), x.vals.take (fpos x.keys k) ++ v :: x.vals.drop (fpos x.keys k), x.kids, x.next⟩ := by unfold Nd.put; rw [if_pos (by rw [hlf, hft]; rfl), if_neg (by rw [hhas]; decide)]
  have HPUT := Lib.hid hput
  clear hput
  obtain ⟨ka, kc, rfl⟩ := hk.shape
  obtain ⟨va, vc, rfl⟩ := hv.shape
  obtain ⟨kl, hkl2⟩ : ∃ q, k.length = q := ⟨_, rfl⟩
  obtain ⟨vl, hvl2⟩ : ∃ q, v.length = q := ⟨_, rfl⟩
  rw [hkl2] at hk hkl ⊢
  rw [hvl2] at hv hvl ⊢
  have HKL := Lib.hid hkl2
  have HVL := Lib.hid hvl2
  have HKR := Lib.hid hk
  have HVR := Lib.hid hv
  clear hk hv hkl2 hvl2
  have hvk : x.vals.length = x.keys.length ∧ x.kids.length = 0 := by
    have := hft
    unfold Nd.fits fitsB at this
    rw [hlf] at this
    simpa using this
  have HFT := Lib.hid hft
  have HH := Lib.hid hhas
  obtain ⟨p, hp⟩ : ∃ p, fpos x.keys k = p := ⟨_, rfl⟩
  have hple : p ≤ x.keys.length := hp ▸ fpos_le x.keys k
  have HVK := Lib.hid hvk
  have HPL := Lib.hid hple
  have HPP := Lib.hid hp
  clear hft hhas hvk hple hp
  obtain ⟨o1, o2, o3⟩ := hx.one
  obtain ⟨nk, hnk⟩ : ∃ nk, x.keys.length = nk := ⟨_, rfl⟩
  obtain ⟨nv, hnv⟩ : ∃ nv, x.vals.length = nv := ⟨_, rfl⟩
  obtain ⟨nd, hnd⟩ : ∃ nd, x.kids.length = nd := ⟨_, rfl⟩
  obtain ⟨nx, hnx⟩ : ∃ nx, x.next = nx := ⟨_, rfl⟩
  have hkm : nk ≤ 1048576 := hnk ▸ hsm.keys
  have hvm : nv ≤ 1048576 := hnv ▸ hsm.vals
  have hdm : nd ≤ 1048577 := hnd ▸ hsm.kids
  rw [hlf, hnx]
  obtain ⟨g, hg0⟩ : ∃ g, w.heap.size = g := ⟨_, rfl⟩
  have ba := (Box.new w #[.bool true, ks, vs, ds, .int .i64 nx] 25 hg0.symm).alloc (.cells #[.bool false, .slice none 0 0, .slice none 0 0, .slice none 0 0, .int .i64 0] 25)
  have bz : Box _ _ [.bool false, .slice none 0 0, .slice none 0 0, .slice none 0 0, .int .i64 0] := Box.new (w.alloc (.cells #[.bool true, ks, vs, ds, .int .i64 nx] 25)) #[.bool false, .slice none 0 0, .slice none 0 0, .slice none 0 0, .int .i64 0] 25 (g := g + 1) (by simp; omega)
  have hB := ((Below.refl w.heap.size w).alloc (Nat.le_refl _) (.cells #[.bool true, ks, vs, ds, .int .i64 nx] 25)).alloc (by simp) (.cells #[.bool false, .slice none 0 0, .slice none 0 0, .slice none 0 0, .int .i64 0] 25)
  have HG := Lib.hid hg0
  have hx2 := hx.below hB (Nat.le_refl _)
  have hs2 : ((w.alloc (.cells #[.bool true, ks, vs, ds, .int .i64 nx] 25)).alloc (.cells #[.bool false, .slice none 0 0, .slice none 0 0, .slice none 0 0, .int .i64 0] 25)).heap.size = g + 2 := by simp; omega
  have HW := Lib.hid (And.intro ba (And.intro bz (And.intro hB (And.intro hx2 hs2))))
  have HNK := Lib.hid hnk
  have HNV := Lib.hid hnv
  have HND := Lib.hid hnd
  have HNX := Lib.hid hnx
  have HLF := Lib.hid hlf
  clear hx ba bz hB hg0 hx2 hs2 hnk hnv hnd hnx hlf
  go_enter Try.func20, Try.ntmps20
  go_wp2_with fail
  rw [HG.out]
  have hgw : w.heap.size ≤ g := Nat.le_of_eq HG.out
  refine calls_world (fun u => Box u g [.bool true, ks, vs, ds, .int .i64 nx] ∧ Box u (g + 1) [.bool false, .slice none 0 0, .slice none 0 0, .slice none 0 0, .int .i64 0] ∧ Below w.heap.size w u ∧ NodeAt u ks vs ds x ∧ u.heap.size = g + 2) HW.out ?_
  clear HW
  rintro w0 ⟨ba, bz, hB, hx, hs0⟩
  refine (copied_b x ks vs ds w0 hx hsm.ok true nx nk nv nd HLF.out HNX.out HNK.out HNV.out HND.out).mono ?_
  rintro e w1 ⟨ak, ck, xk, av, cv, xv, ad, rfl, hdo, hkd, hb1⟩
  rw [hs0] at hdo hkd
  replace ba := ba.below hb1 (Nat.le_refl _)
  replace bz := bz.below hb1 (Nat.le_refl _)
  have hs1 : g + 2 ≤ w1.heap.size := by have := hb1.size; omega
  replace hB := hB.trans (hb1.mono (by omega))
  have hst := ba.set5 (.bool true) (.slice ak nk nk) (.slice av nv nv) (.slice ad nd nd) (.int .i64 nx)
  have hgx := GrowX.of_growC (Y := fun q => q < g + 2) hst.2 (fun q i e => by omega)
  have HW := Lib.hid (And.intro hst.1 (And.intro (bz.grow hst.2 (by intros; omega)) (And.intro (hB.trans (hst.2.below (fun k hk => ⟨by omega, fun _ => by omega⟩))) (And.intro (hdo.grow hgx) (And.intro (hkd.grow hgx) (Nat.le_trans hs1 hst.2.size))))))
  clear hb1 hx hs0 hst hgx hdo hkd hB
  have ca0 := ba.cell 0 _ rfl
  have ca1 := ba.cell 1 _ rfl
  have ca2 := ba.cell 2 _ rfl
  have ca3 := ba.cell 3 _ rfl
  have ca4 := ba.cell 4 _ rfl
  have fa := ba.free
  go_upto_region 2 with (fail)
  clear ca0 ca1 ca2 ca3 ca4 fa
  clear ba bz hs1
  refine wp_world (fun u => Box u g [.bool true, .slice ak nk nk, .slice av nv nv, .slice ad nd nd, .int .i64 nx] ∧ Box u (g + 1) [.bool false, .slice none 0 0, .slice none 0 0, .slice none 0 0, .int .i64 0] ∧ Below w.heap.size w u ∧ DO (g + 2) u (.slice ak nk ck) (.slice av nv cv) x.keys xk x.vals xv ∧ Kept (fun k => k < g + 2) u (fun w2 => Reads 1 w2 (.slice ad nd nd) nd (x.kids.map I) ∧ NewS (g + 2) w2 (.slice ad nd nd)) ∧ g + 2 ≤ u.heap.size) HW.out ?_
  clear HW
  rintro w2 ⟨ba, bz, hB, hdo, hkd, hs2⟩
  have hpk : p ≤ nk := by rw [← HNK.out]; exact HPL.out
  have hnv : nv = nk := by have := HVK.out.1; rw [HNV.out, HNK.out] at this; exact this
  have hnd : nd = 0 := by have := HVK.out.2; rw [HND.out] at this; exact this
  have HNVK := Lib.hid hnv
  have HND0 := Lib.hid hnd
  clear hnv hnd
  have ca0 := ba.cell 0 _ rfl
  have ca1 := ba.cell 1 _ rfl
  have ca2 := ba.cell 2 _ rfl
  have ca3 := ba.cell 3 _ rfl
  have ca4 := ba.cell 4 _ rfl
  have fa := ba.free
  go_wp2_with fail
  clear ca0 ca1 ca2 ca3 ca4 fa
  have hno := (hdo.at HNK.out HNV.out HND.out hkd).now.node
  refine (fits_b x _ _ _ w2 hno hsm.ok true true nx HLF.out HNX.out HFT.out).mono ?_
  rintro e w3 ⟨rfl, hb3⟩
  replace ba := ba.below hb3 (Nat.le_refl _)
  replace bz := bz.below hb3 (Nat.le_refl _)
  replace hB := hB.trans (hb3.mono (by omega))
  replace hdo := hdo.grow (GrowX.of_grow hb3)
  replace hkd := hkd.grow (GrowX.of_grow hb3)
  replace hs2 := Nat.le_trans hs2 hb3.size
  clear hno hb3
  have ca0 := ba.cell 0 _ rfl
  have ca1 := ba.cell 1 _ rfl
  have ca2 := ba.cell 2 _ rfl
  have ca3 := ba.cell 3 _ rfl
  have ca4 := ba.cell 4 _ rfl
  have fa := ba.free
  go_wp2_with fail
  clear ca0 ca1 ca2 ca3 ca4 fa
  have hno := (hdo.at HNK.out HNV.out HND.out hkd).now.node
  refine (find_any x.keys true nx (.slice ak nk nk) (.slice av nv nv) (.slice ad nd nd) (.slice ka kl kc) rfl rfl k kl w3 hno.keys (HKR.out.below hB (Nat.le_refl _)) (by rw [HNK.out]; omega)).mono ?_
  rintro e w4 ⟨rfl, hb4⟩
  rw [HPP.out, HH.out]
  replace ba := ba.below hb4 (Nat.le_refl _)
  replace bz := bz.below hb4 (Nat.le_refl _)
  replace hB := hB.trans (hb4.mono (by omega))
  replace hdo := hdo.grow (GrowX.of_grow hb4)
  replace hkd := hkd.grow (GrowX.of_grow hb4)
  replace hs2 := Nat.le_trans hs2 hb4.size
  clear hno hb4
  have ca0 := ba.cell 0 _ rfl
  have ca1 := ba.cell 1 _ rfl
  have ca2 := ba.cell 2 _ rfl
  have ca3 := ba.cell 3 _ rfl
  have ca4 := ba.cell 4 _ rfl
  have fa := ba.free
  go_wp2_with fail
  clear ca0 ca1 ca2 ca3 ca4 fa
  refine (cloneB_own _ vl _ w4 (HVR.out.below hB (Nat.le_refl _)) (Bs_one _) (by omega)).mono ?_
  rintro e w5 ⟨a1, c1, rfl, hc1, ho1, hb5⟩
  have hbs := hdo.beside (e := 5) HVL.out (own_kept2 ho1)
  have hbsB := hdo
  replace ba := ba.below hb5 (Nat.le_refl _)
  replace bz := bz.below hb5 (Nat.le_refl _)
  replace hB := hB.trans (hb5.mono (by omega))
  replace hdo := hdo.grow (GrowX.of_grow hb5)
  replace hkd := hkd.grow (GrowX.of_grow hb5)
  replace hs2 := Nat.le_trans hs2 hb5.size
  clear hb5 hbsB ho1
  go_wp2_with fail
  refine (clipB_any a1 vl c1 _ hc1).mono ?_
  rintro e w6 ⟨rfl, rfl⟩
  clear hc1
  replace HPUT := Lib.hid (HPUT.out.trans (by rw [HPP.out]))
  have hpv : p ≤ nv := by have := HNVK.out; omega
  have hgu : g < w6.heap.size := by omega
  have ca0 := ba.cell 0 _ rfl
  have ca1 := ba.cell 1 _ rfl
  have ca2 := ba.cell 2 _ rfl
  have ca3 := ba.cell 3 _ rfl
  have ca4 := ba.cell 4 _ rfl
  have fa := ba.free
  go_upto_region 9 with (fail)
  clear ca0 ca1 ca2 ca3 ca4 fa
  refine wp_region_partsDC (WPn9 w6 g nk nv nd p kl kc nx ak av ad ka k) 7 [[], [0], [], [], [3], [3, 4], [3, 4, 5]] [some 36, some 37, some 38, some 39, some 40, some 41, some 42, some 43, some 44, none] (by kernel_rfl) (by kernel_rfl) rfl (PPn9 w6 g nk nv nd p kl kc nx ak av ad ka k) (PPn9_stable w6 g nk nv nd p kl kc nx ak av ad ka k ) ?pPn9 ?_
  case pPn9 =>
    intro i hi o ho vs lo hx_ w' hg hp
    match i, hi with
    | 0, _ =>
      obtain rfl := Option.some.inj ho
      clear ho
      simp only [actsD, List.getD_cons_zero, List.getD_cons_succ, List.foldl_cons, List.foldl_nil, Act.put, List.setIfInBounds_toArray, List.set_cons_succ, List.set_cons_zero]
      have hsz := hg.size
      have hgB : Below w6.heap.size w6 w' := hg.below (fun k hk => ⟨hk, fun o => by rintro ⟨j, _, _, _, hw⟩; exact False.elim hw⟩)
      go_wp2
      exact ⟨_, rfl, GrowC.refl _, rfl⟩
    | 1, _ =>
      obtain rfl := Option.some.inj ho
      clear ho
      simp only [actsD, List.getD_cons_zero, List.getD_cons_succ, List.foldl_cons, List.foldl_nil, Act.put, List.setIfInBounds_toArray, List.set_cons_succ, List.set_cons_zero]
      obtain ⟨_, _, _, h0⟩ := hp 0 (by simp)
      simp only [PPn9] at h0
      have hsz := hg.size
      have hgB : Below w6.heap.size w6 w' := hg.below (fun k hk => ⟨hk, fun o => by rintro ⟨j, _, _, _, hw⟩; exact False.elim hw⟩)
      rw [h0]
      have e0 := (hg.cell (g) 1 ba.lt (by rintro ⟨j, _, hne, hb, hw⟩; exact False.elim hw)).trans (ba.cell 1 _ rfl)
      go_wp2
      exact ⟨_, rfl, GrowC.refl _, rfl⟩
    | 2, _ =>
      obtain rfl := Option.some.inj ho
      clear ho
      simp only [actsD, List.getD_cons_zero, List.getD_cons_succ, List.foldl_cons, List.foldl_nil, Act.put, List.setIfInBounds_toArray, List.set_cons_succ, List.set_cons_zero]
      have hsz := hg.size
      have hgB : Below w6.heap.size w6 w' := hg.below (fun k hk => ⟨hk, fun o => by rintro ⟨j, _, _, _, hw⟩; exact False.elim hw⟩)
      go_wp2
      exact ⟨_, rfl, GrowC.refl _, rfl⟩
    | 3, _ =>
      obtain rfl := Option.some.inj ho
      clear ho
      simp only [actsD, List.getD_cons_zero, List.getD_cons_succ, List.foldl_cons, List.foldl_nil, Act.put, List.setIfInBounds_toArray, List.set_cons_succ, List.set_cons_zero]
      have hsz := hg.size
      have hgB : Below w6.heap.size w6 w' := hg.below (fun k hk => ⟨hk, fun o => by rintro ⟨j, _, _, _, hw⟩; exact False.elim hw⟩)
      go_wp2
      exact ⟨_, rfl, GrowC.refl _, rfl⟩
    | 4, _ =>
      obtain rfl := Option.some.inj ho
      clear ho
      simp only [actsD, List.getD_cons_zero, List.getD_cons_succ, List.foldl_cons, List.foldl_nil, Act.put, List.setIfInBounds_toArray, List.set_cons_succ, List.set_cons_zero]
      obtain ⟨_, _, _, h3⟩ := hp 3 (by simp)
      simp only [PPn9] at h3
      have hsz := hg.size
      have hgB : Below w6.heap.size w6 w' := hg.below (fun k hk => ⟨hk, fun o => by rintro ⟨j, _, _, _, hw⟩; exact False.elim hw⟩)
      rw [h3]
      go_wp2_with fail
      refine (cloneB_own _ kl _ w' (HKR.out.below (hB.trans (hgB.mono (by have := hB.size; omega))) (Nat.le_refl _)) (Bs_one _) (by omega)).mono ?_
      rintro e wz ⟨ao, c, rfl, hc, ho, hb⟩
      go_wp2
      exact ⟨_, rfl, GrowC.of_grow hb, ao, c, rfl, hc, own_kept2 (own_base ho (by omega))⟩
    | 5, _ =>
      obtain rfl := Option.some.inj ho
      clear ho
      simp only [actsD, List.getD_cons_zero, List.getD_cons_succ, List.foldl_cons, List.foldl_nil, Act.put, List.setIfInBounds_toArray, List.set_cons_succ, List.set_cons_zero]
      obtain ⟨_, _, _, h4⟩ := hp 4 (by simp)
      simp only [PPn9] at h4
      have hsz := hg.size
      have hgB : Below w6.heap.size w6 w' := hg.below (fun k hk => ⟨hk, fun o => by rintro ⟨j, _, _, _, hw⟩; exact False.elim hw⟩)
      obtain ⟨ao, c, h4, hc4, hk4⟩ := h4
      rw [h4]
      go_wp2_with fail
      refine (clipB_any ao kl c _ hc4).mono ?_
      rintro e wz ⟨rfl, rfl⟩
      go_wp2
      exact ⟨_, rfl, GrowC.refl _, ao, c, rfl, hk4⟩
    | 6, _ =>
      obtain rfl := Option.some.inj ho
      clear ho
      simp only [actsD, List.getD_cons_zero, List.getD_cons_succ, List.foldl_cons, List.foldl_nil, Act.put, List.setIfInBounds_toArray, List.set_cons_succ, List.set_cons_zero]
      obtain ⟨_, _, _, h5⟩ := hp 5 (by simp)
      simp only [PPn9] at h5
      have hsz := hg.size
      have hgB : Below w6.heap.size w6 w' := hg.below (fun k hk => ⟨hk, fun o => by rintro ⟨j, _, _, _, hw⟩; exact False.elim hw⟩)
      obtain ⟨ao, c, h5, hk5⟩ := h5
      rw [h5]
      have hbx := Box.new w' #[.slice ao kl kl] 28 rfl
      go_wp2
      exact ⟨_, rfl, GrowC.of_grow ((Grow.refl _).alloc _), rfl, by omega, by simp, ao, c, hbx.cell 0 _ rfl, hk5.grow (GrowX.of_grow ((Grow.refl _).alloc _))⟩
    | (q + 7), hq => exact absurd hq (by omega)
  intro vS lo hi w7 hg hp hd
  obtain ⟨_, _, _, h0⟩ := hp 0 (by omega)
  obtain ⟨_, _, _, h1⟩ := hp 1 (by omega)
  obtain ⟨_, _, _, h2⟩ := hp 2 (by omega)
  obtain ⟨_, _, _, h3⟩ := hp 3 (by omega)
  obtain ⟨_, _, _, h4⟩ := hp 4 (by omega)
  obtain ⟨_, _, _, h5⟩ := hp 5 (by omega)
  obtain ⟨_, _, _, h6⟩ := hp 6 (by omega)
  simp only [PPn9] at h0 h1 h2 h3 h4 h5 h6
  clear hp hd
  have hsz := hg.size
  replace ba := ba.grow hg (by intro i _; rintro ⟨j, _, hw⟩; exact False.elim hw)
  replace hB := hB.trans (hg.below (fun k hk => ⟨by omega, fun o => by rintro ⟨j, _, hw⟩; exact False.elim hw⟩))
  have hr : List.range 7 = [0, 1, 2, 3, 4, 5, 6] := rfl
  rw [hr]
  clear hr
  simp only [List.drop_succ_cons, List.drop_zero, List.drop_nil, actsD, List.getD_cons_zero, List.getD_cons_succ, List.foldl_cons, List.foldl_nil, Act.put, List.setIfInBounds_toArray, List.set_cons_succ, List.set_cons_zero, h0, h1, h2, h3]
  clear h0 h1 h2 h3
  obtain ⟨e6, hge6, hlt6, a2, c2, hc6, hk6⟩ := h6
  simp only [e6]
  have hg7 : Grow w6 w7 := hg.below (fun k hk => ⟨hk, fun o => by rintro ⟨j, _, hw⟩; exact hw⟩)
  have hbsk := hdo.beside (u' := w7) (e := 5) HKL.out hk6
  replace bz := bz.below hg7 (Nat.le_refl _)
  replace hdo := hdo.grow (GrowX.of_grow hg7)
  have hbsv := hbs.grow (GrowX.of_grow hg7)
  have hs3 := Nat.le_trans hs2 hg7.size
  have hda := hdo.a
  rw [HNK.out] at hda
  clear hk6 h4 h5 hg hkd hbs hg7
  go_wp2_with fail
  refine (insert_any xk _ ak nk p _ w7 (Reads.of_own hda).tight (hdo.t.now.1.one_cell) rfl hc6 hlt6 hpk (by omega)).mono ?_
  rintro e w8 ⟨g1, c8, rfl, hg8, hown8⟩
  have hbsv8 := hbsv.grow (GrowX.of_grow hg8)
  replace hdo := hdo.insA hg8 HNK.out hpk hown8 hbsk
  replace ba := ba.below hg8 (Nat.le_refl _)
  replace bz := bz.below hg8 (Nat.le_refl _)
  replace hB := hB.trans (hg8.mono (by omega))
  replace hs3 := Nat.le_trans hs3 hg8.size
  have hst := ba.set1 1 (.slice (some ⟨g1, 0, none⟩) (nk + 1) c8)
  have hgx := GrowX.of_growC (Y := fun q => q < g + 2) hst.2 (fun q i e => by have := e.1; omega)
  have h1n : w7.heap.size ≤ g1 := (hown8.lt g1 rfl).1
  have hbsv9 := (XR.turnA (n := nk + 1) (c := c8) hbsv hg8 h1n).grow (hgx.mono (fun k hk => .inl hk))
  have HW := Lib.hid (And.intro hst.1 (And.intro (bz.grow hst.2 (by intros; omega)) (And.intro (hB.trans (hst.2.below (fun k hk => ⟨by omega, fun _ => by omega⟩))) (And.intro (hdo.grow hgx) (And.intro hbsv9 (Nat.le_trans hs3 hst.2.size))))))
  clear hbsk hbsv hbsv8 hda hown8 hg8 hdo hB hst hgx h1n hbsv9 hc6 hlt6 hge6 hsz hs2
  have ca0 := ba.cell 0 _ rfl
  have ca1 := ba.cell 1 _ rfl
  have ca2 := ba.cell 2 _ rfl
  have ca3 := ba.cell 3 _ rfl
  have ca4 := ba.cell 4 _ rfl
  have fa := ba.free
  go_upto_region 10 with (fail)
  clear ca0 ca1 ca2 ca3 ca4 fa
  clear ba bz hs3
  refine wp_world (fun u => Box u g [.bool true, .slice (some ⟨g1, 0, none⟩) (nk + 1) c8, .slice av nv nv, .slice ad nd nd, .int .i64 nx] ∧ Box u (g + 1) [.bool false, .slice none 0 0, .slice none 0 0, .slice none 0 0, .int .i64 0] ∧ Below w.heap.size w u ∧ DO (g + 2) u (.slice (some ⟨g1, 0, none⟩) (nk + 1) c8) (.slice av nv cv) (x.keys.take p ++ k :: x.keys.drop p) (xk.take p ++ .slice a2 kl kl :: xk.drop p) x.vals xv ∧
    Kept (XR (g + 2) (.slice (some ⟨g1, 0, none⟩) (nk + 1) c8) (.slice av nv cv)) u (fun w2 => Reads 1 w2 (.slice a1 vl vl) v.length (v.map B) ∧ NewS (g + 2) w2 (.slice a1 vl vl)) ∧ g + 2 ≤ u.heap.size) HW.out ?_
  clear HW
  rintro w9 ⟨ba, bz, hB, hdo, hbsv, hs3⟩
  have hgr := (Grow.refl w9).alloc (.cells #[.slice a1 vl vl] 28)
  have hnb := Box.new w9 #[.slice a1 vl vl] 28 rfl
  have hnc := hnb.cell 0 _ rfl
  have HW := Lib.hid (And.intro (ba.below hgr (Nat.le_refl _)) (And.intro (bz.below hgr (Nat.le_refl _)) (And.intro (hB.trans (hgr.mono (by omega))) (And.intro (hdo.grow (GrowX.of_grow hgr)) (And.intro (hbsv.grow (GrowX.of_grow hgr)) (And.intro hnc (And.intro hnb.lt hs3)))))))
  obtain ⟨q9, hq9⟩ : ∃ q, w9.heap.size = q := ⟨_, rfl⟩
  rw [hq9] at HW hs3
  have HQ9 := Lib.hid hq9
  clear hgr hnb hnc hB hdo hbsv hq9
  have ca0 := ba.cell 0 _ rfl
  have ca1 := ba.cell 1 _ rfl
  have ca2 := ba.cell 2 _ rfl
  have ca3 := ba.cell 3 _ rfl
  have ca4 := ba.cell 4 _ rfl
  have fa := ba.free
  go_wp2_with fail
  clear ca0 ca1 ca2 ca3 ca4 fa
  clear ba bz
  rw [HQ9.out]
  refine calls_world (fun u => Box u g [.bool true, .slice (some ⟨g1, 0, none⟩) (nk + 1) c8, .slice av nv nv, .slice ad nd nd, .int .i64 nx] ∧ Box u (g + 1) [.bool false, .slice none 0 0, .slice none 0 0, .slice none 0 0, .int .i64 0] ∧ Below w.heap.size w u ∧ DO (g + 2) u (.slice (some ⟨g1, 0, none⟩) (nk + 1) c8) (.slice av nv cv) (x.keys.take p ++ k :: x.keys.drop p) (xk.take p ++ .slice a2 kl kl :: xk.drop p) x.vals xv ∧
    Kept (XR (g + 2) (.slice (some ⟨g1, 0, none⟩) (nk + 1) c8) (.slice av nv cv)) u (fun w2 => Reads 1 w2 (.slice a1 vl vl) v.length (v.map B) ∧ NewS (g + 2) w2 (.slice a1 vl vl)) ∧ u.cell? ⟨q9, 0, none⟩ = some (.slice a1 vl vl) ∧ q9 < u.heap.size ∧ g + 2 ≤ q9) HW.out ?_
  clear HW
  rintro w10 ⟨ba, bz, hB, hdo, hbsv, hnc, hnl, hs10⟩
  have hdb := hdo.b
  rw [HNV.out] at hdb
  refine (insert_any xv _ av nv p q9 w10 (Reads.of_own hdb).tight (hdo.t.now.2.one_cell) rfl hnc hnl hpv (by have := HNVK.out; omega)).mono ?_
  rintro e w11 ⟨g2, c9, rfl, hg11, hown11⟩
  replace hdo := hdo.insB hg11 HNV.out hpv hown11 hbsv
  replace ba := ba.below hg11 (Nat.le_refl _)
  replace bz := bz.below hg11 (Nat.le_refl _)
  replace hB := hB.trans (hg11.mono (by have := hB.size; omega))
  have hs11 : g + 2 ≤ w11.heap.size := by have := hg11.size; omega
  have hst := ba.set1 2 (.slice (some ⟨g2, 0, none⟩) (nv + 1) c9)
  have hgx := GrowX.of_growC (Y := fun q => q < g + 2) hst.2 (fun q i e => by have := e.1; omega)
  have HW := Lib.hid (And.intro hst.1 (And.intro (bz.grow hst.2 (by intros; omega)) (And.intro (hB.trans (hst.2.below (fun k hk => ⟨by omega, fun _ => by omega⟩))) (And.intro (hdo.grow hgx) (Nat.le_trans hs11 hst.2.size)))))
  clear hbsv hdb hown11 hg11 hdo hB hst hgx hnc hnl
  have ca0 := ba.cell 0 _ rfl
  have ca1 := ba.cell 1 _ rfl
  have ca2 := ba.cell 2 _ rfl
  have ca3 := ba.cell 3 _ rfl
  have ca4 := ba.cell 4 _ rfl
  have fa := ba.free
  go_upto_region 11 with (fail)
  clear ca0 ca1 ca2 ca3 ca4 fa
  clear ba bz hs11 hs10
  refine wp_world (fun u => Box u g [.bool true, .slice (some ⟨g1, 0, none⟩) (nk + 1) c8, .slice (some ⟨g2, 0, none⟩) (nv + 1) c9, .slice ad nd nd, .int .i64 nx] ∧ Box u (g + 1) [.bool false, .slice none 0 0, .slice none 0 0, .slice none 0 0, .int .i64 0] ∧ Below w.heap.size w u ∧ DO (g + 2) u (.slice (some ⟨g1, 0, none⟩) (nk + 1) c8) (.slice (some ⟨g2, 0, none⟩) (nv + 1) c9) (x.keys.take p ++ k :: x.keys.drop p) (xk.take p ++ .slice a2 kl kl :: xk.drop p) (x.vals.take p ++ v :: x.vals.drop p) (xv.take p ++ .slice a1 vl vl :: xv.drop p) ∧ g + 2 ≤ u.heap.size) HW.out ?_
  clear HW
  rintro w12 ⟨ba, bz, hB, hdo, hs12⟩
  have hle1 : nk + 1 ≤ c8 := own_cap (by have h := hdo.a; rw [ins_len _ _ _ HPL.out, HNK.out] at h; exact h)
  have hle2 : nv + 1 ≤ c9 := own_cap (by have h := hdo.b; rw [ins_len _ _ _ (by rw [HNV.out]; exact hpv), HNV.out] at h; exact h)
  have ca0 := ba.cell 0 _ rfl
  have ca1 := ba.cell 1 _ rfl
  have ca2 := ba.cell 2 _ rfl
  have ca3 := ba.cell 3 _ rfl
  have ca4 := ba.cell 4 _ rfl
  have fa := ba.free
  go_wp2_with fail
  clear ca0 ca1 ca2 ca3 ca4 fa
  refine (clip_any true nx (some ⟨g1, 0, none⟩) (some ⟨g2, 0, none⟩) ad (nk + 1) (nv + 1) nd c8 c9 nd w12 hle1 hle2 (Nat.le_refl _)).mono ?_
  rintro e w13 ⟨rfl, hb13⟩
  replace bz := bz.below hb13 (Nat.le_refl _)
  replace hB := hB.trans (hb13.mono (by have := hB.size; omega))
  replace hdo := hdo.grow (GrowX.of_grow hb13)
  replace hs12 := Nat.le_trans hs12 hb13.size
  clear ba hb13 hle1 hle2
  have hz := bz.set5 (.bool true) (.slice (some ⟨g1, 0, none⟩) (nk + 1) (nk + 1)) (.slice (some ⟨g2, 0, none⟩) (nv + 1) (nv + 1)) (.slice ad nd nd) (.int .i64 nx)
  have hgx := GrowX.of_growC (Y := fun q => q < g + 2) hz.2 (fun q i e => by omega)
  have hBF := hB.trans (hz.2.below (fun k hk => ⟨by omega, fun _ => by omega⟩))
  obtain ⟨y, hy⟩ : ∃ y, y = (⟨x.leaf, x.keys.take p ++ k :: x.keys.drop p, x.vals.take p ++ v :: x.vals.drop p, x.kids, x.next⟩ : Nd) := ⟨_, rfl⟩
  have hyk : y.kids.length = nd := by rw [hy]; exact HND.out
  have hyv : y.vals.length = nv + 1 := by rw [hy]; show (x.vals.take p ++ v :: x.vals.drop p).length = nv + 1; rw [ins_len _ _ _ (by rw [HNV.out]; exact hpv), HNV.out]
  have hynk : y.keys.length = nk + 1 := by rw [hy]; show (x.keys.take p ++ k :: x.keys.drop p).length = nk + 1; rw [ins_len _ _ _ HPL.out, HNK.out]
  have hkids : y.kids = [] := by rw [hy]; exact List.eq_nil_of_length_eq_zero (by show x.kids.length = 0; rw [HND.out]; exact HND0.out)
  have hkF := ((DO.at (x := y) (ds := .slice ad nd nd) (by rw [hy]; exact hdo) hynk hyv hyk (fun w2 _ => by rw [hkids, HND0.out]; exact ⟨reads_zero, NewS.empty⟩)).grow hgx).mono (Y := fun k => k < w.heap.size) (fun k _ h => by omega)
  have HBF := Lib.hid hBF
  have HKF := Lib.hid hkF
  have HY := Lib.hid hy
  have hyl : y.leaf = true := by rw [hy]; exact HLF.out
  have hyn : y.next = nx := by rw [hy]; exact HNX.out
  have HYL := Lib.hid hyl
  have HYN := Lib.hid hyn
  have HYK := Lib.hid hyk
  have HYV := Lib.hid hyv
  have HYNK := Lib.hid hynk
  clear hz hgx hBF hkF hy hyk hyv hynk hkids hyl hyn hdo hB
  have cz0 := bz.cell 0 _ rfl
  have cz1 := bz.cell 1 _ rfl
  have cz2 := bz.cell 2 _ rfl
  have cz3 := bz.cell 3 _ rfl
  have cz4 := bz.cell 4 _ rfl
  have fz := bz.free
  go_wp2
  refine bodyPost_ret (v := .agg #[.bool true, .slice (some ⟨g1, 0, none⟩) (nk + 1) (nk + 1), .slice (some ⟨g2, 0, none⟩) (nv + 1) (nv + 1), .slice ad nd nd, .int .i64 nx]) (by simp [results, Try.results20, go_sem, cz0, cz1, cz2, cz3, cz4]) rfl ?_
  refine ⟨_, rfl, ?_⟩
  rw [HPUT.out, ← HY.out]
  exact ⟨some ⟨g1, 0, none⟩, some ⟨g2, 0, none⟩, ad, by simp only [nodeV, HYL.out, HYN.out, HYNK.out, HYV.out, HYK.out], by rw [HYNK.out, HYV.out, HYK.out]; exact HKF.out.imp (fun _ h => h.mono (by omega)), HBF.out⟩

theorem put_any (x : Nd) (hsm : x.small) (ks vs ds : Value) (k v : List UInt8) (kv vv : Value) (w : World) (hx : NodeAt w ks vs ds x) (hk : Reads 1 w kv k.length (k.map B)) (hv : Reads 1 w vv v.length (v.map B)) (hkl : k.length ≤ 1048576) (hvl : v.length ≤ 1048576) :
    Calls Try.prog 20 #[.agg #[.bool x.leaf, ks, vs, ds, .int .i64 x.next], kv, vv] w fun e w' => ∃ r, e = .returned r ∧ NodeEnd (x.put k v) w w' r := by
  cases h1 : x.leaf with
  | false => rw [← h1]; exact put_inner x hsm h1 ks vs ds k v kv vv w hx hk hv hkl hvl
  | true =>
    rw [← h1]
    cases h2 : x.fits with
    | false => exact put_unfit x hsm h1 ks vs ds k v h2 kv vv w hx hk hv hkl hvl
    | true =>
      cases h3 : fhas x.keys k with
      | true => exact put_has x hsm h1 ks vs ds k v h2 h3 kv vv w hx hk hv hkl hvl
      | false => exact put_new x hsm h1 ks vs ds k v h2 h3 kv vv w hx hk hv hkl hvl

end Go.Proofs.Ytfbblgcdggpehaa

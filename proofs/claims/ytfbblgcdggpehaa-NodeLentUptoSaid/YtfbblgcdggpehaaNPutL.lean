/- What node.Put answers at a leaf. Conditions: short lists. -/
import Derived.Test.YtfbblgcdggpehaaNPut
import Derived.Deep.DeepCutAuto
namespace Go.Proofs.Ytfbblgcdggpehaa
set_option linter.unusedSimpArgs false
set_option linter.unusedVariables false
open Go.RowKit


set_option maxRecDepth 100000 in
set_option maxHeartbeats 6400000 in
theorem put_has (x : Nd) (hsm : x.small) (hlf : x.leaf = true) (ks vs ds : Value) (k v : List UInt8) (hft : x.fits = true) (hhas : fhas x.keys k = true) (kv vv : Value) (w : World) (hx : NodeAt w ks vs ds x) (hk : Reads 1 w kv k.length (k.map B)) (hv : Reads 1 w vv v.length (v.map B)) (hkl : k.length ≤ 1048576) (hvl : v.length ≤ 1048576) :
    Calls Try.prog 20 #[.agg #[.bool x.leaf, ks, vs, ds, .int .i64 x.next], kv, vv] w fun e w' => ∃ r, e = .returned r ∧ NodeEnd (x.put k v) w w' r := by
  have hput : x.put k v = ⟨x.leaf, x.keys, x.vals.set (fpos x.keys k) v, x.kids, x.next⟩ := by unfold Nd.put; rw [if_pos (by rw [hlf, hft]; rfl), if_pos hhas]
  have HPUT := Lib.hid hput
  clear hput
  obtain ⟨ka, kc, rfl⟩ := hk.shape
  obtain ⟨va, vc, rfl⟩ := hv.shape
  obtain ⟨kl, hkl2⟩ : ∃ q, k.length = q := ⟨_, rfl⟩
  obtain ⟨vl, hvl2⟩ : ∃ q, v.length = q := ⟨_, rfl⟩
  rw [hkl2] at hk hkl ⊢
  rw [hvl2] at hv hvl ⊢
  have HKL := Lib.hid hkl2
  have HVL := Lib.hid hvl2
  have HKR := Lib.hid hk
  have HVR := Lib.hid hv
  clear hk hv hkl2 hvl2
  have hvk : x.vals.length = x.keys.length ∧ x.kids.length = 0 := by
    have := hft
    unfold Nd.fits fitsB at this
    rw [hlf] at this
    simpa using this
  have HFT := Lib.hid hft
  have HH := Lib.hid hhas
  obtain ⟨p, hp⟩ : ∃ p, fpos x.keys k = p := ⟨_, rfl⟩
  have hple : p ≤ x.keys.length := hp ▸ fpos_le x.keys k
  have HVK := Lib.hid hvk
  have HPL := Lib.hid hple
  have HPP := Lib.hid hp
  clear hft hhas hvk hple hp
  obtain ⟨o1, o2, o3⟩ := hx.one
  obtain ⟨nk, hnk⟩ : ∃ nk, x.keys.length = nk := ⟨_, rfl⟩
  obtain ⟨nv, hnv⟩ : ∃ nv, x.vals.length = nv := ⟨_, rfl⟩
  obtain ⟨nd, hnd⟩ : ∃ nd, x.kids.length = nd := ⟨_, rfl⟩
  obtain ⟨nx, hnx⟩ : ∃ nx, x.next = nx := ⟨_, rfl⟩
  have hkm : nk ≤ 1048576 := hnk ▸ hsm.keys
  have hvm : nv ≤ 1048576 := hnv ▸ hsm.vals
  have hdm : nd ≤ 1048577 := hnd ▸ hsm.kids
  rw [hlf, hnx]
  obtain ⟨g, hg0⟩ : ∃ g, w.heap.size = g := ⟨_, rfl⟩
  have ba := (Box.new w #[.bool true, ks, vs, ds, .int .i64 nx] 25 hg0.symm).alloc (.cells #[.bool false, .slice none 0 0, .slice none 0 0, .slice none 0 0, .int .i64 0] 25)
  have bz : Box _ _ [.bool false, .slice none 0 0, .slice none 0 0, .slice none 0 0, .int .i64 0] := Box.new (w.alloc (.cells #[.bool true, ks, vs, ds, .int .i64 nx] 25)) #[.bool false, .slice none 0 0, .slice none 0 0, .slice none 0 0, .int .i64 0] 25 (g := g + 1) (by simp; omega)
  have hB := ((Below.refl w.heap.size w).alloc (Nat.le_refl _) (.cells #[.bool true, ks, vs, ds, .int .i64 nx] 25)).alloc (by simp) (.cells #[.bool false, .slice none 0 0, .slice none 0 0, .slice none 0 0, .int .i64 0] 25)
  have HG := Lib.hid hg0
  have hx2 := hx.below hB (Nat.le_refl _)
  have hs2 : ((w.alloc (.cells #[.bool true, ks, vs, ds, .int .i64 nx] 25)).alloc (.cells #[.bool false, .slice none 0 0, .slice none 0 0, .slice none 0 0, .int .i64 0] 25)).heap.size = g + 2 := by simp; omega
  have HW := Lib.hid (And.intro ba (And.intro bz (And.intro hB (And.intro hx2 hs2))))
  have HNK := Lib.hid hnk
  have HNV := Lib.hid hnv
  have HND := Lib.hid hnd
  have HNX := Lib.hid hnx
  have HLF := Lib.hid hlf
  clear hx ba bz hB hg0 hx2 hs2 hnk hnv hnd hnx hlf
  go_enter Try.func20, Try.ntmps20
  go_wp2_with fail
  rw [HG.out]
  have hgw : w.heap.size ≤ g := Nat.le_of_eq HG.out
  refine calls_world (fun u => Box u g [.bool true, ks, vs, ds, .int .i64 nx] ∧ Box u (g + 1) [.bool false, .slice none 0 0, .slice none 0 0, .slice none 0 0, .int .i64 0] ∧ Below w.heap.size w u ∧ NodeAt u ks vs ds x ∧ u.heap.size = g + 2) HW.out ?_
  clear HW
  rintro w0 ⟨ba, bz, hB, hx, hs0⟩
  refine (copied_b x ks vs ds w0 hx hsm.ok true nx nk nv nd HLF.out HNX.out HNK.out HNV.out HND.out).mono ?_
  rintro e w1 ⟨ak, ck, xk, av, cv, xv, ad, rfl, hdo, hkd, hb1⟩
  rw [hs0] at hdo hkd
  replace ba := ba.below hb1 (Nat.le_refl _)
  replace bz := bz.below hb1 (Nat.le_refl _)
  have hs1 : g + 2 ≤ w1.heap.size := by have := hb1.size; omega
  replace hB := hB.trans (hb1.mono (by omega))
  have hst := ba.set5 (.bool true) (.slice ak nk nk) (.slice av nv nv) (.slice ad nd nd) (.int .i64 nx)
  have hgx := GrowX.of_growC (Y := fun q => q < g + 2) hst.2 (fun q i e => by omega)
  have HW := Lib.hid (And.intro hst.1 (And.intro (bz.grow hst.2 (by intros; omega)) (And.intro (hB.trans (hst.2.below (fun k hk => ⟨by omega, fun _ => by omega⟩))) (And.intro (hdo.grow hgx) (And.intro (hkd.grow hgx) (Nat.le_trans hs1 hst.2.size))))))
  clear hb1 hx hs0 hst hgx hdo hkd hB
  have ca0 := ba.cell 0 _ rfl
  have ca1 := ba.cell 1 _ rfl
  have ca2 := ba.cell 2 _ rfl
  have ca3 := ba.cell 3 _ rfl
  have ca4 := ba.cell 4 _ rfl
  have fa := ba.free
  go_upto_region 2 with (fail)
  clear ca0 ca1 ca2 ca3 ca4 fa
  clear ba bz hs1
  refine wp_world (fun u => Box u g [.bool true, .slice ak nk nk, .slice av nv nv, .slice ad nd nd, .int .i64 nx] ∧ Box u (g + 1) [.bool false, .slice none 0 0, .slice none 0 0, .slice none 0 0, .int .i64 0] ∧ Below w.heap.size w u ∧ DO (g + 2) u (.slice ak nk ck) (.slice av nv cv) x.keys xk x.vals xv ∧ Kept (fun k => k < g + 2) u (fun w2 => Reads 1 w2 (.slice ad nd nd) nd (x.kids.map I) ∧ NewS (g + 2) w2 (.slice ad nd nd)) ∧ g + 2 ≤ u.heap.size) HW.out ?_
  clear HW
  rintro w2 ⟨ba, bz, hB, hdo, hkd, hs2⟩
  have hpk : p ≤ nk := by rw [← HNK.out]; exact HPL.out
  have hnv : nv = nk := by have := HVK.out.1; rw [HNV.out, HNK.out] at this; exact this
  have hnd : nd = 0 := by have := HVK.out.2; rw [HND.out] at this; exact this
  have hpl : p < nk := by
    have h := HH.out
    unfold fhas at h
    rw [decide_eq_true_eq, HPP.out] at h
    rw [← HNK.out]; exact (List.getElem?_eq_some_iff.1 h).1
  have HNVK := Lib.hid hnv
  have HND0 := Lib.hid hnd
  clear hnv hnd
  have ca0 := ba.cell 0 _ rfl
  have ca1 := ba.cell 1 _ rfl
  have ca2 := ba.cell 2 _ rfl
  have ca3 := ba.cell 3 _ rfl
  have ca4 := ba.cell 4 _ rfl
  have fa := ba.free
  go_wp2_with fail
  clear ca0 ca1 ca2 ca3 ca4 fa
  have hno := (hdo.at HNK.out HNV.out HND.out hkd).now.node
  refine (fits_b x _ _ _ w2 hno hsm.ok true true nx HLF.out HNX.out HFT.out).mono ?_
  rintro e w3 ⟨rfl, hb3⟩
  replace ba := ba.below hb3 (Nat.le_refl _)
  replace bz := bz.below hb3 (Nat.le_refl _)
  replace hB := hB.trans (hb3.mono (by omega))
  replace hdo := hdo.grow (GrowX.of_grow hb3)
  replace hkd := hkd.grow (GrowX.of_grow hb3)
  replace hs2 := Nat.le_trans hs2 hb3.size
  clear hno hb3
  have ca0 := ba.cell 0 _ rfl
  have ca1 := ba.cell 1 _ rfl
  have ca2 := ba.cell 2 _ rfl
  have ca3 := ba.cell 3 _ rfl
  have ca4 := ba.cell 4 _ rfl
  have fa := ba.free
  go_wp2_with fail
  clear ca0 ca1 ca2 ca3 ca4 fa
  have hno := (hdo.at HNK.out HNV.out HND.out hkd).now.node
  refine (find_any x.keys true nx (.slice ak nk nk) (.slice av nv nv) (.slice ad nd nd) (.slice ka kl kc) rfl rfl k kl w3 hno.keys (HKR.out.below hB (Nat.le_refl _)) (by rw [HNK.out]; omega)).mono ?_
  rintro e w4 ⟨rfl, hb4⟩
  rw [HPP.out, HH.out]
  replace ba := ba.below hb4 (Nat.le_refl _)
  replace bz := bz.below hb4 (Nat.le_refl _)
  replace hB := hB.trans (hb4.mono (by omega))
  replace hdo := hdo.grow (GrowX.of_grow hb4)
  replace hkd := hkd.grow (GrowX.of_grow hb4)
  replace hs2 := Nat.le_trans hs2 hb4.size
  clear hno hb4
  have ca0 := ba.cell 0 _ rfl
  have ca1 := ba.cell 1 _ rfl
  have ca2 := ba.cell 2 _ rfl
  have ca3 := ba.cell 3 _ rfl
  have ca4 := ba.cell 4 _ rfl
  have fa := ba.free
  go_wp2_with fail
  clear ca0 ca1 ca2 ca3 ca4 fa
  refine (cloneB_own _ vl _ w4 (HVR.out.below hB (Nat.le_refl _)) (Bs_one _) (by omega)).mono ?_
  rintro e w5 ⟨a1, c1, rfl, hc1, ho1, hb5⟩
  have hbs := hdo.beside (e := 5) HVL.out (own_kept2 ho1)
  have hbsB := hdo
  replace ba := ba.below hb5 (Nat.le_refl _)
  replace bz := bz.below hb5 (Nat.le_refl _)
  replace hB := hB.trans (hb5.mono (by omega))
  replace hdo := hdo.grow (GrowX.of_grow hb5)
  replace hkd := hkd.grow (GrowX.of_grow hb5)
  replace hs2 := Nat.le_trans hs2 hb5.size
  clear hb5 hbsB ho1
  go_wp2_with fail
  refine (clipB_any a1 vl c1 _ hc1).mono ?_
  rintro e w6 ⟨rfl, rfl⟩
  clear hc1
  replace HPUT := Lib.hid (HPUT.out.trans (by rw [HPP.out]))
  have hpv : p < nv := by have := HNVK.out; omega
  obtain ⟨gv, cv', he, hgv1, hgv2, _, _⟩ := own_some hdo.b (fun e => by injection e with _ e2 _; omega)
  have hav := (Value.slice.inj he).1
  obtain rfl := (Value.slice.inj he).2.2
  subst hav
  clear he
  have hdb := hdo.b
  rw [HNV.out] at hdb
  have hxv : p < xv.length := by rw [hdb.1]; omega
  have hcv := own_cells hdb p _ (List.getElem?_eq_getElem hxv)
  rw [Addr.add_lit, Nat.zero_add] at hcv
  have hfv : w6.frozen? ⟨gv, p, none⟩ = false := ((NewS.own (m := nv) (c2 := nv) hdb) gv 0 nv nv rfl (by omega)).2 p
  have q1 : (p : Int) < (nv : Int) := by omega
  generalize xv[p] = old at hcv
  have hdo2 := hdo.set HNV.out hpv hbs
  have hX : GrowC (fun k _ => k = gv) w6 (w6.setCell ⟨gv, p, none⟩ (.slice a1 vl vl)) := (GrowC.refl w6).setCell (X := fun k _ => k = gv) rfl hgv2 _
  have hkd2 := hkd.and (hdo.b |> own_kept2)
  have HW := Lib.hid (And.intro (ba.grow hX (by intros; omega)) (And.intro (bz.grow hX (by intros; omega)) (And.intro (hB.trans (hX.below (fun k hk => ⟨by omega, fun _ => by omega⟩))) (And.intro hdo2 (Nat.le_trans hs2 hX.size)))))
  clear hdo2 hX hdb hkd2 hxv hdo hbs
  have ca0 := ba.cell 0 _ rfl
  have ca1 := ba.cell 1 _ rfl
  have ca2 := ba.cell 2 _ rfl
  have ca3 := ba.cell 3 _ rfl
  have ca4 := ba.cell 4 _ rfl
  have fa := ba.free
  go_upto_region 8 with (fail)
  clear ca0 ca1 ca2 ca3 ca4 fa
  clear ba bz hB hs2 hcv hfv q1
  refine wp_world (fun u => Box u g [.bool true, .slice ak nk nk, .slice (some ⟨gv, 0, none⟩) nv nv, .slice ad nd nd, .int .i64 nx] ∧ Box u (g + 1) [.bool false, .slice none 0 0, .slice none 0 0, .slice none 0 0, .int .i64 0] ∧ Below w.heap.size w u ∧ DO (g + 2) u (.slice ak nk ck) (.slice (some ⟨gv, 0, none⟩) nv cv) x.keys xk (x.vals.set p v) (xv.set p (.slice a1 vl vl)) ∧ g + 2 ≤ u.heap.size) HW.out ?_
  clear HW
  rintro w7 ⟨ba, bz, hB, hdo, hs2⟩
  have hz := bz.set5 (.bool true) (.slice ak nk nk) (.slice (some ⟨gv, 0, none⟩) nv nv) (.slice ad nd nd) (.int .i64 nx)
  have hgx := GrowX.of_growC (Y := fun q => q < g + 2) hz.2 (fun q i e => by omega)
  have hBF := hB.trans (hz.2.below (fun k hk => ⟨by omega, fun _ => by omega⟩))
  obtain ⟨y, hy⟩ : ∃ y, y = (⟨x.leaf, x.keys, x.vals.set p v, x.kids, x.next⟩ : Nd) := ⟨_, rfl⟩
  have hyk : y.kids.length = nd := by rw [hy]; exact HND.out
  have hyv : y.vals.length = nv := by rw [hy]; show (x.vals.set p v).length = nv; rw [List.length_set]; exact HNV.out
  have hynk : y.keys.length = nk := by rw [hy]; exact HNK.out
  have hkids : y.kids = [] := by rw [hy]; exact List.eq_nil_of_length_eq_zero (by show x.kids.length = 0; rw [HND.out]; exact HND0.out)
  have hkF := ((DO.at (x := y) (ds := .slice ad nd nd) (by rw [hy]; exact hdo) hynk hyv hyk (fun w2 _ => by rw [hkids, HND0.out]; exact ⟨reads_zero, NewS.empty⟩)).grow hgx).mono (Y := fun k => k < w.heap.size) (fun k _ h => by omega)
  have HBF := Lib.hid hBF
  have HKF := Lib.hid hkF
  have HY := Lib.hid hy
  have hyl : y.leaf = true := by rw [hy]; exact HLF.out
  have hyn : y.next = nx := by rw [hy]; exact HNX.out
  have HYL := Lib.hid hyl
  have HYN := Lib.hid hyn
  have HYK := Lib.hid hyk
  have HYV := Lib.hid hyv
  have HYNK := Lib.hid hynk
  clear hz hgx hBF hkF hy hyk hyv hynk hkids hyl hyn
  have ca0 := ba.cell 0 _ rfl
  have ca1 := ba.cell 1 _ rfl
  have ca2 := ba.cell 2 _ rfl
  have ca3 := ba.cell 3 _ rfl
  have ca4 := ba.cell 4 _ rfl
  have fa := ba.free
  have cz0 := bz.cell 0 _ rfl
  have cz1 := bz.cell 1 _ rfl
  have cz2 := bz.cell 2 _ rfl
  have cz3 := bz.cell 3 _ rfl
  have cz4 := bz.cell 4 _ rfl
  have fz := bz.free
  go_wp2
  refine bodyPost_ret (v := .agg #[.bool true, .slice ak nk nk, .slice (some ⟨gv, 0, none⟩) nv nv, .slice ad nd nd, .int .i64 nx]) (by simp [results, Try.results20, go_sem, cz0, cz1, cz2, cz3, cz4]) rfl ?_
  refine ⟨_, rfl, ?_⟩
  rw [HPUT.out, ← HY.out]
  exact ⟨ak, some ⟨gv, 0, none⟩, ad, by simp only [nodeV, HYL.out, HYN.out, HYNK.out, HYV.out, HYK.out], by rw [HYNK.out, HYV.out, HYK.out]; exact HKF.out.imp (fun _ h => h.mono (by omega)), HBF.out⟩

end Go.Proofs.Ytfbblgcdggpehaa

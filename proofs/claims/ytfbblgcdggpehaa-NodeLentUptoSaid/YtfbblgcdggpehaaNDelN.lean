/- What node.Del answers. Conditions: short lists. -/
import Derived.Test.YtfbblgcdggpehaaNPutN
import Derived.Deep.DeepCutAuto
namespace Go.Proofs.Ytfbblgcdggpehaa
set_option linter.unusedSimpArgs false
set_option linter.unusedVariables false
open Go.RowKit

theorem own_eq {g n c q : Nat} (e : (Value.slice (some ⟨g, 0, none⟩) n c).ownBlock = some q) : q = g := by
  have : g = q := by simpa [Value.ownBlock] using e
  exact this.symm
theorem growC_own {w w' : World} {G G' e e' n n' c c' g : Nat} {xs xs' : List Value} (h1 : w.ownsRow G e 1 (.slice (some ⟨g, 0, none⟩) n c) n xs) (h2 : w'.ownsRow G' e' 1 (.slice (some ⟨g, 0, none⟩) n' c') n' xs') (hX : GrowX (fun k => k = g) w w') : GrowC (fun b _ => b = g) w w' := by
  have f1 := (NewS.own (m := 1) (c2 := 1) h1) g 0 1 1 rfl (by decide)
  have f2 := (NewS.own (m := 1) (c2 := 1) h2) g 0 1 1 rfl (by decide)
  refine ⟨hX.os, hX.tape, hX.output, hX.size, fun k hk hn => hX.block k hk (fun e => hn 0 e), fun k o hk hn => ?_, fun k o hk => ?_⟩
  · have := hX.block k hk hn
    simp only [World.cell?, this]
  · by_cases e : k = g
    · subst e; rw [f1.2 o, f2.2 o]
    · have := hX.block k hk e
      simp only [World.frozen?, this]


set_option maxRecDepth 100000 in
set_option maxHeartbeats 6400000 in
theorem del_inner (x : Nd) (hsm : x.small) (hlf : x.leaf = false) (ks vs ds : Value) (k : List UInt8) (kv : Value) (w : World) (hx : NodeAt w ks vs ds x) (hk : Reads 1 w kv k.length (k.map B)) (hkl : k.length ≤ 1048576) :
    Calls Try.prog 19 #[.agg #[.bool x.leaf, ks, vs, ds, .int .i64 x.next], kv] w fun e w' => ∃ r, e = .returned (.tuple #[r, .bool (x.delOk k)]) ∧ NodeEnd (x.del k) w w' r := by
  obtain ⟨ka, kc, rfl⟩ := hk.shape
  obtain ⟨kl, hkl2⟩ : ∃ q, k.length = q := ⟨_, rfl⟩
  rw [hkl2] at hk hkl ⊢
  have HKL := Lib.hid hkl2
  have HKR := Lib.hid hk
  clear hk hkl2
  have hok : x.delOk k = false := by unfold Nd.delOk; rw [hlf]; simp
  have hdel : x.del k = x := by unfold Nd.del; rw [if_neg (by rw [hok]; decide)]
  have HOK := Lib.hid hok
  have HDEL := Lib.hid hdel
  clear hok hdel
  obtain ⟨p, hp⟩ : ∃ p, fpos x.keys k = p := ⟨_, rfl⟩
  have hple : p ≤ x.keys.length := hp ▸ fpos_le x.keys k
  have HPL := Lib.hid hple
  have HPP := Lib.hid hp
  clear hple hp
  obtain ⟨has, hhas⟩ : ∃ q, fhas x.keys k = q := ⟨_, rfl⟩
  have HH := Lib.hid hhas
  clear hhas
  obtain ⟨o1, o2, o3⟩ := hx.one
  obtain ⟨nk, hnk⟩ : ∃ nk, x.keys.length = nk := ⟨_, rfl⟩
  obtain ⟨nv, hnv⟩ : ∃ nv, x.vals.length = nv := ⟨_, rfl⟩
  obtain ⟨nd, hnd⟩ : ∃ nd, x.kids.length = nd := ⟨_, rfl⟩
  obtain ⟨nx, hnx⟩ : ∃ nx, x.next = nx := ⟨_, rfl⟩
  have hkm : nk ≤ 1048576 := hnk ▸ hsm.keys
  have hvm : nv ≤ 1048576 := hnv ▸ hsm.vals
  have hdm : nd ≤ 1048577 := hnd ▸ hsm.kids
  rw [hlf, hnx]
  obtain ⟨g, hg0⟩ : ∃ g, w.heap.size = g := ⟨_, rfl⟩
  have ba := (Box.new w #[.bool false, ks, vs, ds, .int .i64 nx] 25 hg0.symm).alloc (.cells #[.bool false, .slice none 0 0, .slice none 0 0, .slice none 0 0, .int .i64 0] 25)
  have bz : Box _ _ [.bool false, .slice none 0 0, .slice none 0 0, .slice none 0 0, .int .i64 0] := Box.new (w.alloc (.cells #[.bool false, ks, vs, ds, .int .i64 nx] 25)) #[.bool false, .slice none 0 0, .slice none 0 0, .slice none 0 0, .int .i64 0] 25 (g := g + 1) (by simp; omega)
  have hB := ((Below.refl w.heap.size w).alloc (Nat.le_refl _) (.cells #[.bool false, ks, vs, ds, .int .i64 nx] 25)).alloc (by simp) (.cells #[.bool false, .slice none 0 0, .slice none 0 0, .slice none 0 0, .int .i64 0] 25)
  have HG := Lib.hid hg0
  have hx2 := hx.below hB (Nat.le_refl _)
  have hs2 : ((w.alloc (.cells #[.bool false, ks, vs, ds, .int .i64 nx] 25)).alloc (.cells #[.bool false, .slice none 0 0, .slice none 0 0, .slice none 0 0, .int .i64 0] 25)).heap.size = g + 2 := by simp; omega
  have HW := Lib.hid (And.intro ba (And.intro bz (And.intro hB (And.intro hx2 hs2))))
  have HNK := Lib.hid hnk
  have HNV := Lib.hid hnv
  have HND := Lib.hid hnd
  have HNX := Lib.hid hnx
  have HLF := Lib.hid hlf
  clear hx ba bz hB hg0 hx2 hs2 hnk hnv hnd hnx hlf
  go_enter Try.func19, Try.ntmps19
  go_wp2_with fail
  rw [HG.out]
  have hgw : w.heap.size ≤ g := Nat.le_of_eq HG.out
  refine calls_world (fun u => Box u g [.bool false, ks, vs, ds, .int .i64 nx] ∧ Box u (g + 1) [.bool false, .slice none 0 0, .slice none 0 0, .slice none 0 0, .int .i64 0] ∧ Below w.heap.size w u ∧ NodeAt u ks vs ds x ∧ u.heap.size = g + 2) HW.out ?_
  clear HW
  rintro w0 ⟨ba, bz, hB, hx, hs0⟩
  refine (copied_b x ks vs ds w0 hx hsm.ok false nx nk nv nd HLF.out HNX.out HNK.out HNV.out HND.out).mono ?_
  rintro e w1 ⟨ak, ck, xk, av, cv, xv, ad, rfl, hdo, hkd, hb1⟩
  rw [hs0] at hdo hkd
  replace ba := ba.below hb1 (Nat.le_refl _)
  replace bz := bz.below hb1 (Nat.le_refl _)
  have hs1 : g + 2 ≤ w1.heap.size := by have := hb1.size; omega
  replace hB := hB.trans (hb1.mono (by omega))
  have hst := ba.set5 (.bool false) (.slice ak nk nk) (.slice av nv nv) (.slice ad nd nd) (.int .i64 nx)
  have hgx := GrowX.of_growC (Y := fun q => q < g + 2) hst.2 (fun q i e => by omega)
  have HW := Lib.hid (And.intro hst.1 (And.intro (bz.grow hst.2 (by intros; omega)) (And.intro (hB.trans (hst.2.below (fun k hk => ⟨by omega, fun _ => by omega⟩))) (And.intro (hdo.grow hgx) (And.intro (hkd.grow hgx) (Nat.le_trans hs1 hst.2.size))))))
  clear hb1 hx hs0 hst hgx hdo hkd hB
  have ca0 := ba.cell 0 _ rfl
  have ca1 := ba.cell 1 _ rfl
  have ca2 := ba.cell 2 _ rfl
  have ca3 := ba.cell 3 _ rfl
  have ca4 := ba.cell 4 _ rfl
  have fa := ba.free
  go_upto_region 2 with (fail)
  clear ca0 ca1 ca2 ca3 ca4 fa
  clear ba bz hs1
  refine wp_world (fun u => Box u g [.bool false, .slice ak nk nk, .slice av nv nv, .slice ad nd nd, .int .i64 nx] ∧ Box u (g + 1) [.bool false, .slice none 0 0, .slice none 0 0, .slice none 0 0, .int .i64 0] ∧ Below w.heap.size w u ∧ DO (g + 2) u (.slice ak nk ck) (.slice av nv cv) x.keys xk x.vals xv ∧ Kept (fun k => k < g + 2) u (fun w2 => Reads 1 w2 (.slice ad nd nd) nd (x.kids.map I) ∧ NewS (g + 2) w2 (.slice ad nd nd)) ∧ g + 2 ≤ u.heap.size) HW.out ?_
  clear HW
  rintro w2 ⟨ba, bz, hB, hdo, hkd, hs2⟩
  have ca0 := ba.cell 0 _ rfl
  have ca1 := ba.cell 1 _ rfl
  have ca2 := ba.cell 2 _ rfl
  have ca3 := ba.cell 3 _ rfl
  have ca4 := ba.cell 4 _ rfl
  have fa := ba.free
  go_wp2_with fail
  clear ca0 ca1 ca2 ca3 ca4 fa
  have hno := (hdo.at HNK.out HNV.out HND.out hkd).now.node
  refine (find_any x.keys false nx (.slice ak nk nk) (.slice av nv nv) (.slice ad nd nd) (.slice ka kl kc) rfl rfl k kl w2 hno.keys (HKR.out.below hB (Nat.le_refl _)) (by rw [HNK.out]; omega)).mono ?_
  rintro e w3 ⟨rfl, hb3⟩
  rw [HPP.out, HH.out]
  replace ba := ba.below hb3 (Nat.le_refl _)
  replace bz := bz.below hb3 (Nat.le_refl _)
  replace hB := hB.trans (hb3.mono (by omega))
  replace hdo := hdo.grow (GrowX.of_grow hb3)
  replace hkd := hkd.grow (GrowX.of_grow hb3)
  replace hs2 := Nat.le_trans hs2 hb3.size
  clear hno hb3
  have hz := bz.set5 (.bool false) (.slice ak nk nk) (.slice av nv nv) (.slice ad nd nd) (.int .i64 nx)
  have hgx := GrowX.of_growC (Y := fun q => q < g + 2) hz.2 (fun q i e => by omega)
  have hBF := hB.trans (hz.2.below (fun k hk => ⟨by omega, fun _ => by omega⟩))
  have hkF := ((hdo.at HNK.out HNV.out HND.out hkd).grow hgx).mono (Y := fun k => k < w.heap.size) (fun k _ h => by omega)
  have HBF := Lib.hid hBF
  have HKF := Lib.hid hkF
  clear hz hgx hBF hkF
  have ca0 := ba.cell 0 _ rfl
  have ca1 := ba.cell 1 _ rfl
  have ca2 := ba.cell 2 _ rfl
  have ca3 := ba.cell 3 _ rfl
  have ca4 := ba.cell 4 _ rfl
  have fa := ba.free
  have cz0 := bz.cell 0 _ rfl
  have cz1 := bz.cell 1 _ rfl
  have cz2 := bz.cell 2 _ rfl
  have cz3 := bz.cell 3 _ rfl
  have cz4 := bz.cell 4 _ rfl
  have fz := bz.free
  go_wp2
  refine bodyPost_ret (v := .tuple #[.agg #[.bool false, .slice ak nk nk, .slice av nv nv, .slice ad nd nd, .int .i64 nx], .bool false]) (by simp [results, Try.results19, go_sem, cz0, cz1, cz2, cz3, cz4]) rfl ?_
  refine ⟨.agg #[.bool false, .slice ak nk nk, .slice av nv nv, .slice ad nd nd, .int .i64 nx], by rw [HOK.out], ?_⟩
  rw [HDEL.out]
  exact ⟨ak, av, ad, by simp only [nodeV, HLF.out, HNX.out, HNK.out, HNV.out, HND.out], by rw [HNK.out, HNV.out, HND.out]; exact HKF.out.imp (fun _ h => h.mono (by omega)), HBF.out⟩

set_option maxRecDepth 100000 in
set_option maxHeartbeats 6400000 in
theorem del_unfit (x : Nd) (hsm : x.small) (hlf : x.leaf = true) (ks vs ds : Value) (k : List UInt8) (hft : x.fits = false) (kv : Value) (w : World) (hx : NodeAt w ks vs ds x) (hk : Reads 1 w kv k.length (k.map B)) (hkl : k.length ≤ 1048576) :
    Calls Try.prog 19 #[.agg #[.bool x.leaf, ks, vs, ds, .int .i64 x.next], kv] w fun e w' => ∃ r, e = .returned (.tuple #[r, .bool (x.delOk k)]) ∧ NodeEnd (x.del k) w w' r := by
  obtain ⟨ka, kc, rfl⟩ := hk.shape
  obtain ⟨kl, hkl2⟩ : ∃ q, k.length = q := ⟨_, rfl⟩
  rw [hkl2] at hk hkl ⊢
  have HKL := Lib.hid hkl2
  have HKR := Lib.hid hk
  clear hk hkl2
  have hok : x.delOk k = false := by unfold Nd.delOk; rw [hlf, hft]; simp
  have hdel : x.del k = x := by unfold Nd.del; rw [if_neg (by rw [hok]; decide)]
  have HOK := Lib.hid hok
  have HDEL := Lib.hid hdel
  clear hok hdel
  obtain ⟨p, hp⟩ : ∃ p, fpos x.keys k = p := ⟨_, rfl⟩
  have hple : p ≤ x.keys.length := hp ▸ fpos_le x.keys k
  have HPL := Lib.hid hple
  have HPP := Lib.hid hp
  clear hple hp
  have HFT := Lib.hid hft
  clear hft
  obtain ⟨has, hhas⟩ : ∃ q, fhas x.keys k = q := ⟨_, rfl⟩
  have HH := Lib.hid hhas
  clear hhas
  obtain ⟨o1, o2, o3⟩ := hx.one
  obtain ⟨nk, hnk⟩ : ∃ nk, x.keys.length = nk := ⟨_, rfl⟩
  obtain ⟨nv, hnv⟩ : ∃ nv, x.vals.length = nv := ⟨_, rfl⟩
  obtain ⟨nd, hnd⟩ : ∃ nd, x.kids.length = nd := ⟨_, rfl⟩
  obtain ⟨nx, hnx⟩ : ∃ nx, x.next = nx := ⟨_, rfl⟩
  have hkm : nk ≤ 1048576 := hnk ▸ hsm.keys
  have hvm : nv ≤ 1048576 := hnv ▸ hsm.vals
  have hdm : nd ≤ 1048577 := hnd ▸ hsm.kids
  rw [hlf, hnx]
  obtain ⟨g, hg0⟩ : ∃ g, w.heap.size = g := ⟨_, rfl⟩
  have ba := (Box.new w #[.bool true, ks, vs, ds, .int .i64 nx] 25 hg0.symm).alloc (.cells #[.bool false, .slice none 0 0, .slice none 0 0, .slice none 0 0, .int .i64 0] 25)
  have bz : Box _ _ [.bool false, .slice none 0 0, .slice none 0 0, .slice none 0 0, .int .i64 0] := Box.new (w.alloc (.cells #[.bool true, ks, vs, ds, .int .i64 nx] 25)) #[.bool false, .slice none 0 0, .slice none 0 0, .slice none 0 0, .int .i64 0] 25 (g := g + 1) (by simp; omega)
  have hB := ((Below.refl w.heap.size w).alloc (Nat.le_refl _) (.cells #[.bool true, ks, vs, ds, .int .i64 nx] 25)).alloc (by simp) (.cells #[.bool false, .slice none 0 0, .slice none 0 0, .slice none 0 0, .int .i64 0] 25)
  have HG := Lib.hid hg0
  have hx2 := hx.below hB (Nat.le_refl _)
  have hs2 : ((w.alloc (.cells #[.bool true, ks, vs, ds, .int .i64 nx] 25)).alloc (.cells #[.bool false, .slice none 0 0, .slice none 0 0, .slice none 0 0, .int .i64 0] 25)).heap.size = g + 2 := by simp; omega
  have HW := Lib.hid (And.intro ba (And.intro bz (And.intro hB (And.intro hx2 hs2))))
  have HNK := Lib.hid hnk
  have HNV := Lib.hid hnv
  have HND := Lib.hid hnd
  have HNX := Lib.hid hnx
  have HLF := Lib.hid hlf
  clear hx ba bz hB hg0 hx2 hs2 hnk hnv hnd hnx hlf
  go_enter Try.func19, Try.ntmps19
  go_wp2_with fail
  rw [HG.out]
  have hgw : w.heap.size ≤ g := Nat.le_of_eq HG.out
  refine calls_world (fun u => Box u g [.bool true, ks, vs, ds, .int .i64 nx] ∧ Box u (g + 1) [.bool false, .slice none 0 0, .slice none 0 0, .slice none 0 0, .int .i64 0] ∧ Below w.heap.size w u ∧ NodeAt u ks vs ds x ∧ u.heap.size = g + 2) HW.out ?_
  clear HW
  rintro w0 ⟨ba, bz, hB, hx, hs0⟩
  refine (copied_b x ks vs ds w0 hx hsm.ok true nx nk nv nd HLF.out HNX.out HNK.out HNV.out HND.out).mono ?_
  rintro e w1 ⟨ak, ck, xk, av, cv, xv, ad, rfl, hdo, hkd, hb1⟩
  rw [hs0] at hdo hkd
  replace ba := ba.below hb1 (Nat.le_refl _)
  replace bz := bz.below hb1 (Nat.le_refl _)
  have hs1 : g + 2 ≤ w1.heap.size := by have := hb1.size; omega
  replace hB := hB.trans (hb1.mono (by omega))
  have hst := ba.set5 (.bool true) (.slice ak nk nk) (.slice av nv nv) (.slice ad nd nd) (.int .i64 nx)
  have hgx := GrowX.of_growC (Y := fun q => q < g + 2) hst.2 (fun q i e => by omega)
  have HW := Lib.hid (And.intro hst.1 (And.intro (bz.grow hst.2 (by intros; omega)) (And.intro (hB.trans (hst.2.below (fun k hk => ⟨by omega, fun _ => by omega⟩))) (And.intro (hdo.grow hgx) (And.intro (hkd.grow hgx) (Nat.le_trans hs1 hst.2.size))))))
  clear hb1 hx hs0 hst hgx hdo hkd hB
  have ca0 := ba.cell 0 _ rfl
  have ca1 := ba.cell 1 _ rfl
  have ca2 := ba.cell 2 _ rfl
  have ca3 := ba.cell 3 _ rfl
  have ca4 := ba.cell 4 _ rfl
  have fa := ba.free
  go_upto_region 2 with (fail)
  clear ca0 ca1 ca2 ca3 ca4 fa
  clear ba bz hs1
  refine wp_world (fun u => Box u g [.bool true, .slice ak nk nk, .slice av nv nv, .slice ad nd nd, .int .i64 nx] ∧ Box u (g + 1) [.bool false, .slice none 0 0, .slice none 0 0, .slice none 0 0, .int .i64 0] ∧ Below w.heap.size w u ∧ DO (g + 2) u (.slice ak nk ck) (.slice av nv cv) x.keys xk x.vals xv ∧ Kept (fun k => k < g + 2) u (fun w2 => Reads 1 w2 (.slice ad nd nd) nd (x.kids.map I) ∧ NewS (g + 2) w2 (.slice ad nd nd)) ∧ g + 2 ≤ u.heap.size) HW.out ?_
  clear HW
  rintro w2 ⟨ba, bz, hB, hdo, hkd, hs2⟩
  have ca0 := ba.cell 0 _ rfl
  have ca1 := ba.cell 1 _ rfl
  have ca2 := ba.cell 2 _ rfl
  have ca3 := ba.cell 3 _ rfl
  have ca4 := ba.cell 4 _ rfl
  have fa := ba.free
  go_wp2_with fail
  clear ca0 ca1 ca2 ca3 ca4 fa
  have hno := (hdo.at HNK.out HNV.out HND.out hkd).now.node
  refine (find_any x.keys true nx (.slice ak nk nk) (.slice av nv nv) (.slice ad nd nd) (.slice ka kl kc) rfl rfl k kl w2 hno.keys (HKR.out.below hB (Nat.le_refl _)) (by rw [HNK.out]; omega)).mono ?_
  rintro e w3 ⟨rfl, hb3⟩
  rw [HPP.out, HH.out]
  replace ba := ba.below hb3 (Nat.le_refl _)
  replace bz := bz.below hb3 (Nat.le_refl _)
  replace hB := hB.trans (hb3.mono (by omega))
  replace hdo := hdo.grow (GrowX.of_grow hb3)
  replace hkd := hkd.grow (GrowX.of_grow hb3)
  replace hs2 := Nat.le_trans hs2 hb3.size
  clear hno hb3
  have ca0 := ba.cell 0 _ rfl
  have ca1 := ba.cell 1 _ rfl
  have ca2 := ba.cell 2 _ rfl
  have ca3 := ba.cell 3 _ rfl
  have ca4 := ba.cell 4 _ rfl
  have fa := ba.free
  go_wp2_with fail
  clear ca0 ca1 ca2 ca3 ca4 fa
  have hno := (hdo.at HNK.out HNV.out HND.out hkd).now.node
  refine (fits_b x _ _ _ w3 hno hsm.ok true false nx HLF.out HNX.out HFT.out).mono ?_
  rintro e w4 ⟨rfl, hb4⟩
  replace ba := ba.below hb4 (Nat.le_refl _)
  replace bz := bz.below hb4 (Nat.le_refl _)
  replace hB := hB.trans (hb4.mono (by omega))
  replace hdo := hdo.grow (GrowX.of_grow hb4)
  replace hkd := hkd.grow (GrowX.of_grow hb4)
  replace hs2 := Nat.le_trans hs2 hb4.size
  clear hno hb4
  have hz := bz.set5 (.bool true) (.slice ak nk nk) (.slice av nv nv) (.slice ad nd nd) (.int .i64 nx)
  have hgx := GrowX.of_growC (Y := fun q => q < g + 2) hz.2 (fun q i e => by omega)
  have hBF := hB.trans (hz.2.below (fun k hk => ⟨by omega, fun _ => by omega⟩))
  have hkF := ((hdo.at HNK.out HNV.out HND.out hkd).grow hgx).mono (Y := fun k => k < w.heap.size) (fun k _ h => by omega)
  have HBF := Lib.hid hBF
  have HKF := Lib.hid hkF
  clear hz hgx hBF hkF
  have ca0 := ba.cell 0 _ rfl
  have ca1 := ba.cell 1 _ rfl
  have ca2 := ba.cell 2 _ rfl
  have ca3 := ba.cell 3 _ rfl
  have ca4 := ba.cell 4 _ rfl
  have fa := ba.free
  have cz0 := bz.cell 0 _ rfl
  have cz1 := bz.cell 1 _ rfl
  have cz2 := bz.cell 2 _ rfl
  have cz3 := bz.cell 3 _ rfl
  have cz4 := bz.cell 4 _ rfl
  have fz := bz.free
  go_wp2
  refine bodyPost_ret (v := .tuple #[.agg #[.bool true, .slice ak nk nk, .slice av nv nv, .slice ad nd nd, .int .i64 nx], .bool false]) (by simp [results, Try.results19, go_sem, cz0, cz1, cz2, cz3, cz4]) rfl ?_
  refine ⟨.agg #[.bool true, .slice ak nk nk, .slice av nv nv, .slice ad nd nd, .int .i64 nx], by rw [HOK.out], ?_⟩
  rw [HDEL.out]
  exact ⟨ak, av, ad, by simp only [nodeV, HLF.out, HNX.out, HNK.out, HNV.out, HND.out], by rw [HNK.out, HNV.out, HND.out]; exact HKF.out.imp (fun _ h => h.mono (by omega)), HBF.out⟩

set_option maxRecDepth 100000 in
set_option maxHeartbeats 6400000 in
theorem del_lacks (x : Nd) (hsm : x.small) (hlf : x.leaf = true) (ks vs ds : Value) (k : List UInt8) (hft : x.fits = true) (hhas : fhas x.keys k = false) (kv : Value) (w : World) (hx : NodeAt w ks vs ds x) (hk : Reads 1 w kv k.length (k.map B)) (hkl : k.length ≤ 1048576) :
    Calls Try.prog 19 #[.agg #[.bool x.leaf, ks, vs, ds, .int .i64 x.next], kv] w fun e w' => ∃ r, e = .returned (.tuple #[r, .bool (x.delOk k)]) ∧ NodeEnd (x.del k) w w' r := by
  obtain ⟨ka, kc, rfl⟩ := hk.shape
  obtain ⟨kl, hkl2⟩ : ∃ q, k.length = q := ⟨_, rfl⟩
  rw [hkl2] at hk hkl ⊢
  have HKL := Lib.hid hkl2
  have HKR := Lib.hid hk
  clear hk hkl2
  have hok : x.delOk k = false := by unfold Nd.delOk; rw [hlf, hft, hhas]; rfl
  have hdel : x.del k = x := by unfold Nd.del; rw [if_neg (by rw [hok]; decide)]
  have HOK := Lib.hid hok
  have HDEL := Lib.hid hdel
  clear hok hdel
  obtain ⟨p, hp⟩ : ∃ p, fpos x.keys k = p := ⟨_, rfl⟩
  have hple : p ≤ x.keys.length := hp ▸ fpos_le x.keys k
  have HPL := Lib.hid hple
  have HPP := Lib.hid hp
  clear hple hp
  have HFT := Lib.hid hft
  clear hft
  have HH := Lib.hid hhas
  clear hhas
  obtain ⟨o1, o2, o3⟩ := hx.one
  obtain ⟨nk, hnk⟩ : ∃ nk, x.keys.length = nk := ⟨_, rfl⟩
  obtain ⟨nv, hnv⟩ : ∃ nv, x.vals.length = nv := ⟨_, rfl⟩
  obtain ⟨nd, hnd⟩ : ∃ nd, x.kids.length = nd := ⟨_, rfl⟩
  obtain ⟨nx, hnx⟩ : ∃ nx, x.next = nx := ⟨_, rfl⟩
  have hkm : nk ≤ 1048576 := hnk ▸ hsm.keys
  have hvm : nv ≤ 1048576 := hnv ▸ hsm.vals
  have hdm : nd ≤ 1048577 := hnd ▸ hsm.kids
  rw [hlf, hnx]
  obtain ⟨g, hg0⟩ : ∃ g, w.heap.size = g := ⟨_, rfl⟩
  have ba := (Box.new w #[.bool true, ks, vs, ds, .int .i64 nx] 25 hg0.symm).alloc (.cells #[.bool false, .slice none 0 0, .slice none 0 0, .slice none 0 0, .int .i64 0] 25)
  have bz : Box _ _ [.bool false, .slice none 0 0, .slice none 0 0, .slice none 0 0, .int .i64 0] := Box.new (w.alloc (.cells #[.bool true, ks, vs, ds, .int .i64 nx] 25)) #[.bool false, .slice none 0 0, .slice none 0 0, .slice none 0 0, .int .i64 0] 25 (g := g + 1) (by simp; omega)
  have hB := ((Below.refl w.heap.size w).alloc (Nat.le_refl _) (.cells #[.bool true, ks, vs, ds, .int .i64 nx] 25)).alloc (by simp) (.cells #[.bool false, .slice none 0 0, .slice none 0 0, .slice none 0 0, .int .i64 0] 25)
  have HG := Lib.hid hg0
  have hx2 := hx.below hB (Nat.le_refl _)
  have hs2 : ((w.alloc (.cells #[.bool true, ks, vs, ds, .int .i64 nx] 25)).alloc (.cells #[.bool false, .slice none 0 0, .slice none 0 0, .slice none 0 0, .int .i64 0] 25)).heap.size = g + 2 := by simp; omega
  have HW := Lib.hid (And.intro ba (And.intro bz (And.intro hB (And.intro hx2 hs2))))
  have HNK := Lib.hid hnk
  have HNV := Lib.hid hnv
  have HND := Lib.hid hnd
  have HNX := Lib.hid hnx
  have HLF := Lib.hid hlf
  clear hx ba bz hB hg0 hx2 hs2 hnk hnv hnd hnx hlf
  go_enter Try.func19, Try.ntmps19
  go_wp2_with fail
  rw [HG.out]
  have hgw : w.heap.size ≤ g := Nat.le_of_eq HG.out
  refine calls_world (fun u => Box u g [.bool true, ks, vs, ds, .int .i64 nx] ∧ Box u (g + 1) [.bool false, .slice none 0 0, .slice none 0 0, .slice none 0 0, .int .i64 0] ∧ Below w.heap.size w u ∧ NodeAt u ks vs ds x ∧ u.heap.size = g + 2) HW.out ?_
  clear HW
  rintro w0 ⟨ba, bz, hB, hx, hs0⟩
  refine (copied_b x ks vs ds w0 hx hsm.ok true nx nk nv nd HLF.out HNX.out HNK.out HNV.out HND.out).mono ?_
  rintro e w1 ⟨ak, ck, xk, av, cv, xv, ad, rfl, hdo, hkd, hb1⟩
  rw [hs0] at hdo hkd
  replace ba := ba.below hb1 (Nat.le_refl _)
  replace bz := bz.below hb1 (Nat.le_refl _)
  have hs1 : g + 2 ≤ w1.heap.size := by have := hb1.size; omega
  replace hB := hB.trans (hb1.mono (by omega))
  have hst := ba.set5 (.bool true) (.slice ak nk nk) (.slice av nv nv) (.slice ad nd nd) (.int .i64 nx)
  have hgx := GrowX.of_growC (Y := fun q => q < g + 2) hst.2 (fun q i e => by omega)
  have HW := Lib.hid (And.intro hst.1 (And.intro (bz.grow hst.2 (by intros; omega)) (And.intro (hB.trans (hst.2.below (fun k hk => ⟨by omega, fun _ => by omega⟩))) (And.intro (hdo.grow hgx) (And.intro (hkd.grow hgx) (Nat.le_trans hs1 hst.2.size))))))
  clear hb1 hx hs0 hst hgx hdo hkd hB
  have ca0 := ba.cell 0 _ rfl
  have ca1 := ba.cell 1 _ rfl
  have ca2 := ba.cell 2 _ rfl
  have ca3 := ba.cell 3 _ rfl
  have ca4 := ba.cell 4 _ rfl
  have fa := ba.free
  go_upto_region 2 with (fail)
  clear ca0 ca1 ca2 ca3 ca4 fa
  clear ba bz hs1
  refine wp_world (fun u => Box u g [.bool true, .slice ak nk nk, .slice av nv nv, .slice ad nd nd, .int .i64 nx] ∧ Box u (g + 1) [.bool false, .slice none 0 0, .slice none 0 0, .slice none 0 0, .int .i64 0] ∧ Below w.heap.size w u ∧ DO (g + 2) u (.slice ak nk ck) (.slice av nv cv) x.keys xk x.vals xv ∧ Kept (fun k => k < g + 2) u (fun w2 => Reads 1 w2 (.slice ad nd nd) nd (x.kids.map I) ∧ NewS (g + 2) w2 (.slice ad nd nd)) ∧ g + 2 ≤ u.heap.size) HW.out ?_
  clear HW
  rintro w2 ⟨ba, bz, hB, hdo, hkd, hs2⟩
  have ca0 := ba.cell 0 _ rfl
  have ca1 := ba.cell 1 _ rfl
  have ca2 := ba.cell 2 _ rfl
  have ca3 := ba.cell 3 _ rfl
  have ca4 := ba.cell 4 _ rfl
  have fa := ba.free
  go_wp2_with fail
  clear ca0 ca1 ca2 ca3 ca4 fa
  have hno := (hdo.at HNK.out HNV.out HND.out hkd).now.node
  refine (find_any x.keys true nx (.slice ak nk nk) (.slice av nv nv) (.slice ad nd nd) (.slice ka kl kc) rfl rfl k kl w2 hno.keys (HKR.out.below hB (Nat.le_refl _)) (by rw [HNK.out]; omega)).mono ?_
  rintro e w3 ⟨rfl, hb3⟩
  rw [HPP.out, HH.out]
  replace ba := ba.below hb3 (Nat.le_refl _)
  replace bz := bz.below hb3 (Nat.le_refl _)
  replace hB := hB.trans (hb3.mono (by omega))
  replace hdo := hdo.grow (GrowX.of_grow hb3)
  replace hkd := hkd.grow (GrowX.of_grow hb3)
  replace hs2 := Nat.le_trans hs2 hb3.size
  clear hno hb3
  have ca0 := ba.cell 0 _ rfl
  have ca1 := ba.cell 1 _ rfl
  have ca2 := ba.cell 2 _ rfl
  have ca3 := ba.cell 3 _ rfl
  have ca4 := ba.cell 4 _ rfl
  have fa := ba.free
  go_wp2_with fail
  clear ca0 ca1 ca2 ca3 ca4 fa
  have hno := (hdo.at HNK.out HNV.out HND.out hkd).now.node
  refine (fits_b x _ _ _ w3 hno hsm.ok true true nx HLF.out HNX.out HFT.out).mono ?_
  rintro e w4 ⟨rfl, hb4⟩
  replace ba := ba.below hb4 (Nat.le_refl _)
  replace bz := bz.below hb4 (Nat.le_refl _)
  replace hB := hB.trans (hb4.mono (by omega))
  replace hdo := hdo.grow (GrowX.of_grow hb4)
  replace hkd := hkd.grow (GrowX.of_grow hb4)
  replace hs2 := Nat.le_trans hs2 hb4.size
  clear hno hb4
  have hz := bz.set5 (.bool true) (.slice ak nk nk) (.slice av nv nv) (.slice ad nd nd) (.int .i64 nx)
  have hgx := GrowX.of_growC (Y := fun q => q < g + 2) hz.2 (fun q i e => by omega)
  have hBF := hB.trans (hz.2.below (fun k hk => ⟨by omega, fun _ => by omega⟩))
  have hkF := ((hdo.at HNK.out HNV.out HND.out hkd).grow hgx).mono (Y := fun k => k < w.heap.size) (fun k _ h => by omega)
  have HBF := Lib.hid hBF
  have HKF := Lib.hid hkF
  clear hz hgx hBF hkF
  have ca0 := ba.cell 0 _ rfl
  have ca1 := ba.cell 1 _ rfl
  have ca2 := ba.cell 2 _ rfl
  have ca3 := ba.cell 3 _ rfl
  have ca4 := ba.cell 4 _ rfl
  have fa := ba.free
  have cz0 := bz.cell 0 _ rfl
  have cz1 := bz.cell 1 _ rfl
  have cz2 := bz.cell 2 _ rfl
  have cz3 := bz.cell 3 _ rfl
  have cz4 := bz.cell 4 _ rfl
  have fz := bz.free
  go_wp2
  refine bodyPost_ret (v := .tuple #[.agg #[.bool true, .slice ak nk nk, .slice av nv nv, .slice ad nd nd, .int .i64 nx], .bool false]) (by simp [results, Try.results19, go_sem, cz0, cz1, cz2, cz3, cz4]) rfl ?_
  refine ⟨.agg #[.bool true, .slice ak nk nk, .slice av nv nv, .slice ad nd nd, .int .i64 nx], by rw [HOK.out], ?_⟩
  rw [HDEL.out]
  exact ⟨ak, av, ad, by simp only [nodeV, HLF.out, HNX.out, HNK.out, HNV.out, HND.out], by rw [HNK.out, HNV.out, HND.out]; exact HKF.out.imp (fun _ h => h.mono (by omega)), HBF.out⟩
def WDl5 (g nk nv nd p gk gv ck cv : Nat) (nx : Int) (ad : Option Addr) (xk xv : List Value) (j b o : Nat) : Prop := (j = 5 ∧ b = gk) ∨ (j = 11 ∧ b = gv)
def PDl5 (g nk nv nd p gk gv ck cv : Nat) (nx : Int) (ad : Option Addr) (xk xv : List Value) (i : Nat) (v : Value) (lo hi : Nat) (w : World) : Prop :=
  match i with
  | 0 => v = .pointer (some ⟨g, 1, none⟩)
  | 1 => v = .slice (some ⟨gk, 0, none⟩) nk nk
  | 2 => v = .int .i64 (p : Nat)
  | 3 => v = .int .i64 (p : Nat)
  | 4 => v = .int .i64 ((p : Int) + 1)
  | 5 => v = .slice (some ⟨gk, 0, none⟩) (nk - 1) nk ∧ w.ownsRow (g + 2) 28 1 (.slice (some ⟨gk, 0, none⟩) (nk - 1) ck) (nk - 1) (xk.eraseIdx p)
  | 6 => v = .pointer (some ⟨g, 2, none⟩)
  | 7 => v = .slice (some ⟨gv, 0, none⟩) nv nv
  | 8 => v = .int .i64 (p : Nat)
  | 9 => v = .int .i64 (p : Nat)
  | 10 => v = .int .i64 ((p : Int) + 1)
  | 11 => v = .slice (some ⟨gv, 0, none⟩) (nv - 1) nv ∧ w.ownsRow (g + 2) 28 1 (.slice (some ⟨gv, 0, none⟩) (nv - 1) cv) (nv - 1) (xv.eraseIdx p)
  | 12 => v = .pointer (some ⟨g, 1, none⟩)
  | _ => True
theorem PDl5_stable (g nk nv nd p gk gv ck cv : Nat) (nx : Int) (ad : Option Addr) (xk xv : List Value) (hne : gk ≠ gv) (hlk : g + 2 ≤ gk) (hlv : g + 2 ≤ gv) : ∀ i j, i < 13 → j < 13 → j ≠ i → j ∉ ([[], [0], [], [], [3], [0, 1, 2, 3, 4], [], [6], [], [], [9], [0, 1, 2, 3, 4, 5, 6, 7, 8, 9, 10], [0, 1, 2, 3, 4, 5, 6, 7]] : List (List Nat)).getD i [] → ∀ v lo hi w w', PDl5 g nk nv nd p gk gv ck cv nx ad xk xv i v lo hi w → GrowC (WDl5 g nk nv nd p gk gv ck cv nx ad xk xv j) w w' → PDl5 g nk nv nd p gk gv ck cv nx ad xk xv i v lo hi w' := by
  intro i j hi hj hne hbs v lo hj2 w w' h hg
  match i, hi with
  | 0, _ =>
    simp only [PDl5] at h ⊢
    exact h
  | 1, _ =>
    simp only [PDl5] at h ⊢
    exact h
  | 2, _ =>
    simp only [PDl5] at h ⊢
    exact h
  | 3, _ =>
    simp only [PDl5] at h ⊢
    exact h
  | 4, _ =>
    simp only [PDl5] at h ⊢
    exact h
  | 5, _ =>
    simp only [PDl5] at h ⊢
    obtain ⟨h1, h2⟩ := h
    exact ⟨h1, own_growx h2 (GrowX.of_growC (Y := fun q => q ≠ gk) hg (fun q i hw => by simp only [WDl5] at hw; omega)) (fun q e hq => hq (own_eq e))⟩
  | 6, _ =>
    simp only [PDl5] at h ⊢
    exact h
  | 7, _ =>
    simp only [PDl5] at h ⊢
    exact h
  | 8, _ =>
    simp only [PDl5] at h ⊢
    exact h
  | 9, _ =>
    simp only [PDl5] at h ⊢
    exact h
  | 10, _ =>
    simp only [PDl5] at h ⊢
    exact h
  | 11, _ =>
    simp only [PDl5] at h ⊢
    obtain ⟨h1, h2⟩ := h
    exact ⟨h1, own_growx h2 (GrowX.of_growC (Y := fun q => q ≠ gv) hg (fun q i hw => by simp only [WDl5] at hw; omega)) (fun q e hq => hq (own_eq e))⟩
  | 12, _ =>
    simp only [PDl5] at h ⊢
    exact h
  | (q + 13), hq => exact absurd hq (by omega)

set_option maxRecDepth 100000 in
set_option maxHeartbeats 6400000 in
theorem del_has (x : Nd) (hsm : x.small) (hlf : x.leaf = true) (ks vs ds : Value) (k : List UInt8) (hft : x.fits = true) (hhas : fhas x.keys k = true) (kv : Value) (w : World) (hx : NodeAt w ks vs ds x) (hk : Reads 1 w kv k.length (k.map B)) (hkl : k.length ≤ 1048576) :
    Calls Try.prog 19 #[.agg #[.bool x.leaf, ks, vs, ds, .int .i64 x.next], kv] w fun e w' => ∃ r, e = .returned (.tuple #[r, .bool (x.delOk k)]) ∧ NodeEnd (x.del k) w w' r := by
  obtain ⟨ka, kc, rfl⟩ := hk.shape
  obtain ⟨kl, hkl2⟩ : ∃ q, k.length = q := ⟨_, rfl⟩
  rw [hkl2] at hk hkl ⊢
  have HKL := Lib.hid hkl2
  have HKR := Lib.hid hk
  clear hk hkl2
  have hvk : x.vals.length = x.keys.length ∧ x.kids.length = 0 := by
    have := hft
    unfold Nd.fits fitsB at this
    rw [hlf] at this
    simpa using this
  have hok : x.delOk k = true := by unfold Nd.delOk; rw [hlf, hft, hhas]; rfl
  have hdel : x.del k = ⟨x.leaf, x.keys.eraseIdx (fpos x.keys k), x.vals.eraseIdx (fpos x.keys k), x.kids, x.next⟩ := by unfold Nd.del; rw [if_pos hok]
  obtain ⟨p, hp⟩ : ∃ p, fpos x.keys k = p := ⟨_, rfl⟩
  have hpl : p < x.keys.length := by
    have h := hhas
    unfold fhas at h
    rw [decide_eq_true_eq, hp] at h
    exact (List.getElem?_eq_some_iff.1 h).1
  rw [hp] at hdel
  have HVK := Lib.hid hvk
  have HOK := Lib.hid hok
  have HDEL := Lib.hid hdel
  have HPP := Lib.hid hp
  have HPL := Lib.hid hpl
  have HFT := Lib.hid hft
  have HH := Lib.hid hhas
  clear hok hdel hp hft hhas hvk hpl
  obtain ⟨o1, o2, o3⟩ := hx.one
  obtain ⟨nk, hnk⟩ : ∃ nk, x.keys.length = nk := ⟨_, rfl⟩
  obtain ⟨nv, hnv⟩ : ∃ nv, x.vals.length = nv := ⟨_, rfl⟩
  obtain ⟨nd, hnd⟩ : ∃ nd, x.kids.length = nd := ⟨_, rfl⟩
  obtain ⟨nx, hnx⟩ : ∃ nx, x.next = nx := ⟨_, rfl⟩
  have hkm : nk ≤ 1048576 := hnk ▸ hsm.keys
  have hvm : nv ≤ 1048576 := hnv ▸ hsm.vals
  have hdm : nd ≤ 1048577 := hnd ▸ hsm.kids
  rw [hlf, hnx]
  obtain ⟨g, hg0⟩ : ∃ g, w.heap.size = g := ⟨_, rfl⟩
  have ba := (Box.new w #[.bool true, ks, vs, ds, .int .i64 nx] 25 hg0.symm).alloc (.cells #[.bool false, .slice none 0 0, .slice none 0 0, .slice none 0 0, .int .i64 0] 25)
  have bz : Box _ _ [.bool false, .slice none 0 0, .slice none 0 0, .slice none 0 0, .int .i64 0] := Box.new (w.alloc (.cells #[.bool true, ks, vs, ds, .int .i64 nx] 25)) #[.bool false, .slice none 0 0, .slice none 0 0, .slice none 0 0, .int .i64 0] 25 (g := g + 1) (by simp; omega)
  have hB := ((Below.refl w.heap.size w).alloc (Nat.le_refl _) (.cells #[.bool true, ks, vs, ds, .int .i64 nx] 25)).alloc (by simp) (.cells #[.bool false, .slice none 0 0, .slice none 0 0, .slice none 0 0, .int .i64 0] 25)
  have HG := Lib.hid hg0
  have hx2 := hx.below hB (Nat.le_refl _)
  have hs2 : ((w.alloc (.cells #[.bool true, ks, vs, ds, .int .i64 nx] 25)).alloc (.cells #[.bool false, .slice none 0 0, .slice none 0 0, .slice none 0 0, .int .i64 0] 25)).heap.size = g + 2 := by simp; omega
  have HW := Lib.hid (And.intro ba (And.intro bz (And.intro hB (And.intro hx2 hs2))))
  have HNK := Lib.hid hnk
  have HNV := Lib.hid hnv
  have HND := Lib.hid hnd
  have HNX := Lib.hid hnx
  have HLF := Lib.hid hlf
  clear hx ba bz hB hg0 hx2 hs2 hnk hnv hnd hnx hlf
  go_enter Try.func19, Try.ntmps19
  go_wp2_with fail
  rw [HG.out]
  have hgw : w.heap.size ≤ g := Nat.le_of_eq HG.out
  refine calls_world (fun u => Box u g [.bool true, ks, vs, ds, .int .i64 nx] ∧ Box u (g + 1) [.bool false, .slice none 0 0, .slice none 0 0, .slice none 0 0, .int .i64 0] ∧ Below w.heap.size w u ∧ NodeAt u ks vs ds x ∧ u.heap.size = g + 2) HW.out ?_
  clear HW
  rintro w0 ⟨ba, bz, hB, hx, hs0⟩
  refine (copied_b x ks vs ds w0 hx hsm.ok true nx nk nv nd HLF.out HNX.out HNK.out HNV.out HND.out).mono ?_
  rintro e w1 ⟨ak, ck, xk, av, cv, xv, ad, rfl, hdo, hkd, hb1⟩
  rw [hs0] at hdo hkd
  replace ba := ba.below hb1 (Nat.le_refl _)
  replace bz := bz.below hb1 (Nat.le_refl _)
  have hs1 : g + 2 ≤ w1.heap.size := by have := hb1.size; omega
  replace hB := hB.trans (hb1.mono (by omega))
  have hst := ba.set5 (.bool true) (.slice ak nk nk) (.slice av nv nv) (.slice ad nd nd) (.int .i64 nx)
  have hgx := GrowX.of_growC (Y := fun q => q < g + 2) hst.2 (fun q i e => by omega)
  have HW := Lib.hid (And.intro hst.1 (And.intro (bz.grow hst.2 (by intros; omega)) (And.intro (hB.trans (hst.2.below (fun k hk => ⟨by omega, fun _ => by omega⟩))) (And.intro (hdo.grow hgx) (And.intro (hkd.grow hgx) (Nat.le_trans hs1 hst.2.size))))))
  clear hb1 hx hs0 hst hgx hdo hkd hB
  have ca0 := ba.cell 0 _ rfl
  have ca1 := ba.cell 1 _ rfl
  have ca2 := ba.cell 2 _ rfl
  have ca3 := ba.cell 3 _ rfl
  have ca4 := ba.cell 4 _ rfl
  have fa := ba.free
  go_upto_region 2 with (fail)
  clear ca0 ca1 ca2 ca3 ca4 fa
  clear ba bz hs1
  refine wp_world (fun u => Box u g [.bool true, .slice ak nk nk, .slice av nv nv, .slice ad nd nd, .int .i64 nx] ∧ Box u (g + 1) [.bool false, .slice none 0 0, .slice none 0 0, .slice none 0 0, .int .i64 0] ∧ Below w.heap.size w u ∧ DO (g + 2) u (.slice ak nk ck) (.slice av nv cv) x.keys xk x.vals xv ∧ Kept (fun k => k < g + 2) u (fun w2 => Reads 1 w2 (.slice ad nd nd) nd (x.kids.map I) ∧ NewS (g + 2) w2 (.slice ad nd nd)) ∧ g + 2 ≤ u.heap.size) HW.out ?_
  clear HW
  rintro w2 ⟨ba, bz, hB, hdo, hkd, hs2⟩
  have hpk : p < nk := by rw [← HNK.out]; exact HPL.out
  have hnv : nv = nk := by have := HVK.out.1; rw [HNV.out, HNK.out] at this; exact this
  have hnd : nd = 0 := by have := HVK.out.2; rw [HND.out] at this; exact this
  have hpv : p < nv := by omega
  have HNVK := Lib.hid hnv
  have HND0 := Lib.hid hnd
  clear hnv hnd
  have ca0 := ba.cell 0 _ rfl
  have ca1 := ba.cell 1 _ rfl
  have ca2 := ba.cell 2 _ rfl
  have ca3 := ba.cell 3 _ rfl
  have ca4 := ba.cell 4 _ rfl
  have fa := ba.free
  go_wp2_with fail
  clear ca0 ca1 ca2 ca3 ca4 fa
  have hno := (hdo.at HNK.out HNV.out HND.out hkd).now.node
  refine (find_any x.keys true nx (.slice ak nk nk) (.slice av nv nv) (.slice ad nd nd) (.slice ka kl kc) rfl rfl k kl w2 hno.keys (HKR.out.below hB (Nat.le_refl _)) (by rw [HNK.out]; omega)).mono ?_
  rintro e w3 ⟨rfl, hb3⟩
  rw [HPP.out, HH.out]
  replace ba := ba.below hb3 (Nat.le_refl _)
  replace bz := bz.below hb3 (Nat.le_refl _)
  replace hB := hB.trans (hb3.mono (by omega))
  replace hdo := hdo.grow (GrowX.of_grow hb3)
  replace hkd := hkd.grow (GrowX.of_grow hb3)
  replace hs2 := Nat.le_trans hs2 hb3.size
  clear hno hb3
  have ca0 := ba.cell 0 _ rfl
  have ca1 := ba.cell 1 _ rfl
  have ca2 := ba.cell 2 _ rfl
  have ca3 := ba.cell 3 _ rfl
  have ca4 := ba.cell 4 _ rfl
  have fa := ba.free
  go_wp2_with fail
  clear ca0 ca1 ca2 ca3 ca4 fa
  have hno := (hdo.at HNK.out HNV.out HND.out hkd).now.node
  refine (fits_b x _ _ _ w3 hno hsm.ok true true nx HLF.out HNX.out HFT.out).mono ?_
  rintro e w4 ⟨rfl, hb4⟩
  replace ba := ba.below hb4 (Nat.le_refl _)
  replace bz := bz.below hb4 (Nat.le_refl _)
  replace hB := hB.trans (hb4.mono (by omega))
  replace hdo := hdo.grow (GrowX.of_grow hb4)
  replace hkd := hkd.grow (GrowX.of_grow hb4)
  replace hs2 := Nat.le_trans hs2 hb4.size
  clear hno hb4
  obtain ⟨gv, cv', he, hgv1, hgv2, _, _⟩ := own_some hdo.b (fun e => by injection e with _ e2 _; omega)
  have hav := (Value.slice.inj he).1
  obtain rfl := (Value.slice.inj he).2.2
  subst hav
  clear he
  obtain ⟨gk, ck', he, hgk1, hgk2, _, _⟩ := own_some hdo.a (fun e => by injection e with _ e2 _; omega)
  have hak := (Value.slice.inj he).1
  obtain rfl := (Value.slice.inj he).2.2
  subst hak
  clear he
  have hne : gk ≠ gv := fun e => hdo.ne gk rfl (by subst e; rfl)
  have hoa := hdo.a
  have hob := hdo.b
  rw [HNK.out] at hoa
  rw [HNV.out] at hob
  have HOA := Lib.hid hoa
  have HOB := Lib.hid hob
  have H1K := Lib.hid hdo.t.now.1.one_cell
  have H1V := Lib.hid hdo.t.now.2.one_cell
  have HT := Lib.hid hdo.t
  have HNE := Lib.hid hdo.ne
  clear hoa hob hdo hkd
  have hgu : g < w4.heap.size := by omega
  have ca0 := ba.cell 0 _ rfl
  have ca1 := ba.cell 1 _ rfl
  have ca2 := ba.cell 2 _ rfl
  have ca3 := ba.cell 3 _ rfl
  have ca4 := ba.cell 4 _ rfl
  have fa := ba.free
  go_upto_region 5 with (fail)
  clear ca0 ca1 ca2 ca3 ca4 fa
  refine wp_region_partsDC (WDl5 g nk nv nd p gk gv ck cv nx ad xk xv) 13 [[], [0], [], [], [3], [0, 1, 2, 3, 4], [], [6], [], [], [9], [0, 1, 2, 3, 4, 5, 6, 7, 8, 9, 10], [0, 1, 2, 3, 4, 5, 6, 7]] [some 29, some 30, some 31, some 32, some 33, some 34, some 35, some 36, some 37, some 38, some 39, some 40, some 41, none, some 42, none] (by kernel_rfl) (by kernel_rfl) rfl (PDl5 g nk nv nd p gk gv ck cv nx ad xk xv) (PDl5_stable g nk nv nd p gk gv ck cv nx ad xk xv hne hgk1 hgv1) ?pDl5 ?_
  case pDl5 =>
    intro i hi o ho vs lo hx_ w' hg hp
    match i, hi with
    | 0, _ =>
      obtain rfl := Option.some.inj ho
      clear ho
      simp only [actsD, List.getD_cons_zero, List.getD_cons_succ, List.foldl_cons, List.foldl_nil, Act.put, List.setIfInBounds_toArray, List.set_cons_succ, List.set_cons_zero]
      have hsz := hg.size
      go_wp2
      exact ⟨_, rfl, GrowC.refl _, rfl⟩
    | 1, _ =>
      obtain rfl := Option.some.inj ho
      clear ho
      simp only [actsD, List.getD_cons_zero, List.getD_cons_succ, List.foldl_cons, List.foldl_nil, Act.put, List.setIfInBounds_toArray, List.set_cons_succ, List.set_cons_zero]
      obtain ⟨_, _, _, h0⟩ := hp 0 (by simp)
      simp only [PDl5] at h0
      have hsz := hg.size
      rw [h0]
      have e0 := (hg.cell (g) 1 ba.lt (by rintro ⟨j, _, hne, hb, hw⟩; simp only [WDl5] at hw; omega)).trans (ba.cell 1 _ rfl)
      go_wp2
      exact ⟨_, rfl, GrowC.refl _, rfl⟩
    | 2, _ =>
      obtain rfl := Option.some.inj ho
      clear ho
      simp only [actsD, List.getD_cons_zero, List.getD_cons_succ, List.foldl_cons, List.foldl_nil, Act.put, List.setIfInBounds_toArray, List.set_cons_succ, List.set_cons_zero]
      have hsz := hg.size
      go_wp2
      exact ⟨_, rfl, GrowC.refl _, rfl⟩
    | 3, _ =>
      obtain rfl := Option.some.inj ho
      clear ho
      simp only [actsD, List.getD_cons_zero, List.getD_cons_succ, List.foldl_cons, List.foldl_nil, Act.put, List.setIfInBounds_toArray, List.set_cons_succ, List.set_cons_zero]
      have hsz := hg.size
      go_wp2
      exact ⟨_, rfl, GrowC.refl _, rfl⟩
    | 4, _ =>
      obtain rfl := Option.some.inj ho
      clear ho
      simp only [actsD, List.getD_cons_zero, List.getD_cons_succ, List.foldl_cons, List.foldl_nil, Act.put, List.setIfInBounds_toArray, List.set_cons_succ, List.set_cons_zero]
      obtain ⟨_, _, _, h3⟩ := hp 3 (by simp)
      simp only [PDl5] at h3
      have hsz := hg.size
      rw [h3]
      go_wp2
      exact ⟨_, rfl, GrowC.refl _, rfl⟩
    | 5, _ =>
      obtain rfl := Option.some.inj ho
      clear ho
      simp only [actsD, List.getD_cons_zero, List.getD_cons_succ, List.foldl_cons, List.foldl_nil, Act.put, List.setIfInBounds_toArray, List.set_cons_succ, List.set_cons_zero]
      obtain ⟨_, _, _, h1⟩ := hp 1 (by simp)
      simp only [PDl5] at h1
      obtain ⟨_, _, _, h2⟩ := hp 2 (by simp)
      simp only [PDl5] at h2
      obtain ⟨_, _, _, h4⟩ := hp 4 (by simp)
      simp only [PDl5] at h4
      have hsz := hg.size
      rw [h1, h2, h4]
      have hown : w'.ownsRow (g + 2) 28 1 (.slice (some ⟨gk, 0, none⟩) nk ck) nk xk := own_growx HOA.out (GrowX.of_growC (Y := fun q => q ≠ gk) hg (fun q i hw => by obtain ⟨j, h1, h2, h3, h4⟩ := hw; simp only [WDl5] at h4; rcases h4 with ⟨rfl, h4⟩ | ⟨rfl, h4⟩ <;> first | omega | exact absurd (by decide) h3)) (fun q e hq => hq (own_eq e))
      go_wp2_with fail
      refine (delete_any (g + 2) xk gk nk ck p ((p : Int) + 1) w' hown (H1K.out) (by omega) rfl (by omega)).mono ?_
      rintro e wz ⟨rfl, ho, hX⟩
      go_wp2
      exact ⟨_, rfl, (growC_own hown ho hX).mono (fun k i e => .inl ⟨rfl, e⟩), rfl, ho⟩
    | 6, _ =>
      obtain rfl := Option.some.inj ho
      clear ho
      simp only [actsD, List.getD_cons_zero, List.getD_cons_succ, List.foldl_cons, List.foldl_nil, Act.put, List.setIfInBounds_toArray, List.set_cons_succ, List.set_cons_zero]
      have hsz := hg.size
      go_wp2
      exact ⟨_, rfl, GrowC.refl _, rfl⟩
    | 7, _ =>
      obtain rfl := Option.some.inj ho
      clear ho
      simp only [actsD, List.getD_cons_zero, List.getD_cons_succ, List.foldl_cons, List.foldl_nil, Act.put, List.setIfInBounds_toArray, List.set_cons_succ, List.set_cons_zero]
      obtain ⟨_, _, _, h6⟩ := hp 6 (by simp)
      simp only [PDl5] at h6
      have hsz := hg.size
      rw [h6]
      have e0 := (hg.cell (g) 2 ba.lt (by rintro ⟨j, _, hne, hb, hw⟩; simp only [WDl5] at hw; omega)).trans (ba.cell 2 _ rfl)
      go_wp2
      exact ⟨_, rfl, GrowC.refl _, rfl⟩
    | 8, _ =>
      obtain rfl := Option.some.inj ho
      clear ho
      simp only [actsD, List.getD_cons_zero, List.getD_cons_succ, List.foldl_cons, List.foldl_nil, Act.put, List.setIfInBounds_toArray, List.set_cons_succ, List.set_cons_zero]
      have hsz := hg.size
      go_wp2
      exact ⟨_, rfl, GrowC.refl _, rfl⟩
    | 9, _ =>
      obtain rfl := Option.some.inj ho
      clear ho
      simp only [actsD, List.getD_cons_zero, List.getD_cons_succ, List.foldl_cons, List.foldl_nil, Act.put, List.setIfInBounds_toArray, List.set_cons_succ, List.set_cons_zero]
      have hsz := hg.size
      go_wp2
      exact ⟨_, rfl, GrowC.refl _, rfl⟩
    | 10, _ =>
      obtain rfl := Option.some.inj ho
      clear ho
      simp only [actsD, List.getD_cons_zero, List.getD_cons_succ, List.foldl_cons, List.foldl_nil, Act.put, List.setIfInBounds_toArray, List.set_cons_succ, List.set_cons_zero]
      obtain ⟨_, _, _, h9⟩ := hp 9 (by simp)
      simp only [PDl5] at h9
      have hsz := hg.size
      rw [h9]
      go_wp2
      exact ⟨_, rfl, GrowC.refl _, rfl⟩
    | 11, _ =>
      obtain rfl := Option.some.inj ho
      clear ho
      simp only [actsD, List.getD_cons_zero, List.getD_cons_succ, List.foldl_cons, List.foldl_nil, Act.put, List.setIfInBounds_toArray, List.set_cons_succ, List.set_cons_zero]
      obtain ⟨_, _, _, h7⟩ := hp 7 (by simp)
      simp only [PDl5] at h7
      obtain ⟨_, _, _, h8⟩ := hp 8 (by simp)
      simp only [PDl5] at h8
      obtain ⟨_, _, _, h10⟩ := hp 10 (by simp)
      simp only [PDl5] at h10
      have hsz := hg.size
      rw [h7, h8, h10]
      have hown : w'.ownsRow (g + 2) 28 1 (.slice (some ⟨gv, 0, none⟩) nv cv) nv xv := own_growx HOB.out (GrowX.of_growC (Y := fun q => q ≠ gv) hg (fun q i hw => by obtain ⟨j, h1, h2, h3, h4⟩ := hw; simp only [WDl5] at h4; rcases h4 with ⟨rfl, h4⟩ | ⟨rfl, h4⟩ <;> first | omega | exact absurd (by decide) h3)) (fun q e hq => hq (own_eq e))
      go_wp2_with fail
      refine (delete_any (g + 2) xv gv nv cv p ((p : Int) + 1) w' hown (H1V.out) (by omega) rfl (by omega)).mono ?_
      rintro e wz ⟨rfl, ho, hX⟩
      go_wp2
      exact ⟨_, rfl, (growC_own hown ho hX).mono (fun k i e => .inr ⟨rfl, e⟩), rfl, ho⟩
    | 12, _ =>
      obtain rfl := Option.some.inj ho
      clear ho
      simp only [actsD, List.getD_cons_zero, List.getD_cons_succ, List.foldl_cons, List.foldl_nil, Act.put, List.setIfInBounds_toArray, List.set_cons_succ, List.set_cons_zero]
      have hsz := hg.size
      go_wp2
      exact ⟨_, rfl, GrowC.refl _, rfl⟩
    | (q + 13), hq => exact absurd hq (by omega)
  intro vS lo hi w5 hg hp hd
  obtain ⟨_, _, _, h0⟩ := hp 0 (by omega)
  obtain ⟨_, _, _, h1⟩ := hp 1 (by omega)
  obtain ⟨_, _, _, h2⟩ := hp 2 (by omega)
  obtain ⟨_, _, _, h3⟩ := hp 3 (by omega)
  obtain ⟨_, _, _, h4⟩ := hp 4 (by omega)
  obtain ⟨_, _, _, h5⟩ := hp 5 (by omega)
  obtain ⟨_, _, _, h6⟩ := hp 6 (by omega)
  obtain ⟨_, _, _, h7⟩ := hp 7 (by omega)
  obtain ⟨_, _, _, h8⟩ := hp 8 (by omega)
  obtain ⟨_, _, _, h9⟩ := hp 9 (by omega)
  obtain ⟨_, _, _, h10⟩ := hp 10 (by omega)
  obtain ⟨_, _, _, h11⟩ := hp 11 (by omega)
  obtain ⟨_, _, _, h12⟩ := hp 12 (by omega)
  simp only [PDl5] at h0 h1 h2 h3 h4 h5 h6 h7 h8 h9 h10 h11 h12
  clear hp hd
  have hsz := hg.size
  replace ba := ba.grow hg (by intro i _; rintro ⟨j, _, hw⟩; simp only [WDl5] at hw; omega)
  replace hB := hB.trans (hg.below (fun k hk => ⟨by omega, fun o => by rintro ⟨j, _, hw⟩; simp only [WDl5] at hw; omega⟩))
  have hr : List.range 13 = [0, 1, 2, 3, 4, 5, 6, 7, 8, 9, 10, 11, 12] := rfl
  rw [hr]
  clear hr
  simp only [List.drop_succ_cons, List.drop_zero, List.drop_nil, actsD, List.getD_cons_zero, List.getD_cons_succ, List.foldl_cons, List.foldl_nil, Act.put, List.setIfInBounds_toArray, List.set_cons_succ, List.set_cons_zero, h0, h1, h2, h3, h4, h6, h7, h8, h9, h10, h12]
  clear h0 h1 h2 h3 h4 h6 h7 h8 h9 h10 h12
  obtain ⟨e5, ho5⟩ := h5
  obtain ⟨e11, ho11⟩ := h11
  simp only [e5, e11]
  have hgx : GrowX (XR (g + 2) (.slice (some ⟨gk, 0, none⟩) nk ck) (.slice (some ⟨gv, 0, none⟩) nv cv)) w4 w5 := GrowX.of_growC hg (fun q i hw => by
    obtain ⟨j, _, hw⟩ := hw
    simp only [WDl5] at hw
    rcases hw with ⟨_, rfl⟩ | ⟨_, rfl⟩
    · exact .inr (.inl rfl)
    · exact .inr (.inr rfl))
  have hdo : DO (g + 2) w5 (.slice (some ⟨gk, 0, none⟩) (nk - 1) ck) (.slice (some ⟨gv, 0, none⟩) (nv - 1) cv) (x.keys.eraseIdx p) (xk.eraseIdx p) (x.vals.eraseIdx p) (xv.eraseIdx p) :=
    ⟨by rw [List.length_eraseIdx, HNK.out, if_pos hpk]; exact ho5, by rw [List.length_eraseIdx, HNV.out, if_pos hpv]; exact ho11,
     ((HT.out.grow hgx).mono (fun q _ hq => hq)).imp (fun w hw => ⟨hw.1.erase p, hw.2.erase p⟩), fun q e1 e2 => HNE.out q e1 e2, by omega⟩
  replace bz := bz.grow hg (by intro i _; rintro ⟨j, _, hw⟩; simp only [WDl5] at hw; omega)
  clear hg hgx e5 e11 ho5 ho11 HT HNE
  have hs5 : g + 2 ≤ w5.heap.size := by omega
  have hst := ba.set1 1 (.slice (some ⟨gk, 0, none⟩) (nk - 1) nk)
  have hst2 := hst.1.set1 2 (.slice (some ⟨gv, 0, none⟩) (nv - 1) nv)
  have hgx := (GrowX.of_growC (Y := fun q => q < g + 2) hst.2 (fun q i e => by have := e.1; omega)).trans (GrowX.of_growC (Y := fun q => q < g + 2) hst2.2 (fun q i e => by have := e.1; omega))
  have HW := Lib.hid (And.intro hst2.1 (And.intro ((bz.grow hst.2 (by intros; omega)).grow hst2.2 (by intros; omega)) (And.intro ((hB.trans (hst.2.below (fun k hk => ⟨by omega, fun _ => by omega⟩))).trans (hst2.2.below (fun k hk => ⟨by have := hst.2.size; omega, fun _ => by omega⟩))) (And.intro (hdo.grow hgx) (Nat.le_trans hs5 (Nat.le_trans hst.2.size hst2.2.size))))))
  clear hdo hB hst hst2 hgx
  have ca0 := ba.cell 0 _ rfl
  have ca1 := ba.cell 1 _ rfl
  have ca2 := ba.cell 2 _ rfl
  have ca3 := ba.cell 3 _ rfl
  have ca4 := ba.cell 4 _ rfl
  have fa := ba.free
  go_upto_region 6 with (fail)
  clear ca0 ca1 ca2 ca3 ca4 fa
  clear ba bz hs5 hs2
  refine wp_world (fun u => Box u g [.bool true, .slice (some ⟨gk, 0, none⟩) (nk - 1) nk, .slice (some ⟨gv, 0, none⟩) (nv - 1) nv, .slice ad nd nd, .int .i64 nx] ∧ Box u (g + 1) [.bool false, .slice none 0 0, .slice none 0 0, .slice none 0 0, .int .i64 0] ∧ Below w.heap.size w u ∧ DO (g + 2) u (.slice (some ⟨gk, 0, none⟩) (nk - 1) ck) (.slice (some ⟨gv, 0, none⟩) (nv - 1) cv) (x.keys.eraseIdx p) (xk.eraseIdx p) (x.vals.eraseIdx p) (xv.eraseIdx p) ∧ g + 2 ≤ u.heap.size) HW.out ?_
  clear HW
  rintro w12 ⟨ba, bz, hB, hdo, hs12⟩
  have ca0 := ba.cell 0 _ rfl
  have ca1 := ba.cell 1 _ rfl
  have ca2 := ba.cell 2 _ rfl
  have ca3 := ba.cell 3 _ rfl
  have ca4 := ba.cell 4 _ rfl
  have fa := ba.free
  go_wp2_with fail
  clear ca0 ca1 ca2 ca3 ca4 fa
  refine (clip_any true nx (some ⟨gk, 0, none⟩) (some ⟨gv, 0, none⟩) ad (nk - 1) (nv - 1) nd nk nv nd w12 (by omega) (by omega) (Nat.le_refl _)).mono ?_
  rintro e w13 ⟨rfl, hb13⟩
  replace bz := bz.below hb13 (Nat.le_refl _)
  replace hB := hB.trans (hb13.mono (by have := hB.size; omega))
  replace hdo := hdo.grow (GrowX.of_grow hb13)
  replace hs12 := Nat.le_trans hs12 hb13.size
  clear ba hb13
  have hz := bz.set5 (.bool true) (.slice (some ⟨gk, 0, none⟩) (nk - 1) (nk - 1)) (.slice (some ⟨gv, 0, none⟩) (nv - 1) (nv - 1)) (.slice ad nd nd) (.int .i64 nx)
  have hgx := GrowX.of_growC (Y := fun q => q < g + 2) hz.2 (fun q i e => by omega)
  have hBF := hB.trans (hz.2.below (fun k hk => ⟨by omega, fun _ => by omega⟩))
  obtain ⟨y, hy⟩ : ∃ y, y = (⟨x.leaf, x.keys.eraseIdx p, x.vals.eraseIdx p, x.kids, x.next⟩ : Nd) := ⟨_, rfl⟩
  have hyk : y.kids.length = nd := by rw [hy]; exact HND.out
  have hyv : y.vals.length = nv - 1 := by rw [hy]; show (x.vals.eraseIdx p).length = nv - 1; rw [List.length_eraseIdx, HNV.out, if_pos hpv]
  have hynk : y.keys.length = nk - 1 := by rw [hy]; show (x.keys.eraseIdx p).length = nk - 1; rw [List.length_eraseIdx, HNK.out, if_pos hpk]
  have hkids : y.kids = [] := by rw [hy]; exact List.eq_nil_of_length_eq_zero (by show x.kids.length = 0; rw [HND.out]; exact HND0.out)
  have hkF := ((DO.at (x := y) (ds := .slice ad nd nd) (by rw [hy]; exact hdo) hynk hyv hyk (fun w2 _ => by rw [hkids, HND0.out]; exact ⟨reads_zero, NewS.empty⟩)).grow hgx).mono (Y := fun k => k < w.heap.size) (fun k _ h => by omega)
  have HBF := Lib.hid hBF
  have HKF := Lib.hid hkF
  have HY := Lib.hid hy
  have hyl : y.leaf = true := by rw [hy]; exact HLF.out
  have hyn : y.next = nx := by rw [hy]; exact HNX.out
  have HYL := Lib.hid hyl
  have HYN := Lib.hid hyn
  have HYK := Lib.hid hyk
  have HYV := Lib.hid hyv
  have HYNK := Lib.hid hynk
  clear hz hgx hBF hkF hy hyk hyv hynk hkids hyl hyn hdo hB
  have cz0 := bz.cell 0 _ rfl
  have cz1 := bz.cell 1 _ rfl
  have cz2 := bz.cell 2 _ rfl
  have cz3 := bz.cell 3 _ rfl
  have cz4 := bz.cell 4 _ rfl
  have fz := bz.free
  go_wp2
  refine bodyPost_ret (v := .tuple #[.agg #[.bool true, .slice (some ⟨gk, 0, none⟩) (nk - 1) (nk - 1), .slice (some ⟨gv, 0, none⟩) (nv - 1) (nv - 1), .slice ad nd nd, .int .i64 nx], .bool true]) (by simp [results, Try.results19, go_sem, cz0, cz1, cz2, cz3, cz4]) rfl ?_
  refine ⟨_, by rw [HOK.out], ?_⟩
  rw [HDEL.out, ← HY.out]
  exact ⟨some ⟨gk, 0, none⟩, some ⟨gv, 0, none⟩, ad, by simp only [nodeV, HYL.out, HYN.out, HYNK.out, HYV.out, HYK.out], by rw [HYNK.out, HYV.out, HYK.out]; exact HKF.out.imp (fun _ h => h.mono (by omega)), HBF.out⟩

theorem del_any (x : Nd) (hsm : x.small) (ks vs ds : Value) (k : List UInt8) (kv : Value) (w : World) (hx : NodeAt w ks vs ds x) (hk : Reads 1 w kv k.length (k.map B)) (hkl : k.length ≤ 1048576) :
    Calls Try.prog 19 #[.agg #[.bool x.leaf, ks, vs, ds, .int .i64 x.next], kv] w fun e w' => ∃ r, e = .returned (.tuple #[r, .bool (x.delOk k)]) ∧ NodeEnd (x.del k) w w' r := by
  cases h1 : x.leaf with
  | false => rw [← h1]; exact del_inner x hsm h1 ks vs ds k kv w hx hk hkl
  | true =>
    rw [← h1]
    cases h2 : x.fits with
    | false => exact del_unfit x hsm h1 ks vs ds k h2 kv w hx hk hkl
    | true =>
      cases h3 : fhas x.keys k with
      | true => exact del_has x hsm h1 ks vs ds k h2 h3 kv w hx hk hkl
      | false => exact del_lacks x hsm h1 ks vs ds k h2 h3 kv w hx hk hkl

end Go.Proofs.Ytfbblgcdggpehaa

/- The walk of NodeCodes: true at every node and all bytes. Conditions: short lists. -/
import Derived.Test.YtfbblgcdggpehaaRDecP
namespace Go.Proofs.Ytfbblgcdggpehaa
set_option linter.unusedSimpArgs false
set_option linter.unusedVariables false
open Go.RowKit

def WNc5 (g3 g4 ln c1 c2 nk1 ck1 nv1 cv1 nd1 cd1 nk2 ck2 nv2 cv2 nd2 cd2 : Nat) (er yn : Int) (a1 a2 ak1 av1 ad1 ak2 av2 ad2 : Option Addr) (yl ok : Bool) (l : List UInt8) (y : Nd) (j b o : Nat) : Prop := False
def PNc5 (g3 g4 ln c1 c2 nk1 ck1 nv1 cv1 nd1 cd1 nk2 ck2 nv2 cv2 nd2 cd2 : Nat) (er yn : Int) (a1 a2 ak1 av1 ad1 ak2 av2 ad2 : Option Addr) (yl ok : Bool) (l : List UInt8) (y : Nd) (i : Nat) (v : Value) (lo hi : Nat) (w : World) : Prop :=
  match i with
  | 0 => v = .slice a1 ln c1
  | 1 => v = .string ⟨l.toArray⟩
  | 2 => v = .slice a2 ln c2
  | 3 => v = .string ⟨l.toArray⟩
  | 4 => v = .bool true
  | 5 => v = .bool true
  | 6 => v = .int .i64 er
  | 7 => v = .int .i64 er
  | 8 => v = .bool true
  | 9 => v = .bool true
  | 10 => v = .bool true
  | 11 => v = .agg #[.bool yl, .slice ak1 nk1 ck1, .slice av1 nv1 cv1, .slice ad1 nd1 cd1, .int .i64 yn]
  | 12 => ∃ r1 r2, v = .agg #[.bool yl, r1, r2, (.slice ad1 nd1 cd1), .int .i64 yn] ∧ RefAt w r1 r2 (.slice ad1 nd1 cd1) y
  | 13 => v = .agg #[.bool yl, .slice ak2 nk2 ck2, .slice av2 nv2 cv2, .slice ad2 nd2 cd2, .int .i64 yn]
  | 14 => v = .bool true
  | 15 => v = .bool true
  | 16 => v = .bool true
  | 17 => v = .bool ok
  | 18 => v = .bool ok
  | 19 => v = .bool true
  | 20 => v = .bool true
  | 21 => v = .bool true
  | 22 => v = .bool true
  | 23 => v = .bool true
  | _ => True
theorem PNc5_stable (g3 g4 ln c1 c2 nk1 ck1 nv1 cv1 nd1 cd1 nk2 ck2 nv2 cv2 nd2 cd2 : Nat) (er yn : Int) (a1 a2 ak1 av1 ad1 ak2 av2 ad2 : Option Addr) (yl ok : Bool) (l : List UInt8) (y : Nd)  : ∀ i j, i < 24 → j < 24 → j ≠ i → j ∉ ([[], [0], [], [2], [0, 1, 2, 3], [0, 1, 2, 3, 4], [0, 1, 2, 3, 4, 5], [0, 1, 2, 3, 4, 5], [0, 1, 2, 3, 4, 5, 6, 7], [0, 1, 2, 3, 4, 5, 6, 7, 8], [0, 1, 2, 3, 4, 5, 6, 7, 8, 9], [0, 1, 2, 3, 4, 5, 6, 7, 8, 9, 10], [0, 1, 2, 3, 4, 5, 6, 7, 8, 9, 10, 11], [0, 1, 2, 3, 4, 5, 6, 7, 8, 9, 10], [0, 1, 2, 3, 4, 5, 6, 7, 8, 9, 10, 11, 12, 13], [0, 1, 2, 3, 4, 5, 6, 7, 8, 9, 10, 11, 12, 13, 14], [0, 1, 2, 3, 4, 5, 6, 7, 8, 9, 10, 11, 12, 13, 14, 15], [0, 1, 2, 3, 4, 5, 6, 7, 8, 9, 10, 11, 12, 13, 14, 15, 16], [0, 1, 2, 3, 4, 5, 6, 7, 8, 9, 10, 11, 12, 13, 14, 15, 16], [0, 1, 2, 3, 4, 5, 6, 7, 8, 9, 10, 11, 12, 13, 14, 15, 16, 17, 18], [0, 1, 2, 3, 4, 5, 6, 7, 8, 9, 10, 11, 12, 13, 14, 15, 16, 17, 18, 19], [0, 1, 2, 3, 4, 5, 6, 7, 8, 9, 10, 11, 12, 13, 14, 15, 16, 17, 18, 19, 20], [0, 1, 2, 3, 4, 5, 6, 7, 8, 9, 10, 11, 12, 13, 14, 15, 16, 17, 18, 19, 20, 21], [0, 1, 2, 3, 4, 5, 6, 7, 8, 9, 10, 11, 12, 13, 14, 15, 16, 17, 18, 19, 20, 21, 22]] : List (List Nat)).getD i [] → ∀ v lo hi w w', PNc5 g3 g4 ln c1 c2 nk1 ck1 nv1 cv1 nd1 cd1 nk2 ck2 nv2 cv2 nd2 cd2 er yn a1 a2 ak1 av1 ad1 ak2 av2 ad2 yl ok l y i v lo hi w → GrowC (WNc5 g3 g4 ln c1 c2 nk1 ck1 nv1 cv1 nd1 cd1 nk2 ck2 nv2 cv2 nd2 cd2 er yn a1 a2 ak1 av1 ad1 ak2 av2 ad2 yl ok l y j) w w' → PNc5 g3 g4 ln c1 c2 nk1 ck1 nv1 cv1 nd1 cd1 nk2 ck2 nv2 cv2 nd2 cd2 er yn a1 a2 ak1 av1 ad1 ak2 av2 ad2 yl ok l y i v lo hi w' := by
  intro i j hi hj hne hbs v lo hj2 w w' h hg
  match i, hi with
  | 0, _ =>
    simp only [PNc5] at h ⊢
    exact h
  | 1, _ =>
    simp only [PNc5] at h ⊢
    exact h
  | 2, _ =>
    simp only [PNc5] at h ⊢
    exact h
  | 3, _ =>
    simp only [PNc5] at h ⊢
    exact h
  | 4, _ =>
    simp only [PNc5] at h ⊢
    exact h
  | 5, _ =>
    simp only [PNc5] at h ⊢
    exact h
  | 6, _ =>
    simp only [PNc5] at h ⊢
    exact h
  | 7, _ =>
    simp only [PNc5] at h ⊢
    exact h
  | 8, _ =>
    simp only [PNc5] at h ⊢
    exact h
  | 9, _ =>
    simp only [PNc5] at h ⊢
    exact h
  | 10, _ =>
    simp only [PNc5] at h ⊢
    exact h
  | 11, _ =>
    simp only [PNc5] at h ⊢
    exact h
  | 12, _ =>
    simp only [PNc5] at h ⊢
    obtain ⟨r1, r2, h1, h2⟩ := h; exact ⟨r1, r2, h1, h2.below (hg.below (B := w.heap.size) (fun k hk => ⟨hk, fun _ hw => False.elim hw⟩)) (Nat.le_refl _)⟩
  | 13, _ =>
    simp only [PNc5] at h ⊢
    exact h
  | 14, _ =>
    simp only [PNc5] at h ⊢
    exact h
  | 15, _ =>
    simp only [PNc5] at h ⊢
    exact h
  | 16, _ =>
    simp only [PNc5] at h ⊢
    exact h
  | 17, _ =>
    simp only [PNc5] at h ⊢
    exact h
  | 18, _ =>
    simp only [PNc5] at h ⊢
    exact h
  | 19, _ =>
    simp only [PNc5] at h ⊢
    exact h
  | 20, _ =>
    simp only [PNc5] at h ⊢
    exact h
  | 21, _ =>
    simp only [PNc5] at h ⊢
    exact h
  | 22, _ =>
    simp only [PNc5] at h ⊢
    exact h
  | 23, _ =>
    simp only [PNc5] at h ⊢
    exact h
  | (q + 24), hq => exact absurd hq (by omega)

set_option maxRecDepth 100000 in
set_option maxHeartbeats 3200000 in
theorem codes_any (x : Nd) (hsm : x.small) (ks vs ds : Value) (L : List UInt8) (v : Value) (w : World) (hx : NodeAt w ks vs ds x) (hr : Reads 1 w v L.length (L.map B)) (hL : L.length ≤ 1048576) (b : Bool) (n : Int) (hlf : x.leaf = b) (hn : x.next = n) :
    Calls Try.prog 5 #[.agg #[.bool b, ks, vs, ds, .int .i64 n], v] w fun e w' => e = .returned (.bool true) ∧ Below w.heap.size w w' := by
  obtain ⟨l, er, hE⟩ := enc_both x
  obtain ⟨y, ok, hys, hD1, hD2⟩ := dec_both L hL
  have HE := Lib.hid hE
  have HD1 := Lib.hid hD1
  have HD2 := Lib.hid hD2
  clear hE hD1 hD2
  obtain ⟨_, ⟨ka, kc, rfl, _⟩, _⟩ := id hx.keys
  obtain ⟨_, ⟨va, vc, rfl, _⟩, _⟩ := id hx.vals
  obtain ⟨da, dc, rfl⟩ := hx.kids.shape
  obtain ⟨po, pc, rfl⟩ := hr.shape
  obtain ⟨nk, hnk⟩ : ∃ nk, x.keys.length = nk := ⟨_, rfl⟩
  obtain ⟨nv, hnv⟩ : ∃ nv, x.vals.length = nv := ⟨_, rfl⟩
  obtain ⟨nd, hnd⟩ : ∃ nd, x.kids.length = nd := ⟨_, rfl⟩
  obtain ⟨pn, hpn⟩ : ∃ pn, L.length = pn := ⟨_, rfl⟩
  obtain ⟨ln, hln⟩ : ∃ ln, l.length = ln := ⟨_, rfl⟩
  obtain ⟨yl, hyl⟩ : ∃ q, y.leaf = q := ⟨_, rfl⟩
  obtain ⟨yn, hyn⟩ : ∃ q, y.next = q := ⟨_, rfl⟩
  simp only [hnk, hnv, hnd, hpn] at hx hr ⊢
  obtain ⟨g, hg0⟩ : ∃ g, w.heap.size = g := ⟨_, rfl⟩
  have ba := Box.new w #[.bool b, .slice ka nk kc, .slice va nv vc, .slice da nd dc, .int .i64 n] 25 hg0.symm
  have hB := (Below.refl w.heap.size w).alloc (Nat.le_refl _) (.cells #[.bool b, .slice ka nk kc, .slice va nv vc, .slice da nd dc, .int .i64 n] 25)
  have HG := Lib.hid hg0
  have HW := Lib.hid (⟨ba, hB, hx.below hB (Nat.le_refl _), hr.below hB (Nat.le_refl _), by simp; omega⟩ : Box _ _ _ ∧ _ ∧ _ ∧ _ ∧ g + 1 ≤ (w.alloc (.cells #[.bool b, .slice ka nk kc, .slice va nv vc, .slice da nd dc, .int .i64 n] 25)).heap.size)
  have HLF := Lib.hid hlf
  have HN := Lib.hid hn
  have HLN := Lib.hid hln
  have HPN := Lib.hid hpn
  have HYL := Lib.hid hyl
  have HYN := Lib.hid hyn
  clear hx hr hnk hnv hnd hpn hln hg0 hlf hn ba hB hyl hyn
  go_enter Try.func5, Try.ntmps5
  go_wp2_with fail
  rw [HG.out]
  refine calls_world (fun u => Box u g [.bool b, .slice ka nk kc, .slice va nv vc, .slice da nd dc, .int .i64 n] ∧ Below w.heap.size w u ∧ NodeAt u (.slice ka nk kc) (.slice va nv vc) (.slice da nd dc) x ∧ Reads 1 u (.slice po pn pc) pn (L.map B) ∧ g + 1 ≤ u.heap.size) HW.out ?_
  clear HW
  rintro w1 ⟨ba, hB, hx, hr, hs⟩
  have hgw : w.heap.size ≤ g := Nat.le_of_eq HG.out
  refine (penc_any x hsm _ _ _ w1 hx b n HLF.out HN.out).mono ?_
  intro e w2 he
  obtain ⟨hb2, a1, c1, rfl, hr1⟩ := HE.out _ _ _ he
  rw [HLN.out] at hr1 ⊢
  replace ba := ba.below hb2 (Nat.le_refl _)
  replace hB := hB.trans (hb2.mono (by omega))
  replace hx := hx.below hb2 (Nat.le_refl _)
  replace hr := hr.below hb2 (Nat.le_refl _)
  replace hs := Nat.le_trans hs hb2.size
  clear he hb2
  have HX := Lib.hid hx
  have HR := Lib.hid hr
  have HR1 := Lib.hid hr1
  clear hx hr hr1
  have ca0 := ba.cell 0 _ rfl
  have ca1 := ba.cell 1 _ rfl
  have ca2 := ba.cell 2 _ rfl
  have ca3 := ba.cell 3 _ rfl
  have ca4 := ba.cell 4 _ rfl
  have fa := ba.free
  go_wp2_with fail
  clear ca0 ca1 ca2 ca3 ca4 fa
  refine (to_small x _ _ _ w2 HX.out hsm b n HLF.out HN.out).mono ?_
  rintro e w3 ⟨r1, r2, rfl, hrf, hb3⟩
  have o1 : r1.oneCell' = true := by obtain ⟨_, _, rfl, _⟩ := hrf.keys; rfl
  have o2 : r2.oneCell' = true := by obtain ⟨_, _, rfl, _⟩ := hrf.vals; rfl
  have HRF := Lib.hid hrf
  clear hrf
  go_wp2_with fail
  refine (renc_any x hsm _ _ _ w3 HRF.out b n HLF.out HN.out).mono ?_
  intro e w4 he
  obtain ⟨hb4, a2, c2, rfl, hr2⟩ := HE.out _ _ _ he
  rw [HLN.out] at hr2 ⊢
  have hb24 := hb3.trans (hb4.mono hb3.size)
  replace ba := ba.below hb24 (Nat.le_refl _)
  replace hB := hB.trans (hb24.mono (by omega))
  replace HR := Lib.hid (HR.out.below hb24 (Nat.le_refl _))
  replace HR1 := Lib.hid (HR1.out.below hb24 (Nat.le_refl _))
  have HR2 := Lib.hid hr2
  replace hs := Nat.le_trans hs hb24.size
  clear he hb24 hb3 hb4 hr2 HX HRF o1 o2
  go_wp2_with fail
  refine (pdec_any L _ w4 (by rw [HPN.out]; exact HR.out)).mono ?_
  intro e w5 he
  obtain ⟨hb5, ak1, nk1, ck1, av1, nv1, cv1, ad1, nd1, cd1, rfl, hy1⟩ := HD1.out _ _ _ he
  rw [HYL.out, HYN.out]
  replace hB := hB.trans (hb5.mono (by omega))
  replace HR := Lib.hid (HR.out.below hb5 (Nat.le_refl _))
  replace HR1 := Lib.hid (HR1.out.below hb5 (Nat.le_refl _))
  replace HR2 := Lib.hid (HR2.out.below hb5 (Nat.le_refl _))
  replace hs := Nat.le_trans hs hb5.size
  clear he hb5 ba
  obtain ⟨g3, hg3⟩ : ∃ g3, w5.heap.size = g3 := ⟨_, rfl⟩
  have bc := Box.new w5 #[.bool yl, .slice ak1 nk1 ck1, .slice av1 nv1 cv1, .slice ad1 nd1 cd1, .int .i64 yn] 25 hg3.symm
  have hgr := (Below.refl w5.heap.size w5).alloc (Nat.le_refl _) (.cells #[.bool yl, .slice ak1 nk1 ck1, .slice av1 nv1 cv1, .slice ad1 nd1 cd1, .int .i64 yn] 25)
  have HG3 := Lib.hid hg3
  have HW := Lib.hid (⟨bc, hB.trans (hgr.mono (by omega)), HR.out.below hgr (Nat.le_refl _), HR1.out.below hgr (Nat.le_refl _), HR2.out.below hgr (Nat.le_refl _), hy1.below hgr (Nat.le_refl _), by simp; omega⟩ : Box _ _ _ ∧ _ ∧ _ ∧ _ ∧ _ ∧ _ ∧ g3 + 1 ≤ (w5.alloc (.cells #[.bool yl, .slice ak1 nk1 ck1, .slice av1 nv1 cv1, .slice ad1 nd1 cd1, .int .i64 yn] 25)).heap.size)
  have hg3w : w.heap.size ≤ g3 := by omega
  clear bc hgr hg3 hB HR HR1 HR2 hy1 hs
  go_wp2_with fail
  rw [HG3.out]
  refine calls_world (fun u => Box u g3 [.bool yl, .slice ak1 nk1 ck1, .slice av1 nv1 cv1, .slice ad1 nd1 cd1, .int .i64 yn] ∧ Below w.heap.size w u ∧ Reads 1 u (.slice po pn pc) pn (L.map B) ∧ Reads 1 u (.slice a1 ln c1) ln (l.map B) ∧ Reads 1 u (.slice a2 ln c2) ln (l.map B) ∧ NodeAt u (.slice ak1 nk1 ck1) (.slice av1 nv1 cv1) (.slice ad1 nd1 cd1) y ∧ g3 + 1 ≤ u.heap.size) HW.out ?_
  clear HW
  rintro w5 ⟨bc, hB, hr, hr1, hr2, hy1, hs⟩
  refine (rdec_any L _ w5 (by rw [HPN.out]; exact hr)).mono ?_
  intro e w6 he
  obtain ⟨hb6, ak2, nk2, ck2, av2, nv2, cv2, ad2, nd2, cd2, rfl, hy2⟩ := HD2.out _ _ _ he
  rw [HYL.out, HYN.out]
  obtain ⟨g4, hg4⟩ : ∃ g4, w6.heap.size = g4 := ⟨_, rfl⟩
  have bd := Box.new w6 #[.bool yl, .slice ak2 nk2 ck2, .slice av2 nv2 cv2, .slice ad2 nd2 cd2, .int .i64 yn] 38 hg4.symm
  have hgr := (Below.refl w6.heap.size w6).alloc (Nat.le_refl _) (.cells #[.bool yl, .slice ak2 nk2 ck2, .slice av2 nv2 cv2, .slice ad2 nd2 cd2, .int .i64 yn] 38)
  have hb7 := hb6.trans (hgr.mono hb6.size)
  have HG4 := Lib.hid hg4
  have HW := Lib.hid (⟨bc.below hb7 (Nat.le_refl _), bd, hB.trans (hb7.mono (by omega)), hr1.below hb7 (Nat.le_refl _), hr2.below hb7 (Nat.le_refl _), hy1.below hb7 (Nat.le_refl _), hy2.below hgr (Nat.le_refl _), by simp; omega⟩ : Box _ _ _ ∧ Box _ _ _ ∧ _ ∧ _ ∧ _ ∧ _ ∧ _ ∧ g4 + 1 ≤ (w6.alloc (.cells #[.bool yl, .slice ak2 nk2 ck2, .slice av2 nv2 cv2, .slice ad2 nd2 cd2, .int .i64 yn] 38)).heap.size)
  have hg34 : g3 < g4 := by have := hb6.size; omega
  clear bc bd hgr hg4 hB hr hr1 hr2 hy1 hy2 hs hb6 hb7 he
  go_wp2_with fail
  rw [HG4.out]
  refine wp_world (fun u => Box u g3 [.bool yl, .slice ak1 nk1 ck1, .slice av1 nv1 cv1, .slice ad1 nd1 cd1, .int .i64 yn] ∧ Box u g4 [.bool yl, .slice ak2 nk2 ck2, .slice av2 nv2 cv2, .slice ad2 nd2 cd2, .int .i64 yn] ∧ Below w.heap.size w u ∧ Reads 1 u (.slice a1 ln c1) ln (l.map B) ∧ Reads 1 u (.slice a2 ln c2) ln (l.map B) ∧ NodeAt u (.slice ak1 nk1 ck1) (.slice av1 nv1 cv1) (.slice ad1 nd1 cd1) y ∧ RefAt u (.slice ak2 nk2 ck2) (.slice av2 nv2 cv2) (.slice ad2 nd2 cd2) y ∧ g4 + 1 ≤ u.heap.size) HW.out ?_
  clear HW
  rintro w7 ⟨bc, bd, hB, hr1, hr2, hy1, hy2, hs⟩
  have HR1 := Lib.hid hr1
  have HR2 := Lib.hid hr2
  have HY1 := Lib.hid hy1
  have HY2 := Lib.hid hy2
  clear hr1 hr2 hy1 hy2
  refine wp_region_partsDC (WNc5 g3 g4 ln c1 c2 nk1 ck1 nv1 cv1 nd1 cd1 nk2 ck2 nv2 cv2 nd2 cd2 er yn a1 a2 ak1 av1 ad1 ak2 av2 ad2 yl ok l y) 24 [[], [0], [], [2], [0, 1, 2, 3], [0, 1, 2, 3, 4], [0, 1, 2, 3, 4, 5], [0, 1, 2, 3, 4, 5], [0, 1, 2, 3, 4, 5, 6, 7], [0, 1, 2, 3, 4, 5, 6, 7, 8], [0, 1, 2, 3, 4, 5, 6, 7, 8, 9], [0, 1, 2, 3, 4, 5, 6, 7, 8, 9, 10], [0, 1, 2, 3, 4, 5, 6, 7, 8, 9, 10, 11], [0, 1, 2, 3, 4, 5, 6, 7, 8, 9, 10], [0, 1, 2, 3, 4, 5, 6, 7, 8, 9, 10, 11, 12, 13], [0, 1, 2, 3, 4, 5, 6, 7, 8, 9, 10, 11, 12, 13, 14], [0, 1, 2, 3, 4, 5, 6, 7, 8, 9, 10, 11, 12, 13, 14, 15], [0, 1, 2, 3, 4, 5, 6, 7, 8, 9, 10, 11, 12, 13, 14, 15, 16], [0, 1, 2, 3, 4, 5, 6, 7, 8, 9, 10, 11, 12, 13, 14, 15, 16], [0, 1, 2, 3, 4, 5, 6, 7, 8, 9, 10, 11, 12, 13, 14, 15, 16, 17, 18], [0, 1, 2, 3, 4, 5, 6, 7, 8, 9, 10, 11, 12, 13, 14, 15, 16, 17, 18, 19], [0, 1, 2, 3, 4, 5, 6, 7, 8, 9, 10, 11, 12, 13, 14, 15, 16, 17, 18, 19, 20], [0, 1, 2, 3, 4, 5, 6, 7, 8, 9, 10, 11, 12, 13, 14, 15, 16, 17, 18, 19, 20, 21], [0, 1, 2, 3, 4, 5, 6, 7, 8, 9, 10, 11, 12, 13, 14, 15, 16, 17, 18, 19, 20, 21, 22]] [some 34, some 35, some 36, some 37, some 38, some 39, some 40, some 41, some 42, some 43, some 44, some 45, some 46, some 47, some 48, some 49, some 50, some 51, some 52, some 53, some 54, some 55, some 56, some 57, some 4] (by kernel_rfl) (by kernel_rfl) rfl (PNc5 g3 g4 ln c1 c2 nk1 ck1 nv1 cv1 nd1 cd1 nk2 ck2 nv2 cv2 nd2 cd2 er yn a1 a2 ak1 av1 ad1 ak2 av2 ad2 yl ok l y) (PNc5_stable g3 g4 ln c1 c2 nk1 ck1 nv1 cv1 nd1 cd1 nk2 ck2 nv2 cv2 nd2 cd2 er yn a1 a2 ak1 av1 ad1 ak2 av2 ad2 yl ok l y ) ?pNc5 ?_
  case pNc5 =>
    intro i hi o ho vs lo hx_ w' hg hp
    match i, hi with
    | 0, _ =>
      obtain rfl := Option.some.inj ho
      clear ho
      simp only [actsD, List.getD_cons_zero, List.getD_cons_succ, List.foldl_cons, List.foldl_nil, Act.put, List.setIfInBounds_toArray, List.set_cons_succ, List.set_cons_zero]
      have hsz := hg.size
      have hgB : Below w7.heap.size w7 w' := hg.below (fun k hk => ⟨hk, fun o => by rintro ⟨j, _, _, _, hw⟩; exact False.elim hw⟩)
      go_wp2
      exact ⟨_, rfl, GrowC.refl _, rfl⟩
    | 1, _ =>
      obtain rfl := Option.some.inj ho
      clear ho
      simp only [actsD, List.getD_cons_zero, List.getD_cons_succ, List.foldl_cons, List.foldl_nil, Act.put, List.setIfInBounds_toArray, List.set_cons_succ, List.set_cons_zero]
      obtain ⟨_, _, _, h0⟩ := hp 0 (by simp)
      simp only [PNc5] at h0
      have hsz := hg.size
      have hgB : Below w7.heap.size w7 w' := hg.below (fun k hk => ⟨hk, fun o => by rintro ⟨j, _, _, _, hw⟩; exact False.elim hw⟩)
      rw [h0]
      have cv := run_str_reads (P := Try.prog) (src := 28) (dst := 9) Try.underlying28 Try.underlying5 Try.underlying9 _ (HR1.out.below hgB (Nat.le_refl _))
      go_wp2
      exact ⟨_, rfl, GrowC.refl _, rfl⟩
    | 2, _ =>
      obtain rfl := Option.some.inj ho
      clear ho
      simp only [actsD, List.getD_cons_zero, List.getD_cons_succ, List.foldl_cons, List.foldl_nil, Act.put, List.setIfInBounds_toArray, List.set_cons_succ, List.set_cons_zero]
      have hsz := hg.size
      have hgB : Below w7.heap.size w7 w' := hg.below (fun k hk => ⟨hk, fun o => by rintro ⟨j, _, _, _, hw⟩; exact False.elim hw⟩)
      go_wp2
      exact ⟨_, rfl, GrowC.refl _, rfl⟩
    | 3, _ =>
      obtain rfl := Option.some.inj ho
      clear ho
      simp only [actsD, List.getD_cons_zero, List.getD_cons_succ, List.foldl_cons, List.foldl_nil, Act.put, List.setIfInBounds_toArray, List.set_cons_succ, List.set_cons_zero]
      obtain ⟨_, _, _, h2⟩ := hp 2 (by simp)
      simp only [PNc5] at h2
      have hsz := hg.size
      have hgB : Below w7.heap.size w7 w' := hg.below (fun k hk => ⟨hk, fun o => by rintro ⟨j, _, _, _, hw⟩; exact False.elim hw⟩)
      rw [h2]
      have cv := run_str_reads (P := Try.prog) (src := 28) (dst := 9) Try.underlying28 Try.underlying5 Try.underlying9 _ (HR2.out.below hgB (Nat.le_refl _))
      go_wp2
      exact ⟨_, rfl, GrowC.refl _, rfl⟩
    | 4, _ =>
      obtain rfl := Option.some.inj ho
      clear ho
      simp only [actsD, List.getD_cons_zero, List.getD_cons_succ, List.foldl_cons, List.foldl_nil, Act.put, List.setIfInBounds_toArray, List.set_cons_succ, List.set_cons_zero]
      obtain ⟨_, _, _, h1⟩ := hp 1 (by simp)
      simp only [PNc5] at h1
      obtain ⟨_, _, _, h3⟩ := hp 3 (by simp)
      simp only [PNc5] at h3
      have hsz := hg.size
      have hgB : Below w7.heap.size w7 w' := hg.below (fun k hk => ⟨hk, fun o => by rintro ⟨j, _, _, _, hw⟩; exact False.elim hw⟩)
      rw [h1, h3]
      go_wp2
      exact ⟨_, rfl, GrowC.refl _, rfl⟩
    | 5, _ =>
      obtain rfl := Option.some.inj ho
      clear ho
      simp only [actsD, List.getD_cons_zero, List.getD_cons_succ, List.foldl_cons, List.foldl_nil, Act.put, List.setIfInBounds_toArray, List.set_cons_succ, List.set_cons_zero]
      obtain ⟨_, _, _, h4⟩ := hp 4 (by simp)
      simp only [PNc5] at h4
      have hsz := hg.size
      have hgB : Below w7.heap.size w7 w' := hg.below (fun k hk => ⟨hk, fun o => by rintro ⟨j, _, _, _, hw⟩; exact False.elim hw⟩)
      rw [h4]
      go_wp2
      exact ⟨_, rfl, GrowC.refl _, rfl⟩
    | 6, _ =>
      obtain rfl := Option.some.inj ho
      clear ho
      simp only [actsD, List.getD_cons_zero, List.getD_cons_succ, List.foldl_cons, List.foldl_nil, Act.put, List.setIfInBounds_toArray, List.set_cons_succ, List.set_cons_zero]
      obtain ⟨_, _, _, h5⟩ := hp 5 (by simp)
      simp only [PNc5] at h5
      have hsz := hg.size
      have hgB : Below w7.heap.size w7 w' := hg.below (fun k hk => ⟨hk, fun o => by rintro ⟨j, _, _, _, hw⟩; exact False.elim hw⟩)
      rw [h5]
      go_wp2
      exact ⟨_, rfl, GrowC.refl _, rfl⟩
    | 7, _ =>
      obtain rfl := Option.some.inj ho
      clear ho
      simp only [actsD, List.getD_cons_zero, List.getD_cons_succ, List.foldl_cons, List.foldl_nil, Act.put, List.setIfInBounds_toArray, List.set_cons_succ, List.set_cons_zero]
      obtain ⟨_, _, _, h5⟩ := hp 5 (by simp)
      simp only [PNc5] at h5
      have hsz := hg.size
      have hgB : Below w7.heap.size w7 w' := hg.below (fun k hk => ⟨hk, fun o => by rintro ⟨j, _, _, _, hw⟩; exact False.elim hw⟩)
      rw [h5]
      go_wp2
      exact ⟨_, rfl, GrowC.refl _, rfl⟩
    | 8, _ =>
      obtain rfl := Option.some.inj ho
      clear ho
      simp only [actsD, List.getD_cons_zero, List.getD_cons_succ, List.foldl_cons, List.foldl_nil, Act.put, List.setIfInBounds_toArray, List.set_cons_succ, List.set_cons_zero]
      obtain ⟨_, _, _, h5⟩ := hp 5 (by simp)
      simp only [PNc5] at h5
      obtain ⟨_, _, _, h6⟩ := hp 6 (by simp)
      simp only [PNc5] at h6
      obtain ⟨_, _, _, h7⟩ := hp 7 (by simp)
      simp only [PNc5] at h7
      have hsz := hg.size
      have hgB : Below w7.heap.size w7 w' := hg.below (fun k hk => ⟨hk, fun o => by rintro ⟨j, _, _, _, hw⟩; exact False.elim hw⟩)
      rw [h5, h6, h7]
      go_wp2
      exact ⟨_, rfl, GrowC.refl _, rfl⟩
    | 9, _ =>
      obtain rfl := Option.some.inj ho
      clear ho
      simp only [actsD, List.getD_cons_zero, List.getD_cons_succ, List.foldl_cons, List.foldl_nil, Act.put, List.setIfInBounds_toArray, List.set_cons_succ, List.set_cons_zero]
      obtain ⟨_, _, _, h5⟩ := hp 5 (by simp)
      simp only [PNc5] at h5
      obtain ⟨_, _, _, h8⟩ := hp 8 (by simp)
      simp only [PNc5] at h8
      have hsz := hg.size
      have hgB : Below w7.heap.size w7 w' := hg.below (fun k hk => ⟨hk, fun o => by rintro ⟨j, _, _, _, hw⟩; exact False.elim hw⟩)
      rw [h5, h8]
      go_wp2
      exact ⟨_, rfl, GrowC.refl _, rfl⟩
    | 10, _ =>
      obtain rfl := Option.some.inj ho
      clear ho
      simp only [actsD, List.getD_cons_zero, List.getD_cons_succ, List.foldl_cons, List.foldl_nil, Act.put, List.setIfInBounds_toArray, List.set_cons_succ, List.set_cons_zero]
      obtain ⟨_, _, _, h9⟩ := hp 9 (by simp)
      simp only [PNc5] at h9
      have hsz := hg.size
      have hgB : Below w7.heap.size w7 w' := hg.below (fun k hk => ⟨hk, fun o => by rintro ⟨j, _, _, _, hw⟩; exact False.elim hw⟩)
      rw [h9]
      go_wp2
      exact ⟨_, rfl, GrowC.refl _, rfl⟩
    | 11, _ =>
      obtain rfl := Option.some.inj ho
      clear ho
      simp only [actsD, List.getD_cons_zero, List.getD_cons_succ, List.foldl_cons, List.foldl_nil, Act.put, List.setIfInBounds_toArray, List.set_cons_succ, List.set_cons_zero]
      obtain ⟨_, _, _, h10⟩ := hp 10 (by simp)
      simp only [PNc5] at h10
      have hsz := hg.size
      have hgB : Below w7.heap.size w7 w' := hg.below (fun k hk => ⟨hk, fun o => by rintro ⟨j, _, _, _, hw⟩; exact False.elim hw⟩)
      rw [h10]
      have e0 := (hg.cell (g3) 0 bc.lt (by rintro ⟨j, _, hne, hb, hw⟩; exact False.elim hw)).trans (bc.cell 0 _ rfl)
      have e1 := (hg.cell (g3) 1 bc.lt (by rintro ⟨j, _, hne, hb, hw⟩; exact False.elim hw)).trans (bc.cell 1 _ rfl)
      have e2 := (hg.cell (g3) 2 bc.lt (by rintro ⟨j, _, hne, hb, hw⟩; exact False.elim hw)).trans (bc.cell 2 _ rfl)
      have e3 := (hg.cell (g3) 3 bc.lt (by rintro ⟨j, _, hne, hb, hw⟩; exact False.elim hw)).trans (bc.cell 3 _ rfl)
      have e4 := (hg.cell (g3) 4 bc.lt (by rintro ⟨j, _, hne, hb, hw⟩; exact False.elim hw)).trans (bc.cell 4 _ rfl)
      go_wp2
      exact ⟨_, rfl, GrowC.refl _, rfl⟩
    | 12, _ =>
      obtain rfl := Option.some.inj ho
      clear ho
      simp only [actsD, List.getD_cons_zero, List.getD_cons_succ, List.foldl_cons, List.foldl_nil, Act.put, List.setIfInBounds_toArray, List.set_cons_succ, List.set_cons_zero]
      obtain ⟨_, _, _, h10⟩ := hp 10 (by simp)
      simp only [PNc5] at h10
      obtain ⟨_, _, _, h11⟩ := hp 11 (by simp)
      simp only [PNc5] at h11
      have hsz := hg.size
      have hgB : Below w7.heap.size w7 w' := hg.below (fun k hk => ⟨hk, fun o => by rintro ⟨j, _, _, _, hw⟩; exact False.elim hw⟩)
      rw [h10, h11]
      go_wp2_with fail
      refine (to_small _ _ _ _ _ (HY1.out.below hgB (Nat.le_refl _)) hys yl yn HYL.out HYN.out).mono ?_
      rintro e wz ⟨r1, r2, rfl, hr, hb⟩
      go_wp2
      exact ⟨_, rfl, GrowC.of_grow hb, r1, r2, rfl, hr⟩
    | 13, _ =>
      obtain rfl := Option.some.inj ho
      clear ho
      simp only [actsD, List.getD_cons_zero, List.getD_cons_succ, List.foldl_cons, List.foldl_nil, Act.put, List.setIfInBounds_toArray, List.set_cons_succ, List.set_cons_zero]
      obtain ⟨_, _, _, h10⟩ := hp 10 (by simp)
      simp only [PNc5] at h10
      have hsz := hg.size
      have hgB : Below w7.heap.size w7 w' := hg.below (fun k hk => ⟨hk, fun o => by rintro ⟨j, _, _, _, hw⟩; exact False.elim hw⟩)
      rw [h10]
      have e0 := (hg.cell (g4) 0 bd.lt (by rintro ⟨j, _, hne, hb, hw⟩; exact False.elim hw)).trans (bd.cell 0 _ rfl)
      have e1 := (hg.cell (g4) 1 bd.lt (by rintro ⟨j, _, hne, hb, hw⟩; exact False.elim hw)).trans (bd.cell 1 _ rfl)
      have e2 := (hg.cell (g4) 2 bd.lt (by rintro ⟨j, _, hne, hb, hw⟩; exact False.elim hw)).trans (bd.cell 2 _ rfl)
      have e3 := (hg.cell (g4) 3 bd.lt (by rintro ⟨j, _, hne, hb, hw⟩; exact False.elim hw)).trans (bd.cell 3 _ rfl)
      have e4 := (hg.cell (g4) 4 bd.lt (by rintro ⟨j, _, hne, hb, hw⟩; exact False.elim hw)).trans (bd.cell 4 _ rfl)
      go_wp2
      exact ⟨_, rfl, GrowC.refl _, rfl⟩
    | 14, _ =>
      obtain rfl := Option.some.inj ho
      clear ho
      simp only [actsD, List.getD_cons_zero, List.getD_cons_succ, List.foldl_cons, List.foldl_nil, Act.put, List.setIfInBounds_toArray, List.set_cons_succ, List.set_cons_zero]
      obtain ⟨_, _, _, h10⟩ := hp 10 (by simp)
      simp only [PNc5] at h10
      obtain ⟨_, _, _, h12⟩ := hp 12 (by simp)
      simp only [PNc5] at h12
      obtain ⟨_, _, _, h13⟩ := hp 13 (by simp)
      simp only [PNc5] at h13
      have hsz := hg.size
      have hgB : Below w7.heap.size w7 w' := hg.below (fun k hk => ⟨hk, fun o => by rintro ⟨j, _, _, _, hw⟩; exact False.elim hw⟩)
      obtain ⟨r1, r2, h12, hr1⟩ := h12
      rw [h10, h12, h13]
      go_wp2_with fail
      refine (same_small y hys _ _ _ _ _ _ _ hr1 (HY2.out.below hgB (Nat.le_refl _)) _ _).mono ?_
      rintro e wz ⟨rfl, hb⟩
      go_wp2
      exact ⟨_, rfl, GrowC.of_grow hb, rfl⟩
    | 15, _ =>
      obtain rfl := Option.some.inj ho
      clear ho
      simp only [actsD, List.getD_cons_zero, List.getD_cons_succ, List.foldl_cons, List.foldl_nil, Act.put, List.setIfInBounds_toArray, List.set_cons_succ, List.set_cons_zero]
      obtain ⟨_, _, _, h10⟩ := hp 10 (by simp)
      simp only [PNc5] at h10
      obtain ⟨_, _, _, h14⟩ := hp 14 (by simp)
      simp only [PNc5] at h14
      have hsz := hg.size
      have hgB : Below w7.heap.size w7 w' := hg.below (fun k hk => ⟨hk, fun o => by rintro ⟨j, _, _, _, hw⟩; exact False.elim hw⟩)
      rw [h10, h14]
      go_wp2
      exact ⟨_, rfl, GrowC.refl _, rfl⟩
    | 16, _ =>
      obtain rfl := Option.some.inj ho
      clear ho
      simp only [actsD, List.getD_cons_zero, List.getD_cons_succ, List.foldl_cons, List.foldl_nil, Act.put, List.setIfInBounds_toArray, List.set_cons_succ, List.set_cons_zero]
      obtain ⟨_, _, _, h15⟩ := hp 15 (by simp)
      simp only [PNc5] at h15
      have hsz := hg.size
      have hgB : Below w7.heap.size w7 w' := hg.below (fun k hk => ⟨hk, fun o => by rintro ⟨j, _, _, _, hw⟩; exact False.elim hw⟩)
      rw [h15]
      go_wp2
      exact ⟨_, rfl, GrowC.refl _, rfl⟩
    | 17, _ =>
      obtain rfl := Option.some.inj ho
      clear ho
      simp only [actsD, List.getD_cons_zero, List.getD_cons_succ, List.foldl_cons, List.foldl_nil, Act.put, List.setIfInBounds_toArray, List.set_cons_succ, List.set_cons_zero]
      obtain ⟨_, _, _, h16⟩ := hp 16 (by simp)
      simp only [PNc5] at h16
      have hsz := hg.size
      have hgB : Below w7.heap.size w7 w' := hg.below (fun k hk => ⟨hk, fun o => by rintro ⟨j, _, _, _, hw⟩; exact False.elim hw⟩)
      rw [h16]
      go_wp2
      exact ⟨_, rfl, GrowC.refl _, rfl⟩
    | 18, _ =>
      obtain rfl := Option.some.inj ho
      clear ho
      simp only [actsD, List.getD_cons_zero, List.getD_cons_succ, List.foldl_cons, List.foldl_nil, Act.put, List.setIfInBounds_toArray, List.set_cons_succ, List.set_cons_zero]
      obtain ⟨_, _, _, h16⟩ := hp 16 (by simp)
      simp only [PNc5] at h16
      have hsz := hg.size
      have hgB : Below w7.heap.size w7 w' := hg.below (fun k hk => ⟨hk, fun o => by rintro ⟨j, _, _, _, hw⟩; exact False.elim hw⟩)
      rw [h16]
      go_wp2
      exact ⟨_, rfl, GrowC.refl _, rfl⟩
    | 19, _ =>
      obtain rfl := Option.some.inj ho
      clear ho
      simp only [actsD, List.getD_cons_zero, List.getD_cons_succ, List.foldl_cons, List.foldl_nil, Act.put, List.setIfInBounds_toArray, List.set_cons_succ, List.set_cons_zero]
      obtain ⟨_, _, _, h16⟩ := hp 16 (by simp)
      simp only [PNc5] at h16
      obtain ⟨_, _, _, h17⟩ := hp 17 (by simp)
      simp only [PNc5] at h17
      obtain ⟨_, _, _, h18⟩ := hp 18 (by simp)
      simp only [PNc5] at h18
      have hsz := hg.size
      have hgB : Below w7.heap.size w7 w' := hg.below (fun k hk => ⟨hk, fun o => by rintro ⟨j, _, _, _, hw⟩; exact False.elim hw⟩)
      rw [h16, h17, h18]
      go_wp2
      exact ⟨_, rfl, GrowC.refl _, rfl⟩
    | 20, _ =>
      obtain rfl := Option.some.inj ho
      clear ho
      simp only [actsD, List.getD_cons_zero, List.getD_cons_succ, List.foldl_cons, List.foldl_nil, Act.put, List.setIfInBounds_toArray, List.set_cons_succ, List.set_cons_zero]
      obtain ⟨_, _, _, h16⟩ := hp 16 (by simp)
      simp only [PNc5] at h16
      obtain ⟨_, _, _, h19⟩ := hp 19 (by simp)
      simp only [PNc5] at h19
      have hsz := hg.size
      have hgB : Below w7.heap.size w7 w' := hg.below (fun k hk => ⟨hk, fun o => by rintro ⟨j, _, _, _, hw⟩; exact False.elim hw⟩)
      rw [h16, h19]
      go_wp2
      exact ⟨_, rfl, GrowC.refl _, rfl⟩
    | 21, _ =>
      obtain rfl := Option.some.inj ho
      clear ho
      simp only [actsD, List.getD_cons_zero, List.getD_cons_succ, List.foldl_cons, List.foldl_nil, Act.put, List.setIfInBounds_toArray, List.set_cons_succ, List.set_cons_zero]
      obtain ⟨_, _, _, h20⟩ := hp 20 (by simp)
      simp only [PNc5] at h20
      have hsz := hg.size
      have hgB : Below w7.heap.size w7 w' := hg.below (fun k hk => ⟨hk, fun o => by rintro ⟨j, _, _, _, hw⟩; exact False.elim hw⟩)
      rw [h20]
      go_wp2
      exact ⟨_, rfl, GrowC.refl _, rfl⟩
    | 22, _ =>
      obtain rfl := Option.some.inj ho
      clear ho
      simp only [actsD, List.getD_cons_zero, List.getD_cons_succ, List.foldl_cons, List.foldl_nil, Act.put, List.setIfInBounds_toArray, List.set_cons_succ, List.set_cons_zero]
      obtain ⟨_, _, _, h21⟩ := hp 21 (by simp)
      simp only [PNc5] at h21
      have hsz := hg.size
      have hgB : Below w7.heap.size w7 w' := hg.below (fun k hk => ⟨hk, fun o => by rintro ⟨j, _, _, _, hw⟩; exact False.elim hw⟩)
      rw [h21]
      go_wp2_with fail
      refine (awake_any _).mono ?_
      rintro e wz ⟨rfl, hb⟩
      go_wp2
      exact ⟨_, rfl, GrowC.of_grow hb, rfl⟩
    | 23, _ =>
      obtain rfl := Option.some.inj ho
      clear ho
      simp only [actsD, List.getD_cons_zero, List.getD_cons_succ, List.foldl_cons, List.foldl_nil, Act.put, List.setIfInBounds_toArray, List.set_cons_succ, List.set_cons_zero]
      obtain ⟨_, _, _, h21⟩ := hp 21 (by simp)
      simp only [PNc5] at h21
      obtain ⟨_, _, _, h22⟩ := hp 22 (by simp)
      simp only [PNc5] at h22
      have hsz := hg.size
      have hgB : Below w7.heap.size w7 w' := hg.below (fun k hk => ⟨hk, fun o => by rintro ⟨j, _, _, _, hw⟩; exact False.elim hw⟩)
      rw [h21, h22]
      go_wp2
      exact ⟨_, rfl, GrowC.refl _, rfl⟩
    | (q + 24), hq => exact absurd hq (by omega)
  intro vS lo hi w8 hg hp hd
  obtain ⟨_, _, _, h0⟩ := hp 0 (by omega)
  obtain ⟨_, _, _, h1⟩ := hp 1 (by omega)
  obtain ⟨_, _, _, h2⟩ := hp 2 (by omega)
  obtain ⟨_, _, _, h3⟩ := hp 3 (by omega)
  obtain ⟨_, _, _, h4⟩ := hp 4 (by omega)
  obtain ⟨_, _, _, h5⟩ := hp 5 (by omega)
  obtain ⟨_, _, _, h6⟩ := hp 6 (by omega)
  obtain ⟨_, _, _, h7⟩ := hp 7 (by omega)
  obtain ⟨_, _, _, h8⟩ := hp 8 (by omega)
  obtain ⟨_, _, _, h9⟩ := hp 9 (by omega)
  obtain ⟨_, _, _, h10⟩ := hp 10 (by omega)
  obtain ⟨_, _, _, h11⟩ := hp 11 (by omega)
  obtain ⟨_, _, _, h12⟩ := hp 12 (by omega)
  obtain ⟨_, _, _, h13⟩ := hp 13 (by omega)
  obtain ⟨_, _, _, h14⟩ := hp 14 (by omega)
  obtain ⟨_, _, _, h15⟩ := hp 15 (by omega)
  obtain ⟨_, _, _, h16⟩ := hp 16 (by omega)
  obtain ⟨_, _, _, h17⟩ := hp 17 (by omega)
  obtain ⟨_, _, _, h18⟩ := hp 18 (by omega)
  obtain ⟨_, _, _, h19⟩ := hp 19 (by omega)
  obtain ⟨_, _, _, h20⟩ := hp 20 (by omega)
  obtain ⟨_, _, _, h21⟩ := hp 21 (by omega)
  obtain ⟨_, _, _, h22⟩ := hp 22 (by omega)
  obtain ⟨_, _, _, h23⟩ := hp 23 (by omega)
  simp only [PNc5] at h0 h1 h2 h3 h4 h5 h6 h7 h8 h9 h10 h11 h12 h13 h14 h15 h16 h17 h18 h19 h20 h21 h22 h23
  clear hp hd
  have hsz := hg.size
  replace bc := bc.grow hg (by intro i _; rintro ⟨j, _, hw⟩; exact False.elim hw)
  replace bd := bd.grow hg (by intro i _; rintro ⟨j, _, hw⟩; exact False.elim hw)
  replace hB := hB.trans (hg.below (fun k hk => ⟨by omega, fun o => by rintro ⟨j, _, hw⟩; exact False.elim hw⟩))
  have hr : List.range 24 = [0, 1, 2, 3, 4, 5, 6, 7, 8, 9, 10, 11, 12, 13, 14, 15, 16, 17, 18, 19, 20, 21, 22, 23] := rfl
  rw [hr]
  clear hr
  simp only [List.drop_succ_cons, List.drop_zero, List.drop_nil, actsD, List.getD_cons_zero, List.getD_cons_succ, List.foldl_cons, List.foldl_nil, Act.put, List.setIfInBounds_toArray, List.set_cons_succ, List.set_cons_zero, h0, h1, h2, h3, h4, h5, h6, h7, h8, h9, h10, h11, h13, h14, h15, h16, h17, h18, h19, h20, h21, h22, h23]
  clear h0 h1 h2 h3 h4 h5 h6 h7 h8 h9 h10 h11 h13 h14 h15 h16 h17 h18 h19 h20 h21 h22 h23
  go_wp2
  go_ret
  exact ⟨rfl, hB⟩

end Go.Proofs.Ytfbblgcdggpehaa

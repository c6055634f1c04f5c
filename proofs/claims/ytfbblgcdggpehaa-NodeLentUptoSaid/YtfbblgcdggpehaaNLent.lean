/- The walk of NodeLent: true at every node. Conditions: short lists. -/
import Derived.Test.YtfbblgcdggpehaaLEnds
namespace Go.Proofs.Ytfbblgcdggpehaa
set_option linter.unusedSimpArgs false
set_option linter.unusedVariables false
open Go.RowKit

theorem Turn.below {G E : Nat} {u u' : World} (h : Turn G E u u') (hG : G ≤ u.heap.size) : Below G u u' := h.grow.below (fun k hk => ⟨by omega, fun o => by omega⟩)
/-- what NodeLent holds on to -/
structure LS (w : World) (g g1 nk kc nv vc nd dc rc1 rc2 : Nat) (b : Bool) (n : Int) (ka va da r1 r2 : Option Addr) (kv vv : Value) (k v : List UInt8) (x : Nd) (u : World) : Prop where
  ba : Box u g [.bool b, .slice ka nk kc, .slice va nv vc, .slice da nd dc, .int .i64 n]
  bw : Box u g1 [.bool b, .slice r1 nk rc1, .slice r2 nv rc2, .slice da nd dc, .int .i64 n]
  below : Below w.heap.size w u
  hx : NodeAt u (.slice ka nk kc) (.slice va nv vc) (.slice da nd dc) x
  hk : Reads 1 u kv k.length (k.map B)
  hv : Reads 1 u vv v.length (v.map B)
  hr : RefAt u (.slice r1 nk rc1) (.slice r2 nv rc2) (.slice da nd dc) x
  size : g1 + 1 ≤ u.heap.size
theorem LS.next {w : World} {g g1 nk kc nv vc nd dc rc1 rc2 : Nat} {b : Bool} {n : Int} {ka va da r1 r2 : Option Addr} {kv vv : Value} {k v : List UInt8} {x : Nd} {u u' : World} (h : LS w g g1 nk kc nv vc nd dc rc1 rc2 b n ka va da r1 r2 kv vv k v x u) (hb : Below u.heap.size u u') : LS w g g1 nk kc nv vc nd dc rc1 rc2 b n ka va da r1 r2 kv vv k v x u' :=
  ⟨h.ba.below hb (Nat.le_refl _), h.bw.below hb (Nat.le_refl _), h.below.trans (hb.mono h.below.size), h.hx.below hb (Nat.le_refl _), h.hk.below hb (Nat.le_refl _), h.hv.below hb (Nat.le_refl _), h.hr.below hb (Nat.le_refl _), Nat.le_trans h.size hb.size⟩

def WLt14 (W0 : World) (g g1 nk kc nv vc nd dc rc1 rc2 : Nat) (b : Bool) (n : Int) (ka va da r1 r2 : Option Addr) (x : Nd) (j b o : Nat) : Prop := False
def PLt14 (W0 : World) (g g1 nk kc nv vc nd dc rc1 rc2 : Nat) (b : Bool) (n : Int) (ka va da r1 r2 : Option Addr) (x : Nd) (i : Nat) (v : Value) (lo hi : Nat) (w : World) : Prop :=
  match i with
  | 0 => v = .agg #[.bool b, .slice ka nk kc, .slice va nv vc, .slice da nd dc, .int .i64 n]
  | 1 => ∃ q1 q2, v = .agg #[.bool b, q1, q2, (.slice da nd dc), .int .i64 n] ∧ RefAt w q1 q2 (.slice da nd dc) x
  | 2 => v = .agg #[.bool b, .slice r1 nk rc1, .slice r2 nv rc2, .slice da nd dc, .int .i64 n]
  | 3 => v = .bool true
  | 4 => v = .bool true
  | 5 => v = .bool true
  | 6 => v = .bool true
  | 7 => v = .bool true
  | _ => True
theorem PLt14_stable (W0 : World) (g g1 nk kc nv vc nd dc rc1 rc2 : Nat) (b : Bool) (n : Int) (ka va da r1 r2 : Option Addr) (x : Nd)  : ∀ i j, i < 8 → j < 8 → j ≠ i → j ∉ ([[], [0], [], [0, 1, 2], [0, 1, 2, 3], [0, 1, 2, 3, 4], [0, 1, 2, 3, 4, 5], [0, 1, 2, 3, 4, 5, 6]] : List (List Nat)).getD i [] → ∀ v lo hi w w', PLt14 W0 g g1 nk kc nv vc nd dc rc1 rc2 b n ka va da r1 r2 x i v lo hi w → GrowC (WLt14 W0 g g1 nk kc nv vc nd dc rc1 rc2 b n ka va da r1 r2 x j) w w' → PLt14 W0 g g1 nk kc nv vc nd dc rc1 rc2 b n ka va da r1 r2 x i v lo hi w' := by
  intro i j hi hj hne hbs v lo hj2 w w' h hg
  match i, hi with
  | 0, _ =>
    simp only [PLt14] at h ⊢
    exact h
  | 1, _ =>
    simp only [PLt14] at h ⊢
    obtain ⟨q1, q2, h1, h2⟩ := h; exact ⟨q1, q2, h1, h2.below (hg.below (B := w.heap.size) (fun k hk => ⟨hk, fun _ hw => False.elim hw⟩)) (Nat.le_refl _)⟩
  | 2, _ =>
    simp only [PLt14] at h ⊢
    exact h
  | 3, _ =>
    simp only [PLt14] at h ⊢
    exact h
  | 4, _ =>
    simp only [PLt14] at h ⊢
    exact h
  | 5, _ =>
    simp only [PLt14] at h ⊢
    exact h
  | 6, _ =>
    simp only [PLt14] at h ⊢
    exact h
  | 7, _ =>
    simp only [PLt14] at h ⊢
    exact h
  | (q + 8), hq => exact absurd hq (by omega)

set_option maxRecDepth 100000 in
set_option maxHeartbeats 12800000 in
theorem lent_any (x : Nd) (hsm : x.small) (hk1 : x.keys.length + 1 ≤ 1048576) (hv1 : x.vals.length + 1 ≤ 1048576) (ks vs ds : Value) (k v : List UInt8) (kv vv : Value) (w : World) (hx : NodeAt w ks vs ds x) (hk : Reads 1 w kv k.length (k.map B)) (hv : Reads 1 w vv v.length (v.map B))
    (hkl : k.length ≤ 1048576) (hvl : v.length ≤ 1048576) (b : Bool) (n : Int) (hlf : x.leaf = b) (hn : x.next = n) :
    Calls Try.prog 8 #[.agg #[.bool b, ks, vs, ds, .int .i64 n], kv, vv] w fun e w' => e = .returned (.bool true) ∧ Below w.heap.size w w' := by
  obtain ⟨_, ⟨ka, kc, rfl, _⟩, _⟩ := id hx.keys
  obtain ⟨_, ⟨va, vc, rfl, _⟩, _⟩ := id hx.vals
  obtain ⟨da, dc, rfl⟩ := hx.kids.shape
  obtain ⟨nk, hnk⟩ : ∃ nk, x.keys.length = nk := ⟨_, rfl⟩
  obtain ⟨nv, hnv⟩ : ∃ nv, x.vals.length = nv := ⟨_, rfl⟩
  obtain ⟨nd, hnd⟩ : ∃ nd, x.kids.length = nd := ⟨_, rfl⟩
  have ok1 : kv.oneCell' = true := by obtain ⟨_, _, e, _⟩ := hk; rw [e]; rfl
  have ok2 : vv.oneCell' = true := by obtain ⟨_, _, e, _⟩ := hv; rw [e]; rfl
  simp only [hnk, hnv, hnd] at hx ⊢
  obtain ⟨g, hg0⟩ : ∃ g, w.heap.size = g := ⟨_, rfl⟩
  have ba := Box.new w #[.bool b, .slice ka nk kc, .slice va nv vc, .slice da nd dc, .int .i64 n] 25 hg0.symm
  have hB := (Below.refl w.heap.size w).alloc (Nat.le_refl _) (.cells #[.bool b, .slice ka nk kc, .slice va nv vc, .slice da nd dc, .int .i64 n] 25)
  have hs0 : g + 1 ≤ (w.alloc (.cells #[.bool b, .slice ka nk kc, .slice va nv vc, .slice da nd dc, .int .i64 n] 25)).heap.size := by simp; omega
  have HG := Lib.hid hg0
  have HNK := Lib.hid hnk
  have HNV := Lib.hid hnv
  have HND := Lib.hid hnd
  have HX := Lib.hid (hx.below hB (Nat.le_refl _))
  have HKV := Lib.hid (hk.below hB (Nat.le_refl _))
  have HVV := Lib.hid (hv.below hB (Nat.le_refl _))
  have HK1 := Lib.hid hk1
  have HV1 := Lib.hid hv1
  have HLF := Lib.hid hlf
  have HN := Lib.hid hn
  clear hx hnk hnv hnd hg0 hlf hn hk hv hk1 hv1
  have ca0 := ba.cell 0 _ rfl
  have ca1 := ba.cell 1 _ rfl
  have ca2 := ba.cell 2 _ rfl
  have ca3 := ba.cell 3 _ rfl
  have ca4 := ba.cell 4 _ rfl
  have fa := ba.free
  go_enter Try.func8, Try.ntmps8
  go_wp2_with fail
  clear ca0 ca1 ca2 ca3 ca4 fa
  have hgw : w.heap.size ≤ g := Nat.le_of_eq HG.out
  rw [HG.out]
  refine (to_small x _ _ _ _ HX.out hsm b n HLF.out HN.out).mono ?_
  rintro e w1 ⟨r1, r2, rfl, hr, hb1⟩
  replace ba := ba.below hb1 (Nat.le_refl _)
  replace hB := hB.trans (hb1.mono (by simp))
  have hx1 := HX.out.below hb1 (Nat.le_refl _)
  have hk1 := HKV.out.below hb1 (Nat.le_refl _)
  have hv1 := HVV.out.below hb1 (Nat.le_refl _)
  replace hs0 := Nat.le_trans hs0 hb1.size
  clear HX HKV HVV
  have HX := Lib.hid hx1
  have HKV := Lib.hid hk1
  have HVV := Lib.hid hv1
  have HR := Lib.hid hr
  clear hb1 hx1 hk1 hv1 hr
  obtain ⟨g1, hg1⟩ : ∃ g1, w1.heap.size = g1 := ⟨_, rfl⟩
  have HG1 := Lib.hid hg1
  obtain ⟨r1, rc1, rfl⟩ : ∃ a c, r1 = .slice a nk c := by obtain ⟨a, c, e⟩ := HR.out.keys.shape; exact ⟨a, c, by rw [e, HNK.out]⟩
  obtain ⟨r2, rc2, rfl⟩ : ∃ a c, r2 = .slice a nv c := by obtain ⟨a, c, e⟩ := HR.out.vals.shape; exact ⟨a, c, by rw [e, HNV.out]⟩
  have hgr := (Below.refl w1.heap.size w1).alloc (Nat.le_refl _) (.cells #[.bool b, .slice r1 nk rc1, .slice r2 nv rc2, .slice da nd dc, .int .i64 n] 38)
  have hgg : g < g1 := by omega
  have HW := Lib.hid (⟨ba.below hgr (Nat.le_refl _), Box.new w1 #[.bool b, .slice r1 nk rc1, .slice r2 nv rc2, .slice da nd dc, .int .i64 n] 38 hg1.symm, hB.trans (hgr.mono (by omega)), HX.out.below hgr (Nat.le_refl _), HKV.out.below hgr (Nat.le_refl _), HVV.out.below hgr (Nat.le_refl _), HR.out.below hgr (Nat.le_refl _), by simp; omega⟩ : _ ∧ _ ∧ _ ∧ _ ∧ _ ∧ _ ∧ _ ∧ (w1.alloc (.cells #[.bool b, .slice r1 nk rc1, .slice r2 nv rc2, .slice da nd dc, .int .i64 n] 38)).heap.size = g1 + 1)
  have HW := Lib.hid (show LS w g g1 nk kc nv vc nd dc rc1 rc2 b n ka va da r1 r2 kv vv k v x _ from ⟨HW.out.1, HW.out.2.1, HW.out.2.2.1, HW.out.2.2.2.1, HW.out.2.2.2.2.1, HW.out.2.2.2.2.2.1, HW.out.2.2.2.2.2.2.1, Nat.le_of_eq HW.out.2.2.2.2.2.2.2.symm⟩)
  clear hgr hB hs0 hg1 HX HKV HVV HR
  have ca0 := ba.cell 0 _ rfl
  have ca1 := ba.cell 1 _ rfl
  have ca2 := ba.cell 2 _ rfl
  have ca3 := ba.cell 3 _ rfl
  have ca4 := ba.cell 4 _ rfl
  have fa := ba.free
  go_upto_region 3 with (fail)
  clear ca0 ca1 ca2 ca3 ca4 fa
  rw [HG1.out]
  refine wp_world (fun u => LS w g g1 nk kc nv vc nd dc rc1 rc2 b n ka va da r1 r2 kv vv k v x u) HW.out ?_
  clear HW ba
  intro w2 hls
  have ba := hls.ba
  have HX := hls.hx
  have HKV := hls.hk
  have HVV := hls.hv
  have ca0 := ba.cell 0 _ rfl
  have ca1 := ba.cell 1 _ rfl
  have ca2 := ba.cell 2 _ rfl
  have ca3 := ba.cell 3 _ rfl
  have ca4 := ba.cell 4 _ rfl
  have fa := ba.free
  go_wp2_with fail
  clear ca0 ca1 ca2 ca3 ca4 fa
  refine (put_spoil x hsm HK1.out HV1.out _ _ _ k v _ _ _ HX HKV HVV hkl hvl b n HLF.out HN.out).mono ?_
  rintro e w3 ⟨r, rfl, b5, a1, n1, c1, a2, n2, c2, a3, n3, c3, m5, rfl, hsp, hb⟩
  go_wp2_with fail
  refine (spoil_any b5 m5 _ _ _ _ _ _ (Nat.le_refl _) hsp).mono ?_
  rintro e w4 ⟨rfl, ht⟩
  replace hls := hls.next (hb.trans (ht.below hb.size))
  clear hb ht hsp
  have ba := hls.ba
  have HX := hls.hx
  have HKV := hls.hk
  have HVV := hls.hv
  have ca0 := ba.cell 0 _ rfl
  have ca1 := ba.cell 1 _ rfl
  have ca2 := ba.cell 2 _ rfl
  have ca3 := ba.cell 3 _ rfl
  have ca4 := ba.cell 4 _ rfl
  have fa := ba.free
  go_wp2_with fail
  clear ca0 ca1 ca2 ca3 ca4 fa
  refine (del_spoil x hsm _ _ _ k _ _ HX HKV hkl b n HLF.out HN.out).mono ?_
  rintro e w5 ⟨r, ok, rfl, b5, a1, n1, c1, a2, n2, c2, a3, n3, c3, m5, rfl, hsp, hb⟩
  have hga := (Below.refl w5.heap.size w5).alloc (Nat.le_refl _) (.cells #[.bool b5, .slice a1 n1 c1, .slice a2 n2 c2, .slice a3 n3 c3, .int .i64 m5] 25)
  obtain ⟨g5, hg5⟩ : ∃ q, w5.heap.size = q := ⟨_, rfl⟩
  have HG5 := Lib.hid hg5
  have HW := Lib.hid (⟨Box.new w5 #[.bool b5, .slice a1 n1 c1, .slice a2 n2 c2, .slice a3 n3 c3, .int .i64 m5] 25 hg5.symm, hb.trans (hga.mono hb.size), by have := hsp.turn (Turn.grown hga); rwa [hg5] at this, by have := hb.size; simp; omega⟩ : _ ∧ Below w4.heap.size w4 (w5.alloc (.cells #[.bool b5, .slice a1 n1 c1, .slice a2 n2 c2, .slice a3 n3 c3, .int .i64 m5] 25)) ∧ SpoilOk w4.heap.size g5 (w5.alloc (.cells #[.bool b5, .slice a1 n1 c1, .slice a2 n2 c2, .slice a3 n3 c3, .int .i64 m5] 25)) (.slice a1 n1 c1) (.slice a2 n2 c2) (.slice a3 n3 c3) ∧ g5 ≤ (w5.alloc (.cells #[.bool b5, .slice a1 n1 c1, .slice a2 n2 c2, .slice a3 n3 c3, .int .i64 m5] 25)).heap.size)
  clear hga hg5 hb hsp
  go_upto_region 5 with (fail)
  rw [HG5.out]
  refine wp_world (fun u => Box u g5 [.bool b5, .slice a1 n1 c1, .slice a2 n2 c2, .slice a3 n3 c3, .int .i64 m5] ∧ Below w4.heap.size w4 u ∧ SpoilOk w4.heap.size g5 u (.slice a1 n1 c1) (.slice a2 n2 c2) (.slice a3 n3 c3) ∧ g5 ≤ u.heap.size) HW.out ?_
  clear HW
  rintro w6 ⟨bd, hb, hsp, hsz⟩
  have cd0 := bd.cell 0 _ rfl
  have cd1 := bd.cell 1 _ rfl
  have cd2 := bd.cell 2 _ rfl
  have cd3 := bd.cell 3 _ rfl
  have cd4 := bd.cell 4 _ rfl
  have fd := bd.free
  go_wp2_with fail
  clear cd0 cd1 cd2 cd3 cd4 fd
  refine (spoil_any b5 m5 _ _ _ _ _ _ hsz hsp).mono ?_
  rintro e w7 ⟨rfl, ht⟩
  replace hls := hls.next (hb.trans (ht.below hb.size))
  clear hb ht hsp bd HG5
  have ba := hls.ba
  have HX := hls.hx
  have HKV := hls.hk
  have HVV := hls.hv
  have ca0 := ba.cell 0 _ rfl
  have ca1 := ba.cell 1 _ rfl
  have ca2 := ba.cell 2 _ rfl
  have ca3 := ba.cell 3 _ rfl
  have ca4 := ba.cell 4 _ rfl
  have fa := ba.free
  go_wp2_with fail
  clear ca0 ca1 ca2 ca3 ca4 fa
  refine (split_spoil x hsm _ _ _ _ HX b n HLF.out HN.out).mono ?_
  rintro e w8 ⟨b1, a1, n1, c1, a2, n2, c2, a3, n3, c3, m1, a0, n0, c0, b2, a4, n4, c4, a5, n5, c5, a6, n6, c6, m2, rfl, hL, hS, hR, hb⟩
  obtain ⟨g8, hg8⟩ : ∃ q, w8.heap.size = q := ⟨_, rfl⟩
  rw [hg8] at hL hS hR
  have HG8 := Lib.hid hg8
  have hn0 := SpanOk.le hS
  have hga := ((Below.refl w8.heap.size w8).alloc (Nat.le_refl _) (.cells #[.bool b1, .slice a1 n1 c1, .slice a2 n2 c2, .slice a3 n3 c3, .int .i64 m1] 25)).alloc (by simp) (.cells #[.bool b2, .slice a4 n4 c4, .slice a5 n5 c5, .slice a6 n6 c6, .int .i64 m2] 25)
  have htt : Turn w7.heap.size g8 w8 ((w8.alloc (.cells #[.bool b1, .slice a1 n1 c1, .slice a2 n2 c2, .slice a3 n3 c3, .int .i64 m1] 25)).alloc (.cells #[.bool b2, .slice a4 n4 c4, .slice a5 n5 c5, .slice a6 n6 c6, .int .i64 m2] 25)) := Turn.grown hga
  have bl := (Box.new w8 #[.bool b1, .slice a1 n1 c1, .slice a2 n2 c2, .slice a3 n3 c3, .int .i64 m1] 25 hg8.symm).alloc (.cells #[.bool b2, .slice a4 n4 c4, .slice a5 n5 c5, .slice a6 n6 c6, .int .i64 m2] 25)
  have br := Box.new (w8.alloc (.cells #[.bool b1, .slice a1 n1 c1, .slice a2 n2 c2, .slice a3 n3 c3, .int .i64 m1] 25)) #[.bool b2, .slice a4 n4 c4, .slice a5 n5 c5, .slice a6 n6 c6, .int .i64 m2] 25 (g := g8 + 1) (by simp; omega)
  have HW := Lib.hid (⟨bl, br, hb.trans (hga.mono hb.size), hL.turn htt, BytesOk.turn hS htt, hR.turn htt, by have := hga.size; omega⟩ : _ ∧ _ ∧ Below w7.heap.size w7 ((w8.alloc (.cells #[.bool b1, .slice a1 n1 c1, .slice a2 n2 c2, .slice a3 n3 c3, .int .i64 m1] 25)).alloc (.cells #[.bool b2, .slice a4 n4 c4, .slice a5 n5 c5, .slice a6 n6 c6, .int .i64 m2] 25)) ∧ SpoilOk w7.heap.size g8 ((w8.alloc (.cells #[.bool b1, .slice a1 n1 c1, .slice a2 n2 c2, .slice a3 n3 c3, .int .i64 m1] 25)).alloc (.cells #[.bool b2, .slice a4 n4 c4, .slice a5 n5 c5, .slice a6 n6 c6, .int .i64 m2] 25)) (.slice a1 n1 c1) (.slice a2 n2 c2) (.slice a3 n3 c3) ∧ BytesOk w7.heap.size g8 ((w8.alloc (.cells #[.bool b1, .slice a1 n1 c1, .slice a2 n2 c2, .slice a3 n3 c3, .int .i64 m1] 25)).alloc (.cells #[.bool b2, .slice a4 n4 c4, .slice a5 n5 c5, .slice a6 n6 c6, .int .i64 m2] 25)) (.slice a0 n0 c0) ∧ SpoilOk w7.heap.size g8 ((w8.alloc (.cells #[.bool b1, .slice a1 n1 c1, .slice a2 n2 c2, .slice a3 n3 c3, .int .i64 m1] 25)).alloc (.cells #[.bool b2, .slice a4 n4 c4, .slice a5 n5 c5, .slice a6 n6 c6, .int .i64 m2] 25)) (.slice a4 n4 c4) (.slice a5 n5 c5) (.slice a6 n6 c6) ∧ g8 ≤ ((w8.alloc (.cells #[.bool b1, .slice a1 n1 c1, .slice a2 n2 c2, .slice a3 n3 c3, .int .i64 m1] 25)).alloc (.cells #[.bool b2, .slice a4 n4 c4, .slice a5 n5 c5, .slice a6 n6 c6, .int .i64 m2] 25)).heap.size)
  clear hga hg8 hb hL hS hR htt bl br
  go_upto_region 7 with (fail)
  rw [HG8.out]
  refine wp_world (fun u => Box u g8 [.bool b1, .slice a1 n1 c1, .slice a2 n2 c2, .slice a3 n3 c3, .int .i64 m1] ∧ Box u (g8 + 1) [.bool b2, .slice a4 n4 c4, .slice a5 n5 c5, .slice a6 n6 c6, .int .i64 m2] ∧ Below w7.heap.size w7 u ∧ SpoilOk w7.heap.size g8 u (.slice a1 n1 c1) (.slice a2 n2 c2) (.slice a3 n3 c3) ∧ BytesOk w7.heap.size g8 u (.slice a0 n0 c0) ∧ SpoilOk w7.heap.size g8 u (.slice a4 n4 c4) (.slice a5 n5 c5) (.slice a6 n6 c6) ∧ g8 ≤ u.heap.size) HW.out ?_
  clear HW HG8
  rintro w9 ⟨bl, br, hb, hL, hS, hR, hsz⟩
  have HS := Lib.hid hS
  clear hS
  go_wp2_with fail
  go_loopw [14] (fun i wr => ∃ q : Nat, q ≤ n0 ∧ i = .int .i64 q ∧ Turn w7.heap.size g8 w9 wr) (fun i _ => n0 - (intOf i).toNat)
  case atStart => exact ⟨0, Nat.zero_le _, rfl, Turn.refl _ _ _⟩
  case round =>
    obtain ⟨q, hq, rfl, ht⟩ := hrel
    by_cases hlq : q < n0
    · obtain ⟨b2, o2, rfl, _, hG2, hE2, hl2, hf2, hc2⟩ := SpanOk.sl (BytesOk.turn HS.out ht) (by omega)
      obtain ⟨u0, hu, z, rfl⟩ := hc2 q hlq
      have HU := Lib.hid hu
      have HT := Lib.hid ht
      have HL2 := Lib.hid hl2
      clear hc2 ht hl2
      go_wp2
      go_roundw
      case rel => exact ⟨q + 1, by omega, by go_num, HT.out.trans (Turn.set (v := .int .u8 (IntKind.u8.wrap (z + 1))) HU.out hG2 hE2 HL2.out (.inr (.inl ⟨⟨_, rfl⟩, ⟨_, rfl⟩⟩)))⟩
      case measure => simp [intOf]; omega
    · obtain rfl : n0 = q := by omega
      replace bl := ht.box bl (Nat.le_refl _)
      replace br := ht.box br (by omega)
      replace hL := hL.turn ht
      replace hR := hR.turn ht
      replace hb := hb.trans (ht.below hb.size)
      have hszr := ht.grow.size
      clear ht HS
      have cl0 := bl.cell 0 _ rfl
      have cl1 := bl.cell 1 _ rfl
      have cl2 := bl.cell 2 _ rfl
      have cl3 := bl.cell 3 _ rfl
      have cl4 := bl.cell 4 _ rfl
      have fl := bl.free
      go_wp2_with fail
      clear cl0 cl1 cl2 cl3 cl4 fl
      refine (spoil_any b1 m1 _ _ _ _ _ _ (Nat.le_trans hsz hszr) hL).mono ?_
      rintro e w11 ⟨rfl, ht⟩
      replace br := ht.box br (by omega)
      replace hR := hR.turn ht
      replace hb := hb.trans (ht.below hb.size)
      have hsz11 := ht.grow.size
      clear ht hL bl
      have cr0 := br.cell 0 _ rfl
      have cr1 := br.cell 1 _ rfl
      have cr2 := br.cell 2 _ rfl
      have cr3 := br.cell 3 _ rfl
      have cr4 := br.cell 4 _ rfl
      have fr := br.free
      go_wp2_with fail
      clear cr0 cr1 cr2 cr3 cr4 fr
      refine (spoil_any b2 m2 _ _ _ _ _ _ (by omega) hR).mono ?_
      rintro e w12 ⟨rfl, ht⟩
      replace hb := hb.trans (ht.below hb.size)
      replace hls := hls.next hb
      clear ht hR br hb
      have ba := hls.ba
      have HX := hls.hx
      have HKV := hls.hk
      have HVV := hls.hv
      have ca0 := ba.cell 0 _ rfl
      have ca1 := ba.cell 1 _ rfl
      have ca2 := ba.cell 2 _ rfl
      have ca3 := ba.cell 3 _ rfl
      have ca4 := ba.cell 4 _ rfl
      have fa := ba.free
      go_wp2_with fail
      clear ca0 ca1 ca2 ca3 ca4 fa
      refine (merge_spoil x hsm _ _ _ k _ _ HX HKV hkl b n HLF.out HN.out).mono ?_
      rintro e w13 ⟨r, rfl, b5, a1, n1, c1, a2, n2, c2, a3, n3, c3, m5, rfl, hsp, hb⟩
      go_wp2_with fail
      refine (spoil_any b5 m5 _ _ _ _ _ _ (Nat.le_refl _) hsp).mono ?_
      rintro e w14 ⟨rfl, ht⟩
      replace hls := hls.next (hb.trans (ht.below hb.size))
      clear hb ht hsp
      have ba := hls.ba
      have HX := hls.hx
      have HKV := hls.hk
      have HVV := hls.hv
      have bw := hls.bw
      have hB := hls.below
      have hsw := hls.size
      go_upto_region 14 with (fail)
      have HLS := Lib.hid hls
      clear hls
      refine wp_region_partsDC (WLt14 w14 g g1 nk kc nv vc nd dc rc1 rc2 b n ka va da r1 r2 x) 8 [[], [0], [], [0, 1, 2], [0, 1, 2, 3], [0, 1, 2, 3, 4], [0, 1, 2, 3, 4, 5], [0, 1, 2, 3, 4, 5, 6]] [some 62, some 63, some 64, some 65, some 66, some 67, some 68, some 6] (by kernel_rfl) (by kernel_rfl) rfl (PLt14 w14 g g1 nk kc nv vc nd dc rc1 rc2 b n ka va da r1 r2 x) (PLt14_stable w14 g g1 nk kc nv vc nd dc rc1 rc2 b n ka va da r1 r2 x ) ?pLt14 ?_
      case pLt14 =>
        intro i hi o ho vs lo hx_ w' hg hp
        match i, hi with
        | 0, _ =>
          obtain rfl := Option.some.inj ho
          clear ho
          simp only [actsD, List.getD_cons_zero, List.getD_cons_succ, List.foldl_cons, List.foldl_nil, Act.put, List.setIfInBounds_toArray, List.set_cons_succ, List.set_cons_zero]
          have hsz := hg.size
          have hgB : Below w14.heap.size w14 w' := hg.below (fun k hk => ⟨hk, fun o => by rintro ⟨j, _, _, _, hw⟩; exact False.elim hw⟩)
          have e0 := (hg.cell (g) 0 ba.lt (by rintro ⟨j, _, hne, hb, hw⟩; exact False.elim hw)).trans (ba.cell 0 _ rfl)
          have e1 := (hg.cell (g) 1 ba.lt (by rintro ⟨j, _, hne, hb, hw⟩; exact False.elim hw)).trans (ba.cell 1 _ rfl)
          have e2 := (hg.cell (g) 2 ba.lt (by rintro ⟨j, _, hne, hb, hw⟩; exact False.elim hw)).trans (ba.cell 2 _ rfl)
          have e3 := (hg.cell (g) 3 ba.lt (by rintro ⟨j, _, hne, hb, hw⟩; exact False.elim hw)).trans (ba.cell 3 _ rfl)
          have e4 := (hg.cell (g) 4 ba.lt (by rintro ⟨j, _, hne, hb, hw⟩; exact False.elim hw)).trans (ba.cell 4 _ rfl)
          go_wp2
          exact ⟨_, rfl, GrowC.refl _, rfl⟩
        | 1, _ =>
          obtain rfl := Option.some.inj ho
          clear ho
          simp only [actsD, List.getD_cons_zero, List.getD_cons_succ, List.foldl_cons, List.foldl_nil, Act.put, List.setIfInBounds_toArray, List.set_cons_succ, List.set_cons_zero]
          obtain ⟨_, _, _, h0⟩ := hp 0 (by simp)
          simp only [PLt14] at h0
          have hsz := hg.size
          have hgB : Below w14.heap.size w14 w' := hg.below (fun k hk => ⟨hk, fun o => by rintro ⟨j, _, _, _, hw⟩; exact False.elim hw⟩)
          rw [h0]
          go_wp2_with fail
          refine (to_small _ _ _ _ _ (HLS.out.hx.below hgB (Nat.le_refl _)) hsm b n HLF.out HN.out).mono ?_
          rintro e wz ⟨q1, q2, rfl, hr, hb⟩
          go_wp2
          exact ⟨_, rfl, GrowC.of_grow hb, q1, q2, rfl, hr⟩
        | 2, _ =>
          obtain rfl := Option.some.inj ho
          clear ho
          simp only [actsD, List.getD_cons_zero, List.getD_cons_succ, List.foldl_cons, List.foldl_nil, Act.put, List.setIfInBounds_toArray, List.set_cons_succ, List.set_cons_zero]
          have hsz := hg.size
          have hgB : Below w14.heap.size w14 w' := hg.below (fun k hk => ⟨hk, fun o => by rintro ⟨j, _, _, _, hw⟩; exact False.elim hw⟩)
          have e0 := (hg.cell (g1) 0 bw.lt (by rintro ⟨j, _, hne, hb, hw⟩; exact False.elim hw)).trans (bw.cell 0 _ rfl)
          have e1 := (hg.cell (g1) 1 bw.lt (by rintro ⟨j, _, hne, hb, hw⟩; exact False.elim hw)).trans (bw.cell 1 _ rfl)
          have e2 := (hg.cell (g1) 2 bw.lt (by rintro ⟨j, _, hne, hb, hw⟩; exact False.elim hw)).trans (bw.cell 2 _ rfl)
          have e3 := (hg.cell (g1) 3 bw.lt (by rintro ⟨j, _, hne, hb, hw⟩; exact False.elim hw)).trans (bw.cell 3 _ rfl)
          have e4 := (hg.cell (g1) 4 bw.lt (by rintro ⟨j, _, hne, hb, hw⟩; exact False.elim hw)).trans (bw.cell 4 _ rfl)
          go_wp2
          exact ⟨_, rfl, GrowC.refl _, rfl⟩
        | 3, _ =>
          obtain rfl := Option.some.inj ho
          clear ho
          simp only [actsD, List.getD_cons_zero, List.getD_cons_succ, List.foldl_cons, List.foldl_nil, Act.put, List.setIfInBounds_toArray, List.set_cons_succ, List.set_cons_zero]
          obtain ⟨_, _, _, h1⟩ := hp 1 (by simp)
          simp only [PLt14] at h1
          obtain ⟨_, _, _, h2⟩ := hp 2 (by simp)
          simp only [PLt14] at h2
          have hsz := hg.size
          have hgB : Below w14.heap.size w14 w' := hg.below (fun k hk => ⟨hk, fun o => by rintro ⟨j, _, _, _, hw⟩; exact False.elim hw⟩)
          obtain ⟨q1, q2, h1, hr1⟩ := h1
          rw [h1, h2]
          go_wp2_with fail
          refine (same_small _ hsm _ _ _ _ _ _ _ hr1 (HLS.out.hr.below hgB (Nat.le_refl _)) _ _).mono ?_
          rintro e wz ⟨rfl, hb⟩
          go_wp2
          exact ⟨_, rfl, GrowC.of_grow hb, rfl⟩
        | 4, _ =>
          obtain rfl := Option.some.inj ho
          clear ho
          simp only [actsD, List.getD_cons_zero, List.getD_cons_succ, List.foldl_cons, List.foldl_nil, Act.put, List.setIfInBounds_toArray, List.set_cons_succ, List.set_cons_zero]
          obtain ⟨_, _, _, h3⟩ := hp 3 (by simp)
          simp only [PLt14] at h3
          have hsz := hg.size
          have hgB : Below w14.heap.size w14 w' := hg.below (fun k hk => ⟨hk, fun o => by rintro ⟨j, _, _, _, hw⟩; exact False.elim hw⟩)
          rw [h3]
          go_wp2
          exact ⟨_, rfl, GrowC.refl _, rfl⟩
        | 5, _ =>
          obtain rfl := Option.some.inj ho
          clear ho
          simp only [actsD, List.getD_cons_zero, List.getD_cons_succ, List.foldl_cons, List.foldl_nil, Act.put, List.setIfInBounds_toArray, List.set_cons_succ, List.set_cons_zero]
          obtain ⟨_, _, _, h4⟩ := hp 4 (by simp)
          simp only [PLt14] at h4
          have hsz := hg.size
          have hgB : Below w14.heap.size w14 w' := hg.below (fun k hk => ⟨hk, fun o => by rintro ⟨j, _, _, _, hw⟩; exact False.elim hw⟩)
          rw [h4]
          go_wp2_with fail
          refine (awake_any _).mono ?_
          rintro e wz ⟨rfl, hb⟩
          go_wp2
          exact ⟨_, rfl, GrowC.of_grow hb, rfl⟩
        | 6, _ =>
          obtain rfl := Option.some.inj ho
          clear ho
          simp only [actsD, List.getD_cons_zero, List.getD_cons_succ, List.foldl_cons, List.foldl_nil, Act.put, List.setIfInBounds_toArray, List.set_cons_succ, List.set_cons_zero]
          obtain ⟨_, _, _, h4⟩ := hp 4 (by simp)
          simp only [PLt14] at h4
          obtain ⟨_, _, _, h5⟩ := hp 5 (by simp)
          simp only [PLt14] at h5
          have hsz := hg.size
          have hgB : Below w14.heap.size w14 w' := hg.below (fun k hk => ⟨hk, fun o => by rintro ⟨j, _, _, _, hw⟩; exact False.elim hw⟩)
          rw [h4, h5]
          go_wp2
          exact ⟨_, rfl, GrowC.refl _, rfl⟩
        | 7, _ =>
          obtain rfl := Option.some.inj ho
          clear ho
          simp only [actsD, List.getD_cons_zero, List.getD_cons_succ, List.foldl_cons, List.foldl_nil, Act.put, List.setIfInBounds_toArray, List.set_cons_succ, List.set_cons_zero]
          obtain ⟨_, _, _, h6⟩ := hp 6 (by simp)
          simp only [PLt14] at h6
          have hsz := hg.size
          have hgB : Below w14.heap.size w14 w' := hg.below (fun k hk => ⟨hk, fun o => by rintro ⟨j, _, _, _, hw⟩; exact False.elim hw⟩)
          rw [h6]
          go_wp2
          exact ⟨_, rfl, GrowC.refl _, rfl⟩
        | (q + 8), hq => exact absurd hq (by omega)
      intro vS lo hi w15 hg hp hd
      obtain ⟨_, _, _, h0⟩ := hp 0 (by omega)
      obtain ⟨_, _, _, h1⟩ := hp 1 (by omega)
      obtain ⟨_, _, _, h2⟩ := hp 2 (by omega)
      obtain ⟨_, _, _, h3⟩ := hp 3 (by omega)
      obtain ⟨_, _, _, h4⟩ := hp 4 (by omega)
      obtain ⟨_, _, _, h5⟩ := hp 5 (by omega)
      obtain ⟨_, _, _, h6⟩ := hp 6 (by omega)
      obtain ⟨_, _, _, h7⟩ := hp 7 (by omega)
      simp only [PLt14] at h0 h1 h2 h3 h4 h5 h6 h7
      clear hp hd
      have hsz := hg.size
      replace ba := ba.grow hg (by intro i _; rintro ⟨j, _, hw⟩; exact False.elim hw)
      replace bw := bw.grow hg (by intro i _; rintro ⟨j, _, hw⟩; exact False.elim hw)
      replace hB := hB.trans (hg.below (fun k hk => ⟨by omega, fun o => by rintro ⟨j, _, hw⟩; exact False.elim hw⟩))
      have hr : List.range 8 = [0, 1, 2, 3, 4, 5, 6, 7] := rfl
      rw [hr]
      clear hr
      simp only [List.drop_succ_cons, List.drop_zero, List.drop_nil, actsD, List.getD_cons_zero, List.getD_cons_succ, List.foldl_cons, List.foldl_nil, Act.put, List.setIfInBounds_toArray, List.set_cons_succ, List.set_cons_zero, h0, h2, h3, h4, h5, h6, h7]
      clear h0 h2 h3 h4 h5 h6 h7
      go_wp2
      go_ret
      exact ⟨rfl, hB⟩

end Go.Proofs.Ytfbblgcdggpehaa

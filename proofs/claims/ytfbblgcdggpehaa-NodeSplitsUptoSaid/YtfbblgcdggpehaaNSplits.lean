/- The walk of NodeSplits: true at every node. Conditions: short lists. -/
import Derived.Test.YtfbblgcdggpehaaNLawK
namespace Go.Proofs.Ytfbblgcdggpehaa
set_option linter.unusedSimpArgs false
set_option linter.unusedVariables false
open Go.RowKit

def emp : Nd := ⟨true, [], [], [], 0⟩
theorem emp_at (w : World) : NodeAt w (.slice none 0 0) (.slice none 0 0) (.slice none 0 0) emp :=
  ⟨⟨[], Reads.empty, TextsAt.nil⟩, ⟨[], Reads.empty, TextsAt.nil⟩, Reads.empty⟩
theorem emp_ref (w : World) : RefAt w (.slice none 0 0) (.slice none 0 0) (.slice none 0 0) emp := ⟨Reads.empty, Reads.empty, Reads.empty⟩
theorem emp_small : emp.small := ⟨by decide, by decide, by decide, by decide, by decide⟩

def WSft (W0 : World) (g g3 nk kc nv vc nd dc i3 i6 i9 : Nat) (n : Int) (ka va da i1 i4 i7 : Option Addr) (x : Nd) (j b o : Nat) : Prop := False
def PSft (W0 : World) (g g3 nk kc nv vc nd dc i3 i6 i9 : Nat) (n : Int) (ka va da i1 i4 i7 : Option Addr) (x : Nd) (i : Nat) (v : Value) (lo hi : Nat) (w : World) : Prop :=
  match i with
  | 0 => v = .agg #[.bool true, .slice i1 nk i3, .slice i4 nv i6, .slice i7 nd i9, .int .i64 n]
  | 1 => ∃ r1 r2, v = .agg #[.bool true, r1, r2, (.slice i7 nd i9), .int .i64 n] ∧ RefAt w r1 r2 (.slice i7 nd i9) x
  | 2 => v = .agg #[.bool true, .slice ka nk kc, .slice va nv vc, .slice da nd dc, .int .i64 n]
  | 3 => ∃ r1 r2, v = .agg #[.bool true, r1, r2, (.slice da nd dc), .int .i64 n] ∧ RefAt w r1 r2 (.slice da nd dc) x
  | 4 => v = .bool true
  | 5 => v = .bool true
  | 6 => v = .slice none 0 0
  | 7 => v = .int .i64 0
  | 8 => v = .bool true
  | 9 => v = .bool true
  | 10 => v = .bool true
  | 11 => v = .agg #[.bool true, .slice none 0 0, .slice none 0 0, .slice none 0 0, .int .i64 0]
  | 12 => ∃ r1 r2, v = .agg #[.bool true, r1, r2, (.slice none 0 0), .int .i64 0] ∧ RefAt w r1 r2 (.slice none 0 0) emp
  | 13 => v = .agg #[.bool true, .slice none 0 0, .slice none 0 0, .slice none 0 0, .int .i64 0]
  | 14 => v = .bool true
  | 15 => v = .bool true
  | 16 => v = .bool true
  | 17 => v = .bool true
  | 18 => v = .bool true
  | 19 => v = .bool true
  | _ => True
theorem PSft_stable (W0 : World) (g g3 nk kc nv vc nd dc i3 i6 i9 : Nat) (n : Int) (ka va da i1 i4 i7 : Option Addr) (x : Nd)  : ∀ i j, i < 20 → j < 20 → j ≠ i → j ∉ ([[], [0], [], [0, 1, 2], [0, 1, 2, 3], [0, 1, 2, 3, 4], [0, 1, 2, 3, 4, 5], [0, 1, 2, 3, 4, 5, 6], [0, 1, 2, 3, 4, 5, 6, 7], [0, 1, 2, 3, 4, 5, 6, 7, 8], [0, 1, 2, 3, 4, 5, 6, 7, 8, 9], [0, 1, 2, 3, 4, 5, 6, 7, 8, 9, 10], [0, 1, 2, 3, 4, 5, 6, 7, 8, 9, 10, 11], [0, 1, 2, 3, 4, 5, 6, 7, 8, 9, 10], [0, 1, 2, 3, 4, 5, 6, 7, 8, 9, 10, 11, 12, 13], [0, 1, 2, 3, 4, 5, 6, 7, 8, 9, 10, 11, 12, 13, 14], [0, 1, 2, 3, 4, 5, 6, 7, 8, 9, 10, 11, 12, 13, 14, 15], [0, 1, 2, 3, 4, 5, 6, 7, 8, 9, 10, 11, 12, 13, 14, 15, 16], [0, 1, 2, 3, 4, 5, 6, 7, 8, 9, 10, 11, 12, 13, 14, 15, 16, 17], [0, 1, 2, 3, 4, 5, 6, 7, 8, 9, 10, 11, 12, 13, 14, 15, 16, 17, 18]] : List (List Nat)).getD i [] → ∀ v lo hi w w', PSft W0 g g3 nk kc nv vc nd dc i3 i6 i9 n ka va da i1 i4 i7 x i v lo hi w → GrowC (WSft W0 g g3 nk kc nv vc nd dc i3 i6 i9 n ka va da i1 i4 i7 x j) w w' → PSft W0 g g3 nk kc nv vc nd dc i3 i6 i9 n ka va da i1 i4 i7 x i v lo hi w' := by
  intro i j hi hj hne hbs v lo hj2 w w' h hg
  match i, hi with
  | 0, _ =>
    simp only [PSft] at h ⊢
    exact h
  | 1, _ =>
    simp only [PSft] at h ⊢
    obtain ⟨r1, r2, h1, h2⟩ := h; exact ⟨r1, r2, h1, h2.below (hg.below (B := w.heap.size) (fun k hk => ⟨hk, fun _ hw => False.elim hw⟩)) (Nat.le_refl _)⟩
  | 2, _ =>
    simp only [PSft] at h ⊢
    exact h
  | 3, _ =>
    simp only [PSft] at h ⊢
    obtain ⟨r1, r2, h1, h2⟩ := h; exact ⟨r1, r2, h1, h2.below (hg.below (B := w.heap.size) (fun k hk => ⟨hk, fun _ hw => False.elim hw⟩)) (Nat.le_refl _)⟩
  | 4, _ =>
    simp only [PSft] at h ⊢
    exact h
  | 5, _ =>
    simp only [PSft] at h ⊢
    exact h
  | 6, _ =>
    simp only [PSft] at h ⊢
    exact h
  | 7, _ =>
    simp only [PSft] at h ⊢
    exact h
  | 8, _ =>
    simp only [PSft] at h ⊢
    exact h
  | 9, _ =>
    simp only [PSft] at h ⊢
    exact h
  | 10, _ =>
    simp only [PSft] at h ⊢
    exact h
  | 11, _ =>
    simp only [PSft] at h ⊢
    exact h
  | 12, _ =>
    simp only [PSft] at h ⊢
    obtain ⟨r1, r2, h1, h2⟩ := h; exact ⟨r1, r2, h1, h2.below (hg.below (B := w.heap.size) (fun k hk => ⟨hk, fun _ hw => False.elim hw⟩)) (Nat.le_refl _)⟩
  | 13, _ =>
    simp only [PSft] at h ⊢
    exact h
  | 14, _ =>
    simp only [PSft] at h ⊢
    exact h
  | 15, _ =>
    simp only [PSft] at h ⊢
    exact h
  | 16, _ =>
    simp only [PSft] at h ⊢
    exact h
  | 17, _ =>
    simp only [PSft] at h ⊢
    exact h
  | 18, _ =>
    simp only [PSft] at h ⊢
    exact h
  | 19, _ =>
    simp only [PSft] at h ⊢
    exact h
  | (q + 20), hq => exact absurd hq (by omega)
def WSmt (W0 : World) (g g3 nk kc nv vc nd dc i2 i3 i5 i6 i8 i9 j2 j3 j5 j6 j8 j9 s2 s3 : Nat) (n : Int) (ka va da i1 i4 i7 j1 j4 j7 s1 : Option Addr) (x : Nd) (j b o : Nat) : Prop := False
def PSmt (W0 : World) (g g3 nk kc nv vc nd dc i2 i3 i5 i6 i8 i9 j2 j3 j5 j6 j8 j9 s2 s3 : Nat) (n : Int) (ka va da i1 i4 i7 j1 j4 j7 s1 : Option Addr) (x : Nd) (i : Nat) (v : Value) (lo hi : Nat) (w : World) : Prop :=
  match i with
  | 0 => v = .agg #[.bool true, .slice i1 i2 i3, .slice i4 i5 i6, .slice i7 i8 i9, .int .i64 0]
  | 1 => v = .slice s1 s2 s3
  | 2 => v = .agg #[.bool true, .slice j1 j2 j3, .slice j4 j5 j6, .slice j7 j8 j9, .int .i64 n]
  | 3 => ∃ m1 m2 m3, v = .agg #[.bool true, m1, m2, m3, .int .i64 n] ∧ NodeAt w m1 m2 m3 x
  | 4 => ∃ r1 r2 r3, v = .agg #[.bool true, r1, r2, r3, .int .i64 n] ∧ RefAt w r1 r2 r3 x
  | 5 => v = .agg #[.bool true, .slice ka nk kc, .slice va nv vc, .slice da nd dc, .int .i64 n]
  | 6 => ∃ r1 r2, v = .agg #[.bool true, r1, r2, (.slice da nd dc), .int .i64 n] ∧ RefAt w r1 r2 (.slice da nd dc) x
  | 7 => v = .bool true
  | 8 => v = .bool true
  | 9 => v = .bool true
  | 10 => v = .bool true
  | 11 => v = .bool true
  | _ => True
theorem PSmt_stable (W0 : World) (g g3 nk kc nv vc nd dc i2 i3 i5 i6 i8 i9 j2 j3 j5 j6 j8 j9 s2 s3 : Nat) (n : Int) (ka va da i1 i4 i7 j1 j4 j7 s1 : Option Addr) (x : Nd)  : ∀ i j, i < 12 → j < 12 → j ≠ i → j ∉ ([[], [], [], [0, 1, 2], [0, 1, 2, 3], [], [0, 1, 2, 3, 4, 5], [0, 1, 2, 3, 4, 5, 6], [0, 1, 2, 3, 4, 5, 6, 7], [0, 1, 2, 3, 4, 5, 6, 7, 8], [0, 1, 2, 3, 4, 5, 6, 7, 8, 9], [0, 1, 2, 3, 4, 5, 6, 7, 8, 9, 10]] : List (List Nat)).getD i [] → ∀ v lo hi w w', PSmt W0 g g3 nk kc nv vc nd dc i2 i3 i5 i6 i8 i9 j2 j3 j5 j6 j8 j9 s2 s3 n ka va da i1 i4 i7 j1 j4 j7 s1 x i v lo hi w → GrowC (WSmt W0 g g3 nk kc nv vc nd dc i2 i3 i5 i6 i8 i9 j2 j3 j5 j6 j8 j9 s2 s3 n ka va da i1 i4 i7 j1 j4 j7 s1 x j) w w' → PSmt W0 g g3 nk kc nv vc nd dc i2 i3 i5 i6 i8 i9 j2 j3 j5 j6 j8 j9 s2 s3 n ka va da i1 i4 i7 j1 j4 j7 s1 x i v lo hi w' := by
  intro i j hi hj hne hbs v lo hj2 w w' h hg
  match i, hi with
  | 0, _ =>
    simp only [PSmt] at h ⊢
    exact h
  | 1, _ =>
    simp only [PSmt] at h ⊢
    exact h
  | 2, _ =>
    simp only [PSmt] at h ⊢
    exact h
  | 3, _ =>
    simp only [PSmt] at h ⊢
    obtain ⟨m1, m2, m3, h1, h2⟩ := h; exact ⟨m1, m2, m3, h1, h2.below (hg.below (B := w.heap.size) (fun k hk => ⟨hk, fun _ hw => False.elim hw⟩)) (Nat.le_refl _)⟩
  | 4, _ =>
    simp only [PSmt] at h ⊢
    obtain ⟨r1, r2, r3, h1, h2⟩ := h; exact ⟨r1, r2, r3, h1, h2.below (hg.below (B := w.heap.size) (fun k hk => ⟨hk, fun _ hw => False.elim hw⟩)) (Nat.le_refl _)⟩
  | 5, _ =>
    simp only [PSmt] at h ⊢
    exact h
  | 6, _ =>
    simp only [PSmt] at h ⊢
    obtain ⟨r1, r2, h1, h2⟩ := h; exact ⟨r1, r2, h1, h2.below (hg.below (B := w.heap.size) (fun k hk => ⟨hk, fun _ hw => False.elim hw⟩)) (Nat.le_refl _)⟩
  | 7, _ =>
    simp only [PSmt] at h ⊢
    exact h
  | 8, _ =>
    simp only [PSmt] at h ⊢
    exact h
  | 9, _ =>
    simp only [PSmt] at h ⊢
    exact h
  | 10, _ =>
    simp only [PSmt] at h ⊢
    exact h
  | 11, _ =>
    simp only [PSmt] at h ⊢
    exact h
  | (q + 12), hq => exact absurd hq (by omega)

set_option maxRecDepth 100000 in
set_option maxHeartbeats 3200000 in
theorem splits_true (x : Nd) (hlf : x.leaf = true) (hsm : x.small) (ks vs ds : Value) (w : World) (hx : NodeAt w ks vs ds x) (n : Int) (hn : x.next = n) :
    Calls Try.prog 4 #[.agg #[.bool true, ks, vs, ds, .int .i64 n]] w fun e w' => e = .returned (.bool true) ∧ Below w.heap.size w w' := by
  obtain ⟨_, ⟨ka, kc, rfl, _⟩, _⟩ := id hx.keys
  obtain ⟨_, ⟨va, vc, rfl, _⟩, _⟩ := id hx.vals
  obtain ⟨da, dc, rfl⟩ := hx.kids.shape
  obtain ⟨nk, hnk⟩ : ∃ nk, x.keys.length = nk := ⟨_, rfl⟩
  obtain ⟨nv, hnv⟩ : ∃ nv, x.vals.length = nv := ⟨_, rfl⟩
  obtain ⟨nd, hnd⟩ : ∃ nd, x.kids.length = nd := ⟨_, rfl⟩
  have hk : nk ≤ 1048576 := hnk ▸ hsm.keys
  have hv : nv ≤ 1048576 := hnv ▸ hsm.vals
  have hd : nd ≤ 1048577 := hnd ▸ hsm.kids
  simp only [hnk, hnv, hnd] at hx ⊢
  obtain ⟨g, hg0⟩ : ∃ g, w.heap.size = g := ⟨_, rfl⟩
  have ba := Box.new w #[.bool true, .slice ka nk kc, .slice va nv vc, .slice da nd dc, .int .i64 n] 25 hg0.symm
  have hB := (Below.refl w.heap.size w).alloc (Nat.le_refl _) (.cells #[.bool true, .slice ka nk kc, .slice va nv vc, .slice da nd dc, .int .i64 n] 25)
  have hs0 : g + 1 ≤ (w.alloc (.cells #[.bool true, .slice ka nk kc, .slice va nv vc, .slice da nd dc, .int .i64 n] 25)).heap.size := by simp; omega
  have HG := Lib.hid hg0
  have HNK := Lib.hid hnk
  have HNV := Lib.hid hnv
  have HND := Lib.hid hnd
  have HX := Lib.hid (hx.below hB (Nat.le_refl _))
  have HLF := Lib.hid hlf
  have HN := Lib.hid hn
  clear hx hnk hnv hnd hg0 hlf hn
  have ca0 := ba.cell 0 _ rfl
  have ca1 := ba.cell 1 _ rfl
  have ca2 := ba.cell 2 _ rfl
  have ca3 := ba.cell 3 _ rfl
  have ca4 := ba.cell 4 _ rfl
  have fa := ba.free
  go_enter Try.func4, Try.ntmps4
  go_wp2_with fail
  clear ca0 ca1 ca2 ca3 ca4 fa
  have hgw : w.heap.size ≤ g := Nat.le_of_eq HG.out
  rw [HG.out]
  refine (lfit_any x hsm _ _ _ _ HX.out true n HLF.out HN.out).mono ?_
  rintro e w1 ⟨r, rfl, hr, hb1⟩
  replace ba := ba.below hb1 (Nat.le_refl _)
  replace hB := hB.trans (hb1.mono (by simp))
  have hx1 := HX.out.below hb1 (Nat.le_refl _)
  replace hs0 := Nat.le_trans hs0 hb1.size
  clear HX
  have HX := Lib.hid hx1
  clear hb1 hx1
  by_cases hf : x.Fit
  · obtain rfl : r = true := hr.2 hf
    have HF := Lib.hid hf
    clear hr hf
    by_cases hl : nk < 2
    · have dl : decide ((nk : Int) < 2) = true := by simp; omega
      have ca0 := ba.cell 0 _ rfl
      have ca1 := ba.cell 1 _ rfl
      have ca2 := ba.cell 2 _ rfl
      have ca3 := ba.cell 3 _ rfl
      have ca4 := ba.cell 4 _ rfl
      have fa := ba.free
      go_wp2_with fail
      clear ca0 ca1 ca2 ca3 ca4 fa
      refine (split_few x _ _ _ _ HX.out hsm.ok (.inl (by rw [HNK.out]; exact hl)) true n HLF.out HN.out).mono ?_
      rintro e w2 ⟨lk, lv, ld, rfl, hkp, hb2⟩
      replace ba := ba.below hb2 (Nat.le_refl _)
      replace hB := hB.trans (hb2.mono (by omega))
      have hx2 := HX.out.below hb2 (Nat.le_refl _)
      clear HX
      replace hs0 := Nat.le_trans hs0 hb2.size
      have hc2 := hkp.now
      obtain ⟨_, ⟨i1, i3, rfl, _⟩, _⟩ := id hc2.keys
      obtain ⟨_, ⟨i4, i6, rfl, _⟩, _⟩ := id hc2.vals
      obtain ⟨i7, i9, rfl⟩ := hc2.kids.shape
      clear hb2 hkp
      obtain ⟨g3, hg3⟩ : ∃ g3, w2.heap.size = g3 := ⟨_, rfl⟩
      have hgg : g < g3 := by omega
      rw [HNK.out, HNV.out, HND.out] at hc2
      simp only [nodeV, HLF.out, HN.out, HNK.out, HNV.out, HND.out]
      have b1 := (Box.new w2 #[.bool true, .slice i1 nk i3, .slice i4 nv i6, .slice i7 nd i9, .int .i64 n] 25 hg3.symm).alloc (.cells #[.bool true, .slice none 0 0, .slice none 0 0, .slice none 0 0, .int .i64 0] 25)
      have b2 := Box.new (w2.alloc (.cells #[.bool true, .slice i1 nk i3, .slice i4 nv i6, .slice i7 nd i9, .int .i64 n] 25)) #[.bool true, .slice none 0 0, .slice none 0 0, .slice none 0 0, .int .i64 0] 25 (g := g3 + 1) (by simp; omega)
      have hgr := ((Below.refl w2.heap.size w2).alloc (Nat.le_refl _) (.cells #[.bool true, .slice i1 nk i3, .slice i4 nv i6, .slice i7 nd i9, .int .i64 n] 25)).alloc (by simp) (.cells #[.bool true, .slice none 0 0, .slice none 0 0, .slice none 0 0, .int .i64 0] 25)
      have HG3 := Lib.hid hg3
      have hlt0 := ba.lt
      have HW := Lib.hid (⟨ba.below hgr (Nat.le_refl _), b1, b2, hB.trans (hgr.mono (by omega)), hx2.below hgr (Nat.le_refl _), hc2.below hgr (Nat.le_refl _), by simp; omega⟩ : _ ∧ _ ∧ _ ∧ _ ∧ _ ∧ _ ∧ g3 + 2 ≤ ((w2.alloc (.cells #[.bool true, .slice i1 nk i3, .slice i4 nv i6, .slice i7 nd i9, .int .i64 n] 25)).alloc (.cells #[.bool true, .slice none 0 0, .slice none 0 0, .slice none 0 0, .int .i64 0] 25)).heap.size)
      clear b1 b2 hgr hg3 hx2 hc2 hB
      have ca0 := ba.cell 0 _ rfl
      have ca1 := ba.cell 1 _ rfl
      have ca2 := ba.cell 2 _ rfl
      have ca3 := ba.cell 3 _ rfl
      have ca4 := ba.cell 4 _ rfl
      have fa := ba.free
      go_wp2_with fail
      clear ca0 ca1 ca2 ca3 ca4 fa
      rw [HG3.out]
      refine wp_world (fun u => Box u g [.bool true, .slice ka nk kc, .slice va nv vc, .slice da nd dc, .int .i64 n] ∧ Box u g3 [.bool true, .slice i1 nk i3, .slice i4 nv i6, .slice i7 nd i9, .int .i64 n] ∧ Box u (g3 + 1) [.bool true, .slice none 0 0, .slice none 0 0, .slice none 0 0, .int .i64 0] ∧ Below w.heap.size w u ∧ NodeAt u (.slice ka nk kc) (.slice va nv vc) (.slice da nd dc) x ∧ NodeAt u (.slice i1 nk i3) (.slice i4 nv i6) (.slice i7 nd i9) x ∧ g3 + 2 ≤ u.heap.size) HW.out ?_
      clear HW ba hlt0
      rintro w3 ⟨ba, bc, bd, hB, hx3, hc3, hs3⟩
      have HX := Lib.hid hx3
      have HC := Lib.hid hc3
      clear hx3 hc3
      refine wp_region_partsDC (WSft w3 g g3 nk kc nv vc nd dc i3 i6 i9 n ka va da i1 i4 i7 x) 20 [[], [0], [], [0, 1, 2], [0, 1, 2, 3], [0, 1, 2, 3, 4], [0, 1, 2, 3, 4, 5], [0, 1, 2, 3, 4, 5, 6], [0, 1, 2, 3, 4, 5, 6, 7], [0, 1, 2, 3, 4, 5, 6, 7, 8], [0, 1, 2, 3, 4, 5, 6, 7, 8, 9], [0, 1, 2, 3, 4, 5, 6, 7, 8, 9, 10], [0, 1, 2, 3, 4, 5, 6, 7, 8, 9, 10, 11], [0, 1, 2, 3, 4, 5, 6, 7, 8, 9, 10], [0, 1, 2, 3, 4, 5, 6, 7, 8, 9, 10, 11, 12, 13], [0, 1, 2, 3, 4, 5, 6, 7, 8, 9, 10, 11, 12, 13, 14], [0, 1, 2, 3, 4, 5, 6, 7, 8, 9, 10, 11, 12, 13, 14, 15], [0, 1, 2, 3, 4, 5, 6, 7, 8, 9, 10, 11, 12, 13, 14, 15, 16], [0, 1, 2, 3, 4, 5, 6, 7, 8, 9, 10, 11, 12, 13, 14, 15, 16, 17], [0, 1, 2, 3, 4, 5, 6, 7, 8, 9, 10, 11, 12, 13, 14, 15, 16, 17, 18]] [some 22, some 23, some 24, some 25, some 26, some 27, some 28, some 29, some 30, some 31, some 32, some 33, some 34, some 35, some 36, some 37, some 38, some 39, some 40, some 2] (by kernel_rfl) (by kernel_rfl) rfl (PSft w3 g g3 nk kc nv vc nd dc i3 i6 i9 n ka va da i1 i4 i7 x) (PSft_stable w3 g g3 nk kc nv vc nd dc i3 i6 i9 n ka va da i1 i4 i7 x ) ?pSft ?_
      case pSft =>
        intro i hi o ho vs lo hx_ w' hg hp
        match i, hi with
        | 0, _ =>
          obtain rfl := Option.some.inj ho
          clear ho
          simp only [actsD, List.getD_cons_zero, List.getD_cons_succ, List.foldl_cons, List.foldl_nil, Act.put, List.setIfInBounds_toArray, List.set_cons_succ, List.set_cons_zero]
          have hsz := hg.size
          have hgB : Below w3.heap.size w3 w' := hg.below (fun k hk => ⟨hk, fun o => by rintro ⟨j, _, _, _, hw⟩; exact False.elim hw⟩)
          have e0 := (hg.cell (g3) 0 bc.lt (by rintro ⟨j, _, hne, hb, hw⟩; exact False.elim hw)).trans (bc.cell 0 _ rfl)
          have e1 := (hg.cell (g3) 1 bc.lt (by rintro ⟨j, _, hne, hb, hw⟩; exact False.elim hw)).trans (bc.cell 1 _ rfl)
          have e2 := (hg.cell (g3) 2 bc.lt (by rintro ⟨j, _, hne, hb, hw⟩; exact False.elim hw)).trans (bc.cell 2 _ rfl)
          have e3 := (hg.cell (g3) 3 bc.lt (by rintro ⟨j, _, hne, hb, hw⟩; exact False.elim hw)).trans (bc.cell 3 _ rfl)
          have e4 := (hg.cell (g3) 4 bc.lt (by rintro ⟨j, _, hne, hb, hw⟩; exact False.elim hw)).trans (bc.cell 4 _ rfl)
          go_wp2
          exact ⟨_, rfl, GrowC.refl _, rfl⟩
        | 1, _ =>
          obtain rfl := Option.some.inj ho
          clear ho
          simp only [actsD, List.getD_cons_zero, List.getD_cons_succ, List.foldl_cons, List.foldl_nil, Act.put, List.setIfInBounds_toArray, List.set_cons_succ, List.set_cons_zero]
          obtain ⟨_, _, _, h0⟩ := hp 0 (by simp)
          simp only [PSft] at h0
          have hsz := hg.size
          have hgB : Below w3.heap.size w3 w' := hg.below (fun k hk => ⟨hk, fun o => by rintro ⟨j, _, _, _, hw⟩; exact False.elim hw⟩)
          rw [h0]
          go_wp2_with fail
          refine (to_small _ _ _ _ _ (HC.out.below hgB (Nat.le_refl _)) hsm true n HLF.out HN.out).mono ?_
          rintro e wz ⟨r1, r2, rfl, hr, hb⟩
          go_wp2
          exact ⟨_, rfl, GrowC.of_grow hb, r1, r2, rfl, hr⟩
        | 2, _ =>
          obtain rfl := Option.some.inj ho
          clear ho
          simp only [actsD, List.getD_cons_zero, List.getD_cons_succ, List.foldl_cons, List.foldl_nil, Act.put, List.setIfInBounds_toArray, List.set_cons_succ, List.set_cons_zero]
          have hsz := hg.size
          have hgB : Below w3.heap.size w3 w' := hg.below (fun k hk => ⟨hk, fun o => by rintro ⟨j, _, _, _, hw⟩; exact False.elim hw⟩)
          have e0 := (hg.cell (g) 0 ba.lt (by rintro ⟨j, _, hne, hb, hw⟩; exact False.elim hw)).trans (ba.cell 0 _ rfl)
          have e1 := (hg.cell (g) 1 ba.lt (by rintro ⟨j, _, hne, hb, hw⟩; exact False.elim hw)).trans (ba.cell 1 _ rfl)
          have e2 := (hg.cell (g) 2 ba.lt (by rintro ⟨j, _, hne, hb, hw⟩; exact False.elim hw)).trans (ba.cell 2 _ rfl)
          have e3 := (hg.cell (g) 3 ba.lt (by rintro ⟨j, _, hne, hb, hw⟩; exact False.elim hw)).trans (ba.cell 3 _ rfl)
          have e4 := (hg.cell (g) 4 ba.lt (by rintro ⟨j, _, hne, hb, hw⟩; exact False.elim hw)).trans (ba.cell 4 _ rfl)
          go_wp2
          exact ⟨_, rfl, GrowC.refl _, rfl⟩
        | 3, _ =>
          obtain rfl := Option.some.inj ho
          clear ho
          simp only [actsD, List.getD_cons_zero, List.getD_cons_succ, List.foldl_cons, List.foldl_nil, Act.put, List.setIfInBounds_toArray, List.set_cons_succ, List.set_cons_zero]
          obtain ⟨_, _, _, h2⟩ := hp 2 (by simp)
          simp only [PSft] at h2
          have hsz := hg.size
          have hgB : Below w3.heap.size w3 w' := hg.below (fun k hk => ⟨hk, fun o => by rintro ⟨j, _, _, _, hw⟩; exact False.elim hw⟩)
          rw [h2]
          go_wp2_with fail
          refine (to_small _ _ _ _ _ (HX.out.below hgB (Nat.le_refl _)) hsm true n HLF.out HN.out).mono ?_
          rintro e wz ⟨r1, r2, rfl, hr, hb⟩
          go_wp2
          exact ⟨_, rfl, GrowC.of_grow hb, r1, r2, rfl, hr⟩
        | 4, _ =>
          obtain rfl := Option.some.inj ho
          clear ho
          simp only [actsD, List.getD_cons_zero, List.getD_cons_succ, List.foldl_cons, List.foldl_nil, Act.put, List.setIfInBounds_toArray, List.set_cons_succ, List.set_cons_zero]
          obtain ⟨_, _, _, h1⟩ := hp 1 (by simp)
          simp only [PSft] at h1
          obtain ⟨_, _, _, h3⟩ := hp 3 (by simp)
          simp only [PSft] at h3
          have hsz := hg.size
          have hgB : Below w3.heap.size w3 w' := hg.below (fun k hk => ⟨hk, fun o => by rintro ⟨j, _, _, _, hw⟩; exact False.elim hw⟩)
          obtain ⟨r1, r2, h1, hr1⟩ := h1
          obtain ⟨q1, q2, h3, hq1⟩ := h3
          rw [h1, h3]
          go_wp2_with fail
          refine (same_small _ hsm _ _ _ _ _ _ _ hr1 hq1 _ _).mono ?_
          rintro e wz ⟨rfl, hb⟩
          go_wp2
          exact ⟨_, rfl, GrowC.of_grow hb, rfl⟩
        | 5, _ =>
          obtain rfl := Option.some.inj ho
          clear ho
          simp only [actsD, List.getD_cons_zero, List.getD_cons_succ, List.foldl_cons, List.foldl_nil, Act.put, List.setIfInBounds_toArray, List.set_cons_succ, List.set_cons_zero]
          obtain ⟨_, _, _, h4⟩ := hp 4 (by simp)
          simp only [PSft] at h4
          have hsz := hg.size
          have hgB : Below w3.heap.size w3 w' := hg.below (fun k hk => ⟨hk, fun o => by rintro ⟨j, _, _, _, hw⟩; exact False.elim hw⟩)
          rw [h4]
          go_wp2
          exact ⟨_, rfl, GrowC.refl _, rfl⟩
        | 6, _ =>
          obtain rfl := Option.some.inj ho
          clear ho
          simp only [actsD, List.getD_cons_zero, List.getD_cons_succ, List.foldl_cons, List.foldl_nil, Act.put, List.setIfInBounds_toArray, List.set_cons_succ, List.set_cons_zero]
          obtain ⟨_, _, _, h5⟩ := hp 5 (by simp)
          simp only [PSft] at h5
          have hsz := hg.size
          have hgB : Below w3.heap.size w3 w' := hg.below (fun k hk => ⟨hk, fun o => by rintro ⟨j, _, _, _, hw⟩; exact False.elim hw⟩)
          rw [h5]
          go_wp2
          exact ⟨_, rfl, GrowC.refl _, rfl⟩
        | 7, _ =>
          obtain rfl := Option.some.inj ho
          clear ho
          simp only [actsD, List.getD_cons_zero, List.getD_cons_succ, List.foldl_cons, List.foldl_nil, Act.put, List.setIfInBounds_toArray, List.set_cons_succ, List.set_cons_zero]
          obtain ⟨_, _, _, h5⟩ := hp 5 (by simp)
          simp only [PSft] at h5
          obtain ⟨_, _, _, h6⟩ := hp 6 (by simp)
          simp only [PSft] at h6
          have hsz := hg.size
          have hgB : Below w3.heap.size w3 w' := hg.below (fun k hk => ⟨hk, fun o => by rintro ⟨j, _, _, _, hw⟩; exact False.elim hw⟩)
          rw [h5, h6]
          go_wp2
          exact ⟨_, rfl, GrowC.refl _, rfl⟩
        | 8, _ =>
          obtain rfl := Option.some.inj ho
          clear ho
          simp only [actsD, List.getD_cons_zero, List.getD_cons_succ, List.foldl_cons, List.foldl_nil, Act.put, List.setIfInBounds_toArray, List.set_cons_succ, List.set_cons_zero]
          obtain ⟨_, _, _, h5⟩ := hp 5 (by simp)
          simp only [PSft] at h5
          obtain ⟨_, _, _, h7⟩ := hp 7 (by simp)
          simp only [PSft] at h7
          have hsz := hg.size
          have hgB : Below w3.heap.size w3 w' := hg.below (fun k hk => ⟨hk, fun o => by rintro ⟨j, _, _, _, hw⟩; exact False.elim hw⟩)
          rw [h5, h7]
          go_wp2
          exact ⟨_, rfl, GrowC.refl _, rfl⟩
        | 9, _ =>
          obtain rfl := Option.some.inj ho
          clear ho
          simp only [actsD, List.getD_cons_zero, List.getD_cons_succ, List.foldl_cons, List.foldl_nil, Act.put, List.setIfInBounds_toArray, List.set_cons_succ, List.set_cons_zero]
          obtain ⟨_, _, _, h5⟩ := hp 5 (by simp)
          simp only [PSft] at h5
          obtain ⟨_, _, _, h8⟩ := hp 8 (by simp)
          simp only [PSft] at h8
          have hsz := hg.size
          have hgB : Below w3.heap.size w3 w' := hg.below (fun k hk => ⟨hk, fun o => by rintro ⟨j, _, _, _, hw⟩; exact False.elim hw⟩)
          rw [h5, h8]
          go_wp2
          exact ⟨_, rfl, GrowC.refl _, rfl⟩
        | 10, _ =>
          obtain rfl := Option.some.inj ho
          clear ho
          simp only [actsD, List.getD_cons_zero, List.getD_cons_succ, List.foldl_cons, List.foldl_nil, Act.put, List.setIfInBounds_toArray, List.set_cons_succ, List.set_cons_zero]
          obtain ⟨_, _, _, h9⟩ := hp 9 (by simp)
          simp only [PSft] at h9
          have hsz := hg.size
          have hgB : Below w3.heap.size w3 w' := hg.below (fun k hk => ⟨hk, fun o => by rintro ⟨j, _, _, _, hw⟩; exact False.elim hw⟩)
          rw [h9]
          go_wp2
          exact ⟨_, rfl, GrowC.refl _, rfl⟩
        | 11, _ =>
          obtain rfl := Option.some.inj ho
          clear ho
          simp only [actsD, List.getD_cons_zero, List.getD_cons_succ, List.foldl_cons, List.foldl_nil, Act.put, List.setIfInBounds_toArray, List.set_cons_succ, List.set_cons_zero]
          obtain ⟨_, _, _, h10⟩ := hp 10 (by simp)
          simp only [PSft] at h10
          have hsz := hg.size
          have hgB : Below w3.heap.size w3 w' := hg.below (fun k hk => ⟨hk, fun o => by rintro ⟨j, _, _, _, hw⟩; exact False.elim hw⟩)
          rw [h10]
          have e0 := (hg.cell (g3 + 1) 0 bd.lt (by rintro ⟨j, _, hne, hb, hw⟩; exact False.elim hw)).trans (bd.cell 0 _ rfl)
          have e1 := (hg.cell (g3 + 1) 1 bd.lt (by rintro ⟨j, _, hne, hb, hw⟩; exact False.elim hw)).trans (bd.cell 1 _ rfl)
          have e2 := (hg.cell (g3 + 1) 2 bd.lt (by rintro ⟨j, _, hne, hb, hw⟩; exact False.elim hw)).trans (bd.cell 2 _ rfl)
          have e3 := (hg.cell (g3 + 1) 3 bd.lt (by rintro ⟨j, _, hne, hb, hw⟩; exact False.elim hw)).trans (bd.cell 3 _ rfl)
          have e4 := (hg.cell (g3 + 1) 4 bd.lt (by rintro ⟨j, _, hne, hb, hw⟩; exact False.elim hw)).trans (bd.cell 4 _ rfl)
          go_wp2
          exact ⟨_, rfl, GrowC.refl _, rfl⟩
        | 12, _ =>
          obtain rfl := Option.some.inj ho
          clear ho
          simp only [actsD, List.getD_cons_zero, List.getD_cons_succ, List.foldl_cons, List.foldl_nil, Act.put, List.setIfInBounds_toArray, List.set_cons_succ, List.set_cons_zero]
          obtain ⟨_, _, _, h10⟩ := hp 10 (by simp)
          simp only [PSft] at h10
          obtain ⟨_, _, _, h11⟩ := hp 11 (by simp)
          simp only [PSft] at h11
          have hsz := hg.size
          have hgB : Below w3.heap.size w3 w' := hg.below (fun k hk => ⟨hk, fun o => by rintro ⟨j, _, _, _, hw⟩; exact False.elim hw⟩)
          rw [h10, h11]
          go_wp2_with fail
          refine (to_small _ _ _ _ _ ((emp_at w3).below hgB (Nat.le_refl _)) emp_small true 0 rfl rfl).mono ?_
          rintro e wz ⟨r1, r2, rfl, hr, hb⟩
          go_wp2
          exact ⟨_, rfl, GrowC.of_grow hb, r1, r2, rfl, hr⟩
        | 13, _ =>
          obtain rfl := Option.some.inj ho
          clear ho
          simp only [actsD, List.getD_cons_zero, List.getD_cons_succ, List.foldl_cons, List.foldl_nil, Act.put, List.setIfInBounds_toArray, List.set_cons_succ, List.set_cons_zero]
          obtain ⟨_, _, _, h10⟩ := hp 10 (by simp)
          simp only [PSft] at h10
          have hsz := hg.size
          have hgB : Below w3.heap.size w3 w' := hg.below (fun k hk => ⟨hk, fun o => by rintro ⟨j, _, _, _, hw⟩; exact False.elim hw⟩)
          rw [h10]
          go_wp2
          exact ⟨_, rfl, GrowC.refl _, rfl⟩
        | 14, _ =>
          obtain rfl := Option.some.inj ho
          clear ho
          simp only [actsD, List.getD_cons_zero, List.getD_cons_succ, List.foldl_cons, List.foldl_nil, Act.put, List.setIfInBounds_toArray, List.set_cons_succ, List.set_cons_zero]
          obtain ⟨_, _, _, h10⟩ := hp 10 (by simp)
          simp only [PSft] at h10
          obtain ⟨_, _, _, h12⟩ := hp 12 (by simp)
          simp only [PSft] at h12
          obtain ⟨_, _, _, h13⟩ := hp 13 (by simp)
          simp only [PSft] at h13
          have hsz := hg.size
          have hgB : Below w3.heap.size w3 w' := hg.below (fun k hk => ⟨hk, fun o => by rintro ⟨j, _, _, _, hw⟩; exact False.elim hw⟩)
          obtain ⟨r1, r2, h12, hr1⟩ := h12
          rw [h10, h12, h13]
          go_wp2_with fail
          refine (same_small emp emp_small _ _ _ _ _ _ _ hr1 (emp_ref _) _ _).mono ?_
          rintro e wz ⟨rfl, hb⟩
          go_wp2
          exact ⟨_, rfl, GrowC.of_grow hb, rfl⟩
        | 15, _ =>
          obtain rfl := Option.some.inj ho
          clear ho
          simp only [actsD, List.getD_cons_zero, List.getD_cons_succ, List.foldl_cons, List.foldl_nil, Act.put, List.setIfInBounds_toArray, List.set_cons_succ, List.set_cons_zero]
          obtain ⟨_, _, _, h10⟩ := hp 10 (by simp)
          simp only [PSft] at h10
          obtain ⟨_, _, _, h14⟩ := hp 14 (by simp)
          simp only [PSft] at h14
          have hsz := hg.size
          have hgB : Below w3.heap.size w3 w' := hg.below (fun k hk => ⟨hk, fun o => by rintro ⟨j, _, _, _, hw⟩; exact False.elim hw⟩)
          rw [h10, h14]
          go_wp2
          exact ⟨_, rfl, GrowC.refl _, rfl⟩
        | 16, _ =>
          obtain rfl := Option.some.inj ho
          clear ho
          simp only [actsD, List.getD_cons_zero, List.getD_cons_succ, List.foldl_cons, List.foldl_nil, Act.put, List.setIfInBounds_toArray, List.set_cons_succ, List.set_cons_zero]
          obtain ⟨_, _, _, h15⟩ := hp 15 (by simp)
          simp only [PSft] at h15
          have hsz := hg.size
          have hgB : Below w3.heap.size w3 w' := hg.below (fun k hk => ⟨hk, fun o => by rintro ⟨j, _, _, _, hw⟩; exact False.elim hw⟩)
          rw [h15]
          go_wp2
          exact ⟨_, rfl, GrowC.refl _, rfl⟩
        | 17, _ =>
          obtain rfl := Option.some.inj ho
          clear ho
          simp only [actsD, List.getD_cons_zero, List.getD_cons_succ, List.foldl_cons, List.foldl_nil, Act.put, List.setIfInBounds_toArray, List.set_cons_succ, List.set_cons_zero]
          obtain ⟨_, _, _, h16⟩ := hp 16 (by simp)
          simp only [PSft] at h16
          have hsz := hg.size
          have hgB : Below w3.heap.size w3 w' := hg.below (fun k hk => ⟨hk, fun o => by rintro ⟨j, _, _, _, hw⟩; exact False.elim hw⟩)
          rw [h16]
          go_wp2_with fail
          refine (awake_any _).mono ?_
          rintro e wz ⟨rfl, hb⟩
          go_wp2
          exact ⟨_, rfl, GrowC.of_grow hb, rfl⟩
        | 18, _ =>
          obtain rfl := Option.some.inj ho
          clear ho
          simp only [actsD, List.getD_cons_zero, List.getD_cons_succ, List.foldl_cons, List.foldl_nil, Act.put, List.setIfInBounds_toArray, List.set_cons_succ, List.set_cons_zero]
          obtain ⟨_, _, _, h16⟩ := hp 16 (by simp)
          simp only [PSft] at h16
          obtain ⟨_, _, _, h17⟩ := hp 17 (by simp)
          simp only [PSft] at h17
          have hsz := hg.size
          have hgB : Below w3.heap.size w3 w' := hg.below (fun k hk => ⟨hk, fun o => by rintro ⟨j, _, _, _, hw⟩; exact False.elim hw⟩)
          rw [h16, h17]
          go_wp2
          exact ⟨_, rfl, GrowC.refl _, rfl⟩
        | 19, _ =>
          obtain rfl := Option.some.inj ho
          clear ho
          simp only [actsD, List.getD_cons_zero, List.getD_cons_succ, List.foldl_cons, List.foldl_nil, Act.put, List.setIfInBounds_toArray, List.set_cons_succ, List.set_cons_zero]
          obtain ⟨_, _, _, h18⟩ := hp 18 (by simp)
          simp only [PSft] at h18
          have hsz := hg.size
          have hgB : Below w3.heap.size w3 w' := hg.below (fun k hk => ⟨hk, fun o => by rintro ⟨j, _, _, _, hw⟩; exact False.elim hw⟩)
          rw [h18]
          go_wp2
          exact ⟨_, rfl, GrowC.refl _, rfl⟩
        | (q + 20), hq => exact absurd hq (by omega)
      intro vS lo hi w4 hg hp hd
      obtain ⟨_, _, _, h0⟩ := hp 0 (by omega)
      obtain ⟨_, _, _, h1⟩ := hp 1 (by omega)
      obtain ⟨_, _, _, h2⟩ := hp 2 (by omega)
      obtain ⟨_, _, _, h3⟩ := hp 3 (by omega)
      obtain ⟨_, _, _, h4⟩ := hp 4 (by omega)
      obtain ⟨_, _, _, h5⟩ := hp 5 (by omega)
      obtain ⟨_, _, _, h6⟩ := hp 6 (by omega)
      obtain ⟨_, _, _, h7⟩ := hp 7 (by omega)
      obtain ⟨_, _, _, h8⟩ := hp 8 (by omega)
      obtain ⟨_, _, _, h9⟩ := hp 9 (by omega)
      obtain ⟨_, _, _, h10⟩ := hp 10 (by omega)
      obtain ⟨_, _, _, h11⟩ := hp 11 (by omega)
      obtain ⟨_, _, _, h12⟩ := hp 12 (by omega)
      obtain ⟨_, _, _, h13⟩ := hp 13 (by omega)
      obtain ⟨_, _, _, h14⟩ := hp 14 (by omega)
      obtain ⟨_, _, _, h15⟩ := hp 15 (by omega)
      obtain ⟨_, _, _, h16⟩ := hp 16 (by omega)
      obtain ⟨_, _, _, h17⟩ := hp 17 (by omega)
      obtain ⟨_, _, _, h18⟩ := hp 18 (by omega)
      obtain ⟨_, _, _, h19⟩ := hp 19 (by omega)
      simp only [PSft] at h0 h1 h2 h3 h4 h5 h6 h7 h8 h9 h10 h11 h12 h13 h14 h15 h16 h17 h18 h19
      clear hp hd
      have hsz := hg.size
      replace ba := ba.grow hg (by intro i _; rintro ⟨j, _, hw⟩; exact False.elim hw)
      replace bc := bc.grow hg (by intro i _; rintro ⟨j, _, hw⟩; exact False.elim hw)
      replace bd := bd.grow hg (by intro i _; rintro ⟨j, _, hw⟩; exact False.elim hw)
      replace hB := hB.trans (hg.below (fun k hk => ⟨by omega, fun o => by rintro ⟨j, _, hw⟩; exact False.elim hw⟩))
      have hr : List.range 20 = [0, 1, 2, 3, 4, 5, 6, 7, 8, 9, 10, 11, 12, 13, 14, 15, 16, 17, 18, 19] := rfl
      rw [hr]
      clear hr
      simp only [List.drop_succ_cons, List.drop_zero, List.drop_nil, actsD, List.getD_cons_zero, List.getD_cons_succ, List.foldl_cons, List.foldl_nil, Act.put, List.setIfInBounds_toArray, List.set_cons_succ, List.set_cons_zero, h0, h2, h4, h5, h6, h7, h8, h9, h10, h11, h13, h14, h15, h16, h17, h18, h19]
      clear h0 h2 h4 h5 h6 h7 h8 h9 h10 h11 h13 h14 h15 h16 h17 h18 h19
      go_wp2
      go_ret
      exact ⟨rfl, hB⟩
    · have dl : decide ((nk : Int) < 2) = false := by simp; omega
      have ca0 := ba.cell 0 _ rfl
      have ca1 := ba.cell 1 _ rfl
      have ca2 := ba.cell 2 _ rfl
      have ca3 := ba.cell 3 _ rfl
      have ca4 := ba.cell 4 _ rfl
      have fa := ba.free
      go_wp2_with fail
      clear ca0 ca1 ca2 ca3 ca4 fa
      refine (split_small x _ _ _ _ HX.out hsm HF.out.fits (by rw [HNK.out]; omega) true n HLF.out HN.out).mono ?_
      rintro e w2 ⟨i1, i2, i3, i4, i5, i6, i7, i8, i9, j1, j2, j3, j4, j5, j6, j7, j8, j9, s1, s2, s3, rfl, h1, h2, hs, hi2, hj2, hb2⟩
      replace ba := ba.below hb2 (Nat.le_refl _)
      replace hB := hB.trans (hb2.mono (by omega))
      have hx2 := HX.out.below hb2 (Nat.le_refl _)
      clear HX
      replace hs0 := Nat.le_trans hs0 hb2.size
      clear hb2
      obtain ⟨g3, hg3⟩ : ∃ g3, w2.heap.size = g3 := ⟨_, rfl⟩
      have hgg : g < g3 := by omega
      have b1 := (Box.new w2 #[.bool true, .slice i1 i2 i3, .slice i4 i5 i6, .slice i7 i8 i9, .int .i64 0] 25 hg3.symm).alloc (.cells #[.bool true, .slice j1 j2 j3, .slice j4 j5 j6, .slice j7 j8 j9, .int .i64 n] 25)
      have b2 := Box.new (w2.alloc (.cells #[.bool true, .slice i1 i2 i3, .slice i4 i5 i6, .slice i7 i8 i9, .int .i64 0] 25)) #[.bool true, .slice j1 j2 j3, .slice j4 j5 j6, .slice j7 j8 j9, .int .i64 n] 25 (g := g3 + 1) (by simp; omega)
      have hgr := ((Below.refl w2.heap.size w2).alloc (Nat.le_refl _) (.cells #[.bool true, .slice i1 i2 i3, .slice i4 i5 i6, .slice i7 i8 i9, .int .i64 0] 25)).alloc (by simp) (.cells #[.bool true, .slice j1 j2 j3, .slice j4 j5 j6, .slice j7 j8 j9, .int .i64 n] 25)
      have HG3 := Lib.hid hg3
      have hlt0 := ba.lt
      have HW := Lib.hid (⟨ba.below hgr (Nat.le_refl _), b1, b2, hB.trans (hgr.mono (by omega)), hx2.below hgr (Nat.le_refl _), h1.below hgr (Nat.le_refl _), h2.below hgr (Nat.le_refl _), hs.below hgr (Nat.le_refl _), by simp; omega⟩ : _ ∧ _ ∧ _ ∧ _ ∧ _ ∧ _ ∧ _ ∧ _ ∧ g3 + 2 ≤ ((w2.alloc (.cells #[.bool true, .slice i1 i2 i3, .slice i4 i5 i6, .slice i7 i8 i9, .int .i64 0] 25)).alloc (.cells #[.bool true, .slice j1 j2 j3, .slice j4 j5 j6, .slice j7 j8 j9, .int .i64 n] 25)).heap.size)
      rw [cutL_keys, List.length_take, HNK.out] at hi2
      rw [cutR_keys, HLF.out] at hj2
      simp only [if_true, Bool.false_eq_true, if_false, List.length_drop, HNK.out] at hj2
      have hi2' : i2 = nk / 2 := by omega
      have hj2' : j2 = nk - nk / 2 := hj2
      have HI2 := Lib.hid hi2'
      have HJ2 := Lib.hid hj2'
      have HHL := Lib.hid (show x.keys.length / 2 < x.keys.length by rw [HNK.out]; omega)
      clear b1 b2 hgr hg3 hx2 h1 h2 hs hB hi2 hj2 hi2' hj2'
      have ca0 := ba.cell 0 _ rfl
      have ca1 := ba.cell 1 _ rfl
      have ca2 := ba.cell 2 _ rfl
      have ca3 := ba.cell 3 _ rfl
      have ca4 := ba.cell 4 _ rfl
      have fa := ba.free
      go_wp2_with fail
      clear ca0 ca1 ca2 ca3 ca4 fa
      rw [HG3.out]
      refine wp_world (fun u => Box u g [.bool true, .slice ka nk kc, .slice va nv vc, .slice da nd dc, .int .i64 n] ∧ Box u g3 [.bool true, .slice i1 i2 i3, .slice i4 i5 i6, .slice i7 i8 i9, .int .i64 0] ∧ Box u (g3 + 1) [.bool true, .slice j1 j2 j3, .slice j4 j5 j6, .slice j7 j8 j9, .int .i64 n] ∧ Below w.heap.size w u ∧ NodeAt u (.slice ka nk kc) (.slice va nv vc) (.slice da nd dc) x ∧ NodeAt u (.slice i1 i2 i3) (.slice i4 i5 i6) (.slice i7 i8 i9) (x.cutL (x.keys.length / 2)) ∧ NodeAt u (.slice j1 j2 j3) (.slice j4 j5 j6) (.slice j7 j8 j9) (x.cutR (x.keys.length / 2)) ∧ Reads 1 u (.slice s1 s2 s3) (x.keys.getD (x.keys.length / 2) []).length ((x.keys.getD (x.keys.length / 2) []).map B) ∧ g3 + 2 ≤ u.heap.size) HW.out ?_
      clear HW ba hlt0
      rintro w3 ⟨ba, bc, bd, hB, hx3, h1, h2, hs, hs3⟩
      have hkl : nk / 2 < x.keys.length := by rw [HNK.out]; omega
      obtain ⟨b1, p1, q1, a0, c0, e1, hd1, hb1, hrs⟩ := hx3.keys.at' (nk / 2) _ (List.getElem?_eq_getElem hkl)
      have hgd : x.keys.getD (x.keys.length / 2) [] = x.keys[nk / 2] := by simp only [HNK.out]; rw [List.getD_eq_getElem?_getD, List.getElem?_eq_getElem hkl]; rfl
      have hka := (Value.slice.inj e1).1
      have hll := hsm.keys2 _ (List.getElem_mem hkl)
      rw [← hgd] at hd1 hrs hll
      have HX := Lib.hid hx3
      have H1 := Lib.hid h1
      have H2 := Lib.hid h2
      have HS := Lib.hid hs
      have HKB := Lib.hid (Nat.le_trans hll (show 1048576 ≤ 1099511627776 by decide))
      have HKA := Lib.hid hka
      have cv1 := fun m : Nat => run_str_reads (P := Try.prog) (src := 28) (dst := 9) Try.underlying28 Try.underlying5 Try.underlying9 _ (hs.below (below_dn (Below.refl w3.heap.size w3) m) (Nat.le_refl _))
      have cv2 := fun m : Nat => run_str_reads (P := Try.prog) (src := 28) (dst := 9) Try.underlying28 Try.underlying5 Try.underlying9 _ (hrs.below (below_dn (Below.refl w3.heap.size w3) m) (Nat.le_refl _))
      clear hx3 h1 h2 hs e1 hka hll hgd hkl hrs
      have ca0 := ba.cell 0 _ rfl
      have ca1 := ba.cell 1 _ rfl
      have ca2 := ba.cell 2 _ rfl
      have ca3 := ba.cell 3 _ rfl
      have ca4 := ba.cell 4 _ rfl
      have fa := ba.free
      have cc0 := bc.cell 0 _ rfl
      have cc1 := bc.cell 1 _ rfl
      have cc2 := bc.cell 2 _ rfl
      have cc3 := bc.cell 3 _ rfl
      have cc4 := bc.cell 4 _ rfl
      have fc := bc.free
      have cd0 := bd.cell 0 _ rfl
      have cd1 := bd.cell 1 _ rfl
      have cd2 := bd.cell 2 _ rfl
      have cd3 := bd.cell 3 _ rfl
      have cd4 := bd.cell 4 _ rfl
      have fd := bd.free
      rw [HKA.out] at ca1
      obtain ⟨lk, hlk⟩ : ∃ lk, x.keys.getD (x.keys.length / 2) [] = lk := ⟨_, rfl⟩
      simp only [hlk] at cv1 cv2 hd1
      have HLK := Lib.hid hlk
      obtain ⟨lkn, hlkn⟩ : ∃ lkn, lk.length = lkn := ⟨_, rfl⟩
      simp only [hlkn] at cv2 hd1
      clear hlk hlkn
      have e1 : ((i2 : Int) != (nk : Int) / 2) = false := by have := HI2.out; simp [bne]; omega
      have e2 : ((j2 : Int) != (nk : Int) - (nk : Int) / 2) = false := by have := HJ2.out; simp [bne]; omega
      have q0 : 0 ≤ (nk : Int) / 2 := by omega
      have q1 : ((nk : Int) / 2).toNat = nk / 2 := by omega
      have q2 : (nk : Int) / 2 < (nk : Int) := by omega
      go_quiet (fail)
      have hq := below_dn (Below.refl w3.heap.size w3) nq
      replace ba := ba.below hq (Nat.le_refl _)
      replace bc := bc.below hq (Nat.le_refl _)
      replace bd := bd.below hq (Nat.le_refl _)
      replace hB := hB.trans (hq.mono (by omega))
      have HX4 := Lib.hid (HX.out.below hq (Nat.le_refl _))
      have H14 := Lib.hid (H1.out.below hq (Nat.le_refl _))
      have H24 := Lib.hid (H2.out.below hq (Nat.le_refl _))
      have HS4 := Lib.hid (HS.out.below hq (Nat.le_refl _))
      replace hs3 := Nat.le_trans hs3 hq.size
      clear HX H1 H2 HS hq cv1 cv2 hd1 e1 e2 q0 q1 q2
      clear ca0 ca1 ca2 ca3 ca4 fa
      clear cc0 cc1 cc2 cc3 cc4 fc
      clear cd0 cd1 cd2 cd3 cd4 fd
      obtain ⟨w4, hw4⟩ : ∃ w4, w3.drewN nq = w4 := ⟨_, rfl⟩
      rw [hw4] at ba bc bd hB HX4 H14 H24 HS4 hs3 ⊢
      clear hw4
      have HX := HX4
      have H1 := H14
      have H2 := H24
      have HS := HS4
      go_wp2_with fail
      refine wp_region_partsDC (WSmt w4 g g3 nk kc nv vc nd dc i2 i3 i5 i6 i8 i9 j2 j3 j5 j6 j8 j9 s2 s3 n ka va da i1 i4 i7 j1 j4 j7 s1 x) 12 [[], [], [], [0, 1, 2], [0, 1, 2, 3], [], [0, 1, 2, 3, 4, 5], [0, 1, 2, 3, 4, 5, 6], [0, 1, 2, 3, 4, 5, 6, 7], [0, 1, 2, 3, 4, 5, 6, 7, 8], [0, 1, 2, 3, 4, 5, 6, 7, 8, 9], [0, 1, 2, 3, 4, 5, 6, 7, 8, 9, 10]] [some 104, some 105, some 106, some 107, some 108, some 109, some 110, some 111, some 112, some 113, some 114, some 2] (by kernel_rfl) (by kernel_rfl) rfl (PSmt w4 g g3 nk kc nv vc nd dc i2 i3 i5 i6 i8 i9 j2 j3 j5 j6 j8 j9 s2 s3 n ka va da i1 i4 i7 j1 j4 j7 s1 x) (PSmt_stable w4 g g3 nk kc nv vc nd dc i2 i3 i5 i6 i8 i9 j2 j3 j5 j6 j8 j9 s2 s3 n ka va da i1 i4 i7 j1 j4 j7 s1 x ) ?pSmt ?_
      case pSmt =>
        intro i hi o ho vs lo hx_ w' hg hp
        match i, hi with
        | 0, _ =>
          obtain rfl := Option.some.inj ho
          clear ho
          simp only [actsD, List.getD_cons_zero, List.getD_cons_succ, List.foldl_cons, List.foldl_nil, Act.put, List.setIfInBounds_toArray, List.set_cons_succ, List.set_cons_zero]
          have hsz := hg.size
          have hgB : Below w4.heap.size w4 w' := hg.below (fun k hk => ⟨hk, fun o => by rintro ⟨j, _, _, _, hw⟩; exact False.elim hw⟩)
          have e0 := (hg.cell (g3) 0 bc.lt (by rintro ⟨j, _, hne, hb, hw⟩; exact False.elim hw)).trans (bc.cell 0 _ rfl)
          have e1 := (hg.cell (g3) 1 bc.lt (by rintro ⟨j, _, hne, hb, hw⟩; exact False.elim hw)).trans (bc.cell 1 _ rfl)
          have e2 := (hg.cell (g3) 2 bc.lt (by rintro ⟨j, _, hne, hb, hw⟩; exact False.elim hw)).trans (bc.cell 2 _ rfl)
          have e3 := (hg.cell (g3) 3 bc.lt (by rintro ⟨j, _, hne, hb, hw⟩; exact False.elim hw)).trans (bc.cell 3 _ rfl)
          have e4 := (hg.cell (g3) 4 bc.lt (by rintro ⟨j, _, hne, hb, hw⟩; exact False.elim hw)).trans (bc.cell 4 _ rfl)
          go_wp2
          exact ⟨_, rfl, GrowC.refl _, rfl⟩
        | 1, _ =>
          obtain rfl := Option.some.inj ho
          clear ho
          simp only [actsD, List.getD_cons_zero, List.getD_cons_succ, List.foldl_cons, List.foldl_nil, Act.put, List.setIfInBounds_toArray, List.set_cons_succ, List.set_cons_zero]
          have hsz := hg.size
          have hgB : Below w4.heap.size w4 w' := hg.below (fun k hk => ⟨hk, fun o => by rintro ⟨j, _, _, _, hw⟩; exact False.elim hw⟩)
          go_wp2
          exact ⟨_, rfl, GrowC.refl _, rfl⟩
        | 2, _ =>
          obtain rfl := Option.some.inj ho
          clear ho
          simp only [actsD, List.getD_cons_zero, List.getD_cons_succ, List.foldl_cons, List.foldl_nil, Act.put, List.setIfInBounds_toArray, List.set_cons_succ, List.set_cons_zero]
          have hsz := hg.size
          have hgB : Below w4.heap.size w4 w' := hg.below (fun k hk => ⟨hk, fun o => by rintro ⟨j, _, _, _, hw⟩; exact False.elim hw⟩)
          have e0 := (hg.cell (g3 + 1) 0 bd.lt (by rintro ⟨j, _, hne, hb, hw⟩; exact False.elim hw)).trans (bd.cell 0 _ rfl)
          have e1 := (hg.cell (g3 + 1) 1 bd.lt (by rintro ⟨j, _, hne, hb, hw⟩; exact False.elim hw)).trans (bd.cell 1 _ rfl)
          have e2 := (hg.cell (g3 + 1) 2 bd.lt (by rintro ⟨j, _, hne, hb, hw⟩; exact False.elim hw)).trans (bd.cell 2 _ rfl)
          have e3 := (hg.cell (g3 + 1) 3 bd.lt (by rintro ⟨j, _, hne, hb, hw⟩; exact False.elim hw)).trans (bd.cell 3 _ rfl)
          have e4 := (hg.cell (g3 + 1) 4 bd.lt (by rintro ⟨j, _, hne, hb, hw⟩; exact False.elim hw)).trans (bd.cell 4 _ rfl)
          go_wp2
          exact ⟨_, rfl, GrowC.refl _, rfl⟩
        | 3, _ =>
          obtain rfl := Option.some.inj ho
          clear ho
          simp only [actsD, List.getD_cons_zero, List.getD_cons_succ, List.foldl_cons, List.foldl_nil, Act.put, List.setIfInBounds_toArray, List.set_cons_succ, List.set_cons_zero]
          obtain ⟨_, _, _, h0⟩ := hp 0 (by simp)
          simp only [PSmt] at h0
          obtain ⟨_, _, _, h1⟩ := hp 1 (by simp)
          simp only [PSmt] at h1
          obtain ⟨_, _, _, h2⟩ := hp 2 (by simp)
          simp only [PSmt] at h2
          have hsz := hg.size
          have hgB : Below w4.heap.size w4 w' := hg.below (fun k hk => ⟨hk, fun o => by rintro ⟨j, _, _, _, hw⟩; exact False.elim hw⟩)
          rw [h0, h1, h2]
          go_wp2_with fail
          refine (merge_any (x.cutL (x.keys.length / 2)) (x.cutR (x.keys.length / 2)) _ _ _ _ _ _ _ _ (H1.out.below hgB (Nat.le_refl _)) (hsm.cutL _).ok (H2.out.below hgB (Nat.le_refl _)) (hsm.cutR _).ok (cutL_fits HF.out.fits HHL.out) (cutR_fits HF.out.fits HHL.out) (by rw [cutL_leaf, cutR_leaf]) _ (HS.out.below hgB (Nat.le_refl _)) HKB.out true 0 n (by rw [cutL_leaf, HLF.out]) (cutL_next _ _) (by rw [cutR_next, HN.out])).mono ?_
          rintro e wz ⟨m1, m2, m3, rfl, hkp, hb⟩
          rw [cut_merge HF.out.fits HHL.out] at hkp ⊢
          simp only [nodeV, HLF.out, HN.out]
          go_wp2
          exact ⟨_, rfl, GrowC.of_grow hb, _, _, _, rfl, hkp.now⟩
        | 4, _ =>
          obtain rfl := Option.some.inj ho
          clear ho
          simp only [actsD, List.getD_cons_zero, List.getD_cons_succ, List.foldl_cons, List.foldl_nil, Act.put, List.setIfInBounds_toArray, List.set_cons_succ, List.set_cons_zero]
          obtain ⟨_, _, _, h3⟩ := hp 3 (by simp)
          simp only [PSmt] at h3
          have hsz := hg.size
          have hgB : Below w4.heap.size w4 w' := hg.below (fun k hk => ⟨hk, fun o => by rintro ⟨j, _, _, _, hw⟩; exact False.elim hw⟩)
          obtain ⟨m1, m2, m3, h3, hm1⟩ := h3
          rw [h3]
          go_wp2_with fail
          refine (to_small _ _ _ _ _ hm1 hsm true n HLF.out HN.out).mono ?_
          rintro e wz ⟨r1, r2, rfl, hr, hb⟩
          go_wp2
          exact ⟨_, rfl, GrowC.of_grow hb, r1, r2, _, rfl, hr⟩
        | 5, _ =>
          obtain rfl := Option.some.inj ho
          clear ho
          simp only [actsD, List.getD_cons_zero, List.getD_cons_succ, List.foldl_cons, List.foldl_nil, Act.put, List.setIfInBounds_toArray, List.set_cons_succ, List.set_cons_zero]
          have hsz := hg.size
          have hgB : Below w4.heap.size w4 w' := hg.below (fun k hk => ⟨hk, fun o => by rintro ⟨j, _, _, _, hw⟩; exact False.elim hw⟩)
          have e0 := (hg.cell (g) 0 ba.lt (by rintro ⟨j, _, hne, hb, hw⟩; exact False.elim hw)).trans (ba.cell 0 _ rfl)
          have e1 := (hg.cell (g) 1 ba.lt (by rintro ⟨j, _, hne, hb, hw⟩; exact False.elim hw)).trans (ba.cell 1 _ rfl)
          have e2 := (hg.cell (g) 2 ba.lt (by rintro ⟨j, _, hne, hb, hw⟩; exact False.elim hw)).trans (ba.cell 2 _ rfl)
          have e3 := (hg.cell (g) 3 ba.lt (by rintro ⟨j, _, hne, hb, hw⟩; exact False.elim hw)).trans (ba.cell 3 _ rfl)
          have e4 := (hg.cell (g) 4 ba.lt (by rintro ⟨j, _, hne, hb, hw⟩; exact False.elim hw)).trans (ba.cell 4 _ rfl)
          go_wp2
          exact ⟨_, rfl, GrowC.refl _, rfl⟩
        | 6, _ =>
          obtain rfl := Option.some.inj ho
          clear ho
          simp only [actsD, List.getD_cons_zero, List.getD_cons_succ, List.foldl_cons, List.foldl_nil, Act.put, List.setIfInBounds_toArray, List.set_cons_succ, List.set_cons_zero]
          obtain ⟨_, _, _, h5⟩ := hp 5 (by simp)
          simp only [PSmt] at h5
          have hsz := hg.size
          have hgB : Below w4.heap.size w4 w' := hg.below (fun k hk => ⟨hk, fun o => by rintro ⟨j, _, _, _, hw⟩; exact False.elim hw⟩)
          rw [h5]
          go_wp2_with fail
          refine (to_small _ _ _ _ _ (HX.out.below hgB (Nat.le_refl _)) hsm true n HLF.out HN.out).mono ?_
          rintro e wz ⟨r1, r2, rfl, hr, hb⟩
          go_wp2
          exact ⟨_, rfl, GrowC.of_grow hb, r1, r2, rfl, hr⟩
        | 7, _ =>
          obtain rfl := Option.some.inj ho
          clear ho
          simp only [actsD, List.getD_cons_zero, List.getD_cons_succ, List.foldl_cons, List.foldl_nil, Act.put, List.setIfInBounds_toArray, List.set_cons_succ, List.set_cons_zero]
          obtain ⟨_, _, _, h4⟩ := hp 4 (by simp)
          simp only [PSmt] at h4
          obtain ⟨_, _, _, h6⟩ := hp 6 (by simp)
          simp only [PSmt] at h6
          have hsz := hg.size
          have hgB : Below w4.heap.size w4 w' := hg.below (fun k hk => ⟨hk, fun o => by rintro ⟨j, _, _, _, hw⟩; exact False.elim hw⟩)
          obtain ⟨r1, r2, r3, h4, hr1⟩ := h4
          obtain ⟨q1, q2, h6, hq1⟩ := h6
          rw [h4, h6]
          go_wp2_with fail
          refine (same_small _ hsm _ _ _ _ _ _ _ hr1 hq1 _ _).mono ?_
          rintro e wz ⟨rfl, hb⟩
          go_wp2
          exact ⟨_, rfl, GrowC.of_grow hb, rfl⟩
        | 8, _ =>
          obtain rfl := Option.some.inj ho
          clear ho
          simp only [actsD, List.getD_cons_zero, List.getD_cons_succ, List.foldl_cons, List.foldl_nil, Act.put, List.setIfInBounds_toArray, List.set_cons_succ, List.set_cons_zero]
          obtain ⟨_, _, _, h7⟩ := hp 7 (by simp)
          simp only [PSmt] at h7
          have hsz := hg.size
          have hgB : Below w4.heap.size w4 w' := hg.below (fun k hk => ⟨hk, fun o => by rintro ⟨j, _, _, _, hw⟩; exact False.elim hw⟩)
          rw [h7]
          go_wp2
          exact ⟨_, rfl, GrowC.refl _, rfl⟩
        | 9, _ =>
          obtain rfl := Option.some.inj ho
          clear ho
          simp only [actsD, List.getD_cons_zero, List.getD_cons_succ, List.foldl_cons, List.foldl_nil, Act.put, List.setIfInBounds_toArray, List.set_cons_succ, List.set_cons_zero]
          obtain ⟨_, _, _, h8⟩ := hp 8 (by simp)
          simp only [PSmt] at h8
          have hsz := hg.size
          have hgB : Below w4.heap.size w4 w' := hg.below (fun k hk => ⟨hk, fun o => by rintro ⟨j, _, _, _, hw⟩; exact False.elim hw⟩)
          rw [h8]
          go_wp2_with fail
          refine (awake_any _).mono ?_
          rintro e wz ⟨rfl, hb⟩
          go_wp2
          exact ⟨_, rfl, GrowC.of_grow hb, rfl⟩
        | 10, _ =>
          obtain rfl := Option.some.inj ho
          clear ho
          simp only [actsD, List.getD_cons_zero, List.getD_cons_succ, List.foldl_cons, List.foldl_nil, Act.put, List.setIfInBounds_toArray, List.set_cons_succ, List.set_cons_zero]
          obtain ⟨_, _, _, h8⟩ := hp 8 (by simp)
          simp only [PSmt] at h8
          obtain ⟨_, _, _, h9⟩ := hp 9 (by simp)
          simp only [PSmt] at h9
          have hsz := hg.size
          have hgB : Below w4.heap.size w4 w' := hg.below (fun k hk => ⟨hk, fun o => by rintro ⟨j, _, _, _, hw⟩; exact False.elim hw⟩)
          rw [h8, h9]
          go_wp2
          exact ⟨_, rfl, GrowC.refl _, rfl⟩
        | 11, _ =>
          obtain rfl := Option.some.inj ho
          clear ho
          simp only [actsD, List.getD_cons_zero, List.getD_cons_succ, List.foldl_cons, List.foldl_nil, Act.put, List.setIfInBounds_toArray, List.set_cons_succ, List.set_cons_zero]
          obtain ⟨_, _, _, h10⟩ := hp 10 (by simp)
          simp only [PSmt] at h10
          have hsz := hg.size
          have hgB : Below w4.heap.size w4 w' := hg.below (fun k hk => ⟨hk, fun o => by rintro ⟨j, _, _, _, hw⟩; exact False.elim hw⟩)
          rw [h10]
          go_wp2
          exact ⟨_, rfl, GrowC.refl _, rfl⟩
        | (q + 12), hq => exact absurd hq (by omega)
      intro vS lo hi w5 hg hp hd
      obtain ⟨_, _, _, h0⟩ := hp 0 (by omega)
      obtain ⟨_, _, _, h1⟩ := hp 1 (by omega)
      obtain ⟨_, _, _, h2⟩ := hp 2 (by omega)
      obtain ⟨_, _, _, h3⟩ := hp 3 (by omega)
      obtain ⟨_, _, _, h4⟩ := hp 4 (by omega)
      obtain ⟨_, _, _, h5⟩ := hp 5 (by omega)
      obtain ⟨_, _, _, h6⟩ := hp 6 (by omega)
      obtain ⟨_, _, _, h7⟩ := hp 7 (by omega)
      obtain ⟨_, _, _, h8⟩ := hp 8 (by omega)
      obtain ⟨_, _, _, h9⟩ := hp 9 (by omega)
      obtain ⟨_, _, _, h10⟩ := hp 10 (by omega)
      obtain ⟨_, _, _, h11⟩ := hp 11 (by omega)
      simp only [PSmt] at h0 h1 h2 h3 h4 h5 h6 h7 h8 h9 h10 h11
      clear hp hd
      have hsz := hg.size
      replace ba := ba.grow hg (by intro i _; rintro ⟨j, _, hw⟩; exact False.elim hw)
      replace bc := bc.grow hg (by intro i _; rintro ⟨j, _, hw⟩; exact False.elim hw)
      replace bd := bd.grow hg (by intro i _; rintro ⟨j, _, hw⟩; exact False.elim hw)
      replace hB := hB.trans (hg.below (fun k hk => ⟨by omega, fun o => by rintro ⟨j, _, hw⟩; exact False.elim hw⟩))
      have hr : List.range 12 = [0, 1, 2, 3, 4, 5, 6, 7, 8, 9, 10, 11] := rfl
      rw [hr]
      clear hr
      simp only [List.drop_succ_cons, List.drop_zero, List.drop_nil, actsD, List.getD_cons_zero, List.getD_cons_succ, List.foldl_cons, List.foldl_nil, Act.put, List.setIfInBounds_toArray, List.set_cons_succ, List.set_cons_zero, h0, h1, h2, h5, h7, h8, h9, h10, h11]
      clear h0 h1 h2 h5 h7 h8 h9 h10 h11
      go_wp2
      go_ret
      exact ⟨rfl, hB⟩
  · obtain rfl : r = false := by cases r with | false => rfl | true => exact absurd (hr.1 rfl) hf
    clear hr hf
    go_wp2_with fail
    refine (awake_any _).mono ?_
    rintro e w2 ⟨rfl, hb2⟩
    have hBB := hB.trans (hb2.mono (by omega))
    clear hB hb2
    go_wp2
    go_ret
    exact ⟨rfl, hBB⟩
def WSff (W0 : World) (g g3 nk kc nv vc nd dc i3 i6 i9 : Nat) (n : Int) (ka va da i1 i4 i7 : Option Addr) (x : Nd) (j b o : Nat) : Prop := False
def PSff (W0 : World) (g g3 nk kc nv vc nd dc i3 i6 i9 : Nat) (n : Int) (ka va da i1 i4 i7 : Option Addr) (x : Nd) (i : Nat) (v : Value) (lo hi : Nat) (w : World) : Prop :=
  match i with
  | 0 => v = .agg #[.bool false, .slice i1 nk i3, .slice i4 nv i6, .slice i7 nd i9, .int .i64 n]
  | 1 => ∃ r1 r2, v = .agg #[.bool false, r1, r2, (.slice i7 nd i9), .int .i64 n] ∧ RefAt w r1 r2 (.slice i7 nd i9) x
  | 2 => v = .agg #[.bool false, .slice ka nk kc, .slice va nv vc, .slice da nd dc, .int .i64 n]
  | 3 => ∃ r1 r2, v = .agg #[.bool false, r1, r2, (.slice da nd dc), .int .i64 n] ∧ RefAt w r1 r2 (.slice da nd dc) x
  | 4 => v = .bool true
  | 5 => v = .bool true
  | 6 => v = .slice none 0 0
  | 7 => v = .int .i64 0
  | 8 => v = .bool true
  | 9 => v = .bool true
  | 10 => v = .bool true
  | 11 => v = .agg #[.bool true, .slice none 0 0, .slice none 0 0, .slice none 0 0, .int .i64 0]
  | 12 => ∃ r1 r2, v = .agg #[.bool true, r1, r2, (.slice none 0 0), .int .i64 0] ∧ RefAt w r1 r2 (.slice none 0 0) emp
  | 13 => v = .agg #[.bool true, .slice none 0 0, .slice none 0 0, .slice none 0 0, .int .i64 0]
  | 14 => v = .bool true
  | 15 => v = .bool true
  | 16 => v = .bool true
  | 17 => v = .bool true
  | 18 => v = .bool true
  | 19 => v = .bool true
  | _ => True
theorem PSff_stable (W0 : World) (g g3 nk kc nv vc nd dc i3 i6 i9 : Nat) (n : Int) (ka va da i1 i4 i7 : Option Addr) (x : Nd)  : ∀ i j, i < 20 → j < 20 → j ≠ i → j ∉ ([[], [0], [], [0, 1, 2], [0, 1, 2, 3], [0, 1, 2, 3, 4], [0, 1, 2, 3, 4, 5], [0, 1, 2, 3, 4, 5, 6], [0, 1, 2, 3, 4, 5, 6, 7], [0, 1, 2, 3, 4, 5, 6, 7, 8], [0, 1, 2, 3, 4, 5, 6, 7, 8, 9], [0, 1, 2, 3, 4, 5, 6, 7, 8, 9, 10], [0, 1, 2, 3, 4, 5, 6, 7, 8, 9, 10, 11], [0, 1, 2, 3, 4, 5, 6, 7, 8, 9, 10], [0, 1, 2, 3, 4, 5, 6, 7, 8, 9, 10, 11, 12, 13], [0, 1, 2, 3, 4, 5, 6, 7, 8, 9, 10, 11, 12, 13, 14], [0, 1, 2, 3, 4, 5, 6, 7, 8, 9, 10, 11, 12, 13, 14, 15], [0, 1, 2, 3, 4, 5, 6, 7, 8, 9, 10, 11, 12, 13, 14, 15, 16], [0, 1, 2, 3, 4, 5, 6, 7, 8, 9, 10, 11, 12, 13, 14, 15, 16, 17], [0, 1, 2, 3, 4, 5, 6, 7, 8, 9, 10, 11, 12, 13, 14, 15, 16, 17, 18]] : List (List Nat)).getD i [] → ∀ v lo hi w w', PSff W0 g g3 nk kc nv vc nd dc i3 i6 i9 n ka va da i1 i4 i7 x i v lo hi w → GrowC (WSff W0 g g3 nk kc nv vc nd dc i3 i6 i9 n ka va da i1 i4 i7 x j) w w' → PSff W0 g g3 nk kc nv vc nd dc i3 i6 i9 n ka va da i1 i4 i7 x i v lo hi w' := by
  intro i j hi hj hne hbs v lo hj2 w w' h hg
  match i, hi with
  | 0, _ =>
    simp only [PSff] at h ⊢
    exact h
  | 1, _ =>
    simp only [PSff] at h ⊢
    obtain ⟨r1, r2, h1, h2⟩ := h; exact ⟨r1, r2, h1, h2.below (hg.below (B := w.heap.size) (fun k hk => ⟨hk, fun _ hw => False.elim hw⟩)) (Nat.le_refl _)⟩
  | 2, _ =>
    simp only [PSff] at h ⊢
    exact h
  | 3, _ =>
    simp only [PSff] at h ⊢
    obtain ⟨r1, r2, h1, h2⟩ := h; exact ⟨r1, r2, h1, h2.below (hg.below (B := w.heap.size) (fun k hk => ⟨hk, fun _ hw => False.elim hw⟩)) (Nat.le_refl _)⟩
  | 4, _ =>
    simp only [PSff] at h ⊢
    exact h
  | 5, _ =>
    simp only [PSff] at h ⊢
    exact h
  | 6, _ =>
    simp only [PSff] at h ⊢
    exact h
  | 7, _ =>
    simp only [PSff] at h ⊢
    exact h
  | 8, _ =>
    simp only [PSff] at h ⊢
    exact h
  | 9, _ =>
    simp only [PSff] at h ⊢
    exact h
  | 10, _ =>
    simp only [PSff] at h ⊢
    exact h
  | 11, _ =>
    simp only [PSff] at h ⊢
    exact h
  | 12, _ =>
    simp only [PSff] at h ⊢
    obtain ⟨r1, r2, h1, h2⟩ := h; exact ⟨r1, r2, h1, h2.below (hg.below (B := w.heap.size) (fun k hk => ⟨hk, fun _ hw => False.elim hw⟩)) (Nat.le_refl _)⟩
  | 13, _ =>
    simp only [PSff] at h ⊢
    exact h
  | 14, _ =>
    simp only [PSff] at h ⊢
    exact h
  | 15, _ =>
    simp only [PSff] at h ⊢
    exact h
  | 16, _ =>
    simp only [PSff] at h ⊢
    exact h
  | 17, _ =>
    simp only [PSff] at h ⊢
    exact h
  | 18, _ =>
    simp only [PSff] at h ⊢
    exact h
  | 19, _ =>
    simp only [PSff] at h ⊢
    exact h
  | (q + 20), hq => exact absurd hq (by omega)
def WSmf (W0 : World) (g g3 nk kc nv vc nd dc i2 i3 i5 i6 i8 i9 j2 j3 j5 j6 j8 j9 s2 s3 : Nat) (n : Int) (ka va da i1 i4 i7 j1 j4 j7 s1 : Option Addr) (x : Nd) (j b o : Nat) : Prop := False
def PSmf (W0 : World) (g g3 nk kc nv vc nd dc i2 i3 i5 i6 i8 i9 j2 j3 j5 j6 j8 j9 s2 s3 : Nat) (n : Int) (ka va da i1 i4 i7 j1 j4 j7 s1 : Option Addr) (x : Nd) (i : Nat) (v : Value) (lo hi : Nat) (w : World) : Prop :=
  match i with
  | 0 => v = .agg #[.bool false, .slice i1 i2 i3, .slice i4 i5 i6, .slice i7 i8 i9, .int .i64 0]
  | 1 => v = .slice s1 s2 s3
  | 2 => v = .agg #[.bool false, .slice j1 j2 j3, .slice j4 j5 j6, .slice j7 j8 j9, .int .i64 n]
  | 3 => ∃ m1 m2 m3, v = .agg #[.bool false, m1, m2, m3, .int .i64 n] ∧ NodeAt w m1 m2 m3 x
  | 4 => ∃ r1 r2 r3, v = .agg #[.bool false, r1, r2, r3, .int .i64 n] ∧ RefAt w r1 r2 r3 x
  | 5 => v = .agg #[.bool false, .slice ka nk kc, .slice va nv vc, .slice da nd dc, .int .i64 n]
  | 6 => ∃ r1 r2, v = .agg #[.bool false, r1, r2, (.slice da nd dc), .int .i64 n] ∧ RefAt w r1 r2 (.slice da nd dc) x
  | 7 => v = .bool true
  | 8 => v = .bool true
  | 9 => v = .bool true
  | 10 => v = .bool true
  | 11 => v = .bool true
  | _ => True
theorem PSmf_stable (W0 : World) (g g3 nk kc nv vc nd dc i2 i3 i5 i6 i8 i9 j2 j3 j5 j6 j8 j9 s2 s3 : Nat) (n : Int) (ka va da i1 i4 i7 j1 j4 j7 s1 : Option Addr) (x : Nd)  : ∀ i j, i < 12 → j < 12 → j ≠ i → j ∉ ([[], [], [], [0, 1, 2], [0, 1, 2, 3], [], [0, 1, 2, 3, 4, 5], [0, 1, 2, 3, 4, 5, 6], [0, 1, 2, 3, 4, 5, 6, 7], [0, 1, 2, 3, 4, 5, 6, 7, 8], [0, 1, 2, 3, 4, 5, 6, 7, 8, 9], [0, 1, 2, 3, 4, 5, 6, 7, 8, 9, 10]] : List (List Nat)).getD i [] → ∀ v lo hi w w', PSmf W0 g g3 nk kc nv vc nd dc i2 i3 i5 i6 i8 i9 j2 j3 j5 j6 j8 j9 s2 s3 n ka va da i1 i4 i7 j1 j4 j7 s1 x i v lo hi w → GrowC (WSmf W0 g g3 nk kc nv vc nd dc i2 i3 i5 i6 i8 i9 j2 j3 j5 j6 j8 j9 s2 s3 n ka va da i1 i4 i7 j1 j4 j7 s1 x j) w w' → PSmf W0 g g3 nk kc nv vc nd dc i2 i3 i5 i6 i8 i9 j2 j3 j5 j6 j8 j9 s2 s3 n ka va da i1 i4 i7 j1 j4 j7 s1 x i v lo hi w' := by
  intro i j hi hj hne hbs v lo hj2 w w' h hg
  match i, hi with
  | 0, _ =>
    simp only [PSmf] at h ⊢
    exact h
  | 1, _ =>
    simp only [PSmf] at h ⊢
    exact h
  | 2, _ =>
    simp only [PSmf] at h ⊢
    exact h
  | 3, _ =>
    simp only [PSmf] at h ⊢
    obtain ⟨m1, m2, m3, h1, h2⟩ := h; exact ⟨m1, m2, m3, h1, h2.below (hg.below (B := w.heap.size) (fun k hk => ⟨hk, fun _ hw => False.elim hw⟩)) (Nat.le_refl _)⟩
  | 4, _ =>
    simp only [PSmf] at h ⊢
    obtain ⟨r1, r2, r3, h1, h2⟩ := h; exact ⟨r1, r2, r3, h1, h2.below (hg.below (B := w.heap.size) (fun k hk => ⟨hk, fun _ hw => False.elim hw⟩)) (Nat.le_refl _)⟩
  | 5, _ =>
    simp only [PSmf] at h ⊢
    exact h
  | 6, _ =>
    simp only [PSmf] at h ⊢
    obtain ⟨r1, r2, h1, h2⟩ := h; exact ⟨r1, r2, h1, h2.below (hg.below (B := w.heap.size) (fun k hk => ⟨hk, fun _ hw => False.elim hw⟩)) (Nat.le_refl _)⟩
  | 7, _ =>
    simp only [PSmf] at h ⊢
    exact h
  | 8, _ =>
    simp only [PSmf] at h ⊢
    exact h
  | 9, _ =>
    simp only [PSmf] at h ⊢
    exact h
  | 10, _ =>
    simp only [PSmf] at h ⊢
    exact h
  | 11, _ =>
    simp only [PSmf] at h ⊢
    exact h
  | (q + 12), hq => exact absurd hq (by omega)

set_option maxRecDepth 100000 in
set_option maxHeartbeats 3200000 in
theorem splits_false (x : Nd) (hlf : x.leaf = false) (hsm : x.small) (ks vs ds : Value) (w : World) (hx : NodeAt w ks vs ds x) (n : Int) (hn : x.next = n) :
    Calls Try.prog 4 #[.agg #[.bool false, ks, vs, ds, .int .i64 n]] w fun e w' => e = .returned (.bool true) ∧ Below w.heap.size w w' := by
  obtain ⟨_, ⟨ka, kc, rfl, _⟩, _⟩ := id hx.keys
  obtain ⟨_, ⟨va, vc, rfl, _⟩, _⟩ := id hx.vals
  obtain ⟨da, dc, rfl⟩ := hx.kids.shape
  obtain ⟨nk, hnk⟩ : ∃ nk, x.keys.length = nk := ⟨_, rfl⟩
  obtain ⟨nv, hnv⟩ : ∃ nv, x.vals.length = nv := ⟨_, rfl⟩
  obtain ⟨nd, hnd⟩ : ∃ nd, x.kids.length = nd := ⟨_, rfl⟩
  have hk : nk ≤ 1048576 := hnk ▸ hsm.keys
  have hv : nv ≤ 1048576 := hnv ▸ hsm.vals
  have hd : nd ≤ 1048577 := hnd ▸ hsm.kids
  simp only [hnk, hnv, hnd] at hx ⊢
  obtain ⟨g, hg0⟩ : ∃ g, w.heap.size = g := ⟨_, rfl⟩
  have ba := Box.new w #[.bool false, .slice ka nk kc, .slice va nv vc, .slice da nd dc, .int .i64 n] 25 hg0.symm
  have hB := (Below.refl w.heap.size w).alloc (Nat.le_refl _) (.cells #[.bool false, .slice ka nk kc, .slice va nv vc, .slice da nd dc, .int .i64 n] 25)
  have hs0 : g + 1 ≤ (w.alloc (.cells #[.bool false, .slice ka nk kc, .slice va nv vc, .slice da nd dc, .int .i64 n] 25)).heap.size := by simp; omega
  have HG := Lib.hid hg0
  have HNK := Lib.hid hnk
  have HNV := Lib.hid hnv
  have HND := Lib.hid hnd
  have HX := Lib.hid (hx.below hB (Nat.le_refl _))
  have HLF := Lib.hid hlf
  have HN := Lib.hid hn
  clear hx hnk hnv hnd hg0 hlf hn
  have ca0 := ba.cell 0 _ rfl
  have ca1 := ba.cell 1 _ rfl
  have ca2 := ba.cell 2 _ rfl
  have ca3 := ba.cell 3 _ rfl
  have ca4 := ba.cell 4 _ rfl
  have fa := ba.free
  go_enter Try.func4, Try.ntmps4
  go_wp2_with fail
  clear ca0 ca1 ca2 ca3 ca4 fa
  have hgw : w.heap.size ≤ g := Nat.le_of_eq HG.out
  rw [HG.out]
  refine (lfit_any x hsm _ _ _ _ HX.out false n HLF.out HN.out).mono ?_
  rintro e w1 ⟨r, rfl, hr, hb1⟩
  replace ba := ba.below hb1 (Nat.le_refl _)
  replace hB := hB.trans (hb1.mono (by simp))
  have hx1 := HX.out.below hb1 (Nat.le_refl _)
  replace hs0 := Nat.le_trans hs0 hb1.size
  clear HX
  have HX := Lib.hid hx1
  clear hb1 hx1
  by_cases hf : x.Fit
  · obtain rfl : r = true := hr.2 hf
    have HF := Lib.hid hf
    clear hr hf
    by_cases hl : nk < 2
    · have dl : decide ((nk : Int) < 2) = true := by simp; omega
      have ca0 := ba.cell 0 _ rfl
      have ca1 := ba.cell 1 _ rfl
      have ca2 := ba.cell 2 _ rfl
      have ca3 := ba.cell 3 _ rfl
      have ca4 := ba.cell 4 _ rfl
      have fa := ba.free
      go_wp2_with fail
      clear ca0 ca1 ca2 ca3 ca4 fa
      refine (split_few x _ _ _ _ HX.out hsm.ok (.inl (by rw [HNK.out]; exact hl)) false n HLF.out HN.out).mono ?_
      rintro e w2 ⟨lk, lv, ld, rfl, hkp, hb2⟩
      replace ba := ba.below hb2 (Nat.le_refl _)
      replace hB := hB.trans (hb2.mono (by omega))
      have hx2 := HX.out.below hb2 (Nat.le_refl _)
      clear HX
      replace hs0 := Nat.le_trans hs0 hb2.size
      have hc2 := hkp.now
      obtain ⟨_, ⟨i1, i3, rfl, _⟩, _⟩ := id hc2.keys
      obtain ⟨_, ⟨i4, i6, rfl, _⟩, _⟩ := id hc2.vals
      obtain ⟨i7, i9, rfl⟩ := hc2.kids.shape
      clear hb2 hkp
      obtain ⟨g3, hg3⟩ : ∃ g3, w2.heap.size = g3 := ⟨_, rfl⟩
      have hgg : g < g3 := by omega
      rw [HNK.out, HNV.out, HND.out] at hc2
      simp only [nodeV, HLF.out, HN.out, HNK.out, HNV.out, HND.out]
      have b1 := (Box.new w2 #[.bool false, .slice i1 nk i3, .slice i4 nv i6, .slice i7 nd i9, .int .i64 n] 25 hg3.symm).alloc (.cells #[.bool true, .slice none 0 0, .slice none 0 0, .slice none 0 0, .int .i64 0] 25)
      have b2 := Box.new (w2.alloc (.cells #[.bool false, .slice i1 nk i3, .slice i4 nv i6, .slice i7 nd i9, .int .i64 n] 25)) #[.bool true, .slice none 0 0, .slice none 0 0, .slice none 0 0, .int .i64 0] 25 (g := g3 + 1) (by simp; omega)
      have hgr := ((Below.refl w2.heap.size w2).alloc (Nat.le_refl _) (.cells #[.bool false, .slice i1 nk i3, .slice i4 nv i6, .slice i7 nd i9, .int .i64 n] 25)).alloc (by simp) (.cells #[.bool true, .slice none 0 0, .slice none 0 0, .slice none 0 0, .int .i64 0] 25)
      have HG3 := Lib.hid hg3
      have hlt0 := ba.lt
      have HW := Lib.hid (⟨ba.below hgr (Nat.le_refl _), b1, b2, hB.trans (hgr.mono (by omega)), hx2.below hgr (Nat.le_refl _), hc2.below hgr (Nat.le_refl _), by simp; omega⟩ : _ ∧ _ ∧ _ ∧ _ ∧ _ ∧ _ ∧ g3 + 2 ≤ ((w2.alloc (.cells #[.bool false, .slice i1 nk i3, .slice i4 nv i6, .slice i7 nd i9, .int .i64 n] 25)).alloc (.cells #[.bool true, .slice none 0 0, .slice none 0 0, .slice none 0 0, .int .i64 0] 25)).heap.size)
      clear b1 b2 hgr hg3 hx2 hc2 hB
      have ca0 := ba.cell 0 _ rfl
      have ca1 := ba.cell 1 _ rfl
      have ca2 := ba.cell 2 _ rfl
      have ca3 := ba.cell 3 _ rfl
      have ca4 := ba.cell 4 _ rfl
      have fa := ba.free
      go_wp2_with fail
      clear ca0 ca1 ca2 ca3 ca4 fa
      rw [HG3.out]
      refine wp_world (fun u => Box u g [.bool false, .slice ka nk kc, .slice va nv vc, .slice da nd dc, .int .i64 n] ∧ Box u g3 [.bool false, .slice i1 nk i3, .slice i4 nv i6, .slice i7 nd i9, .int .i64 n] ∧ Box u (g3 + 1) [.bool true, .slice none 0 0, .slice none 0 0, .slice none 0 0, .int .i64 0] ∧ Below w.heap.size w u ∧ NodeAt u (.slice ka nk kc) (.slice va nv vc) (.slice da nd dc) x ∧ NodeAt u (.slice i1 nk i3) (.slice i4 nv i6) (.slice i7 nd i9) x ∧ g3 + 2 ≤ u.heap.size) HW.out ?_
      clear HW ba hlt0
      rintro w3 ⟨ba, bc, bd, hB, hx3, hc3, hs3⟩
      have HX := Lib.hid hx3
      have HC := Lib.hid hc3
      clear hx3 hc3
      refine wp_region_partsDC (WSff w3 g g3 nk kc nv vc nd dc i3 i6 i9 n ka va da i1 i4 i7 x) 20 [[], [0], [], [0, 1, 2], [0, 1, 2, 3], [0, 1, 2, 3, 4], [0, 1, 2, 3, 4, 5], [0, 1, 2, 3, 4, 5, 6], [0, 1, 2, 3, 4, 5, 6, 7], [0, 1, 2, 3, 4, 5, 6, 7, 8], [0, 1, 2, 3, 4, 5, 6, 7, 8, 9], [0, 1, 2, 3, 4, 5, 6, 7, 8, 9, 10], [0, 1, 2, 3, 4, 5, 6, 7, 8, 9, 10, 11], [0, 1, 2, 3, 4, 5, 6, 7, 8, 9, 10], [0, 1, 2, 3, 4, 5, 6, 7, 8, 9, 10, 11, 12, 13], [0, 1, 2, 3, 4, 5, 6, 7, 8, 9, 10, 11, 12, 13, 14], [0, 1, 2, 3, 4, 5, 6, 7, 8, 9, 10, 11, 12, 13, 14, 15], [0, 1, 2, 3, 4, 5, 6, 7, 8, 9, 10, 11, 12, 13, 14, 15, 16], [0, 1, 2, 3, 4, 5, 6, 7, 8, 9, 10, 11, 12, 13, 14, 15, 16, 17], [0, 1, 2, 3, 4, 5, 6, 7, 8, 9, 10, 11, 12, 13, 14, 15, 16, 17, 18]] [some 22, some 23, some 24, some 25, some 26, some 27, some 28, some 29, some 30, some 31, some 32, some 33, some 34, some 35, some 36, some 37, some 38, some 39, some 40, some 2] (by kernel_rfl) (by kernel_rfl) rfl (PSff w3 g g3 nk kc nv vc nd dc i3 i6 i9 n ka va da i1 i4 i7 x) (PSff_stable w3 g g3 nk kc nv vc nd dc i3 i6 i9 n ka va da i1 i4 i7 x ) ?pSff ?_
      case pSff =>
        intro i hi o ho vs lo hx_ w' hg hp
        match i, hi with
        | 0, _ =>
          obtain rfl := Option.some.inj ho
          clear ho
          simp only [actsD, List.getD_cons_zero, List.getD_cons_succ, List.foldl_cons, List.foldl_nil, Act.put, List.setIfInBounds_toArray, List.set_cons_succ, List.set_cons_zero]
          have hsz := hg.size
          have hgB : Below w3.heap.size w3 w' := hg.below (fun k hk => ⟨hk, fun o => by rintro ⟨j, _, _, _, hw⟩; exact False.elim hw⟩)
          have e0 := (hg.cell (g3) 0 bc.lt (by rintro ⟨j, _, hne, hb, hw⟩; exact False.elim hw)).trans (bc.cell 0 _ rfl)
          have e1 := (hg.cell (g3) 1 bc.lt (by rintro ⟨j, _, hne, hb, hw⟩; exact False.elim hw)).trans (bc.cell 1 _ rfl)
          have e2 := (hg.cell (g3) 2 bc.lt (by rintro ⟨j, _, hne, hb, hw⟩; exact False.elim hw)).trans (bc.cell 2 _ rfl)
          have e3 := (hg.cell (g3) 3 bc.lt (by rintro ⟨j, _, hne, hb, hw⟩; exact False.elim hw)).trans (bc.cell 3 _ rfl)
          have e4 := (hg.cell (g3) 4 bc.lt (by rintro ⟨j, _, hne, hb, hw⟩; exact False.elim hw)).trans (bc.cell 4 _ rfl)
          go_wp2
          exact ⟨_, rfl, GrowC.refl _, rfl⟩
        | 1, _ =>
          obtain rfl := Option.some.inj ho
          clear ho
          simp only [actsD, List.getD_cons_zero, List.getD_cons_succ, List.foldl_cons, List.foldl_nil, Act.put, List.setIfInBounds_toArray, List.set_cons_succ, List.set_cons_zero]
          obtain ⟨_, _, _, h0⟩ := hp 0 (by simp)
          simp only [PSff] at h0
          have hsz := hg.size
          have hgB : Below w3.heap.size w3 w' := hg.below (fun k hk => ⟨hk, fun o => by rintro ⟨j, _, _, _, hw⟩; exact False.elim hw⟩)
          rw [h0]
          go_wp2_with fail
          refine (to_small _ _ _ _ _ (HC.out.below hgB (Nat.le_refl _)) hsm false n HLF.out HN.out).mono ?_
          rintro e wz ⟨r1, r2, rfl, hr, hb⟩
          go_wp2
          exact ⟨_, rfl, GrowC.of_grow hb, r1, r2, rfl, hr⟩
        | 2, _ =>
          obtain rfl := Option.some.inj ho
          clear ho
          simp only [actsD, List.getD_cons_zero, List.getD_cons_succ, List.foldl_cons, List.foldl_nil, Act.put, List.setIfInBounds_toArray, List.set_cons_succ, List.set_cons_zero]
          have hsz := hg.size
          have hgB : Below w3.heap.size w3 w' := hg.below (fun k hk => ⟨hk, fun o => by rintro ⟨j, _, _, _, hw⟩; exact False.elim hw⟩)
          have e0 := (hg.cell (g) 0 ba.lt (by rintro ⟨j, _, hne, hb, hw⟩; exact False.elim hw)).trans (ba.cell 0 _ rfl)
          have e1 := (hg.cell (g) 1 ba.lt (by rintro ⟨j, _, hne, hb, hw⟩; exact False.elim hw)).trans (ba.cell 1 _ rfl)
          have e2 := (hg.cell (g) 2 ba.lt (by rintro ⟨j, _, hne, hb, hw⟩; exact False.elim hw)).trans (ba.cell 2 _ rfl)
          have e3 := (hg.cell (g) 3 ba.lt (by rintro ⟨j, _, hne, hb, hw⟩; exact False.elim hw)).trans (ba.cell 3 _ rfl)
          have e4 := (hg.cell (g) 4 ba.lt (by rintro ⟨j, _, hne, hb, hw⟩; exact False.elim hw)).trans (ba.cell 4 _ rfl)
          go_wp2
          exact ⟨_, rfl, GrowC.refl _, rfl⟩
        | 3, _ =>
          obtain rfl := Option.some.inj ho
          clear ho
          simp only [actsD, List.getD_cons_zero, List.getD_cons_succ, List.foldl_cons, List.foldl_nil, Act.put, List.setIfInBounds_toArray, List.set_cons_succ, List.set_cons_zero]
          obtain ⟨_, _, _, h2⟩ := hp 2 (by simp)
          simp only [PSff] at h2
          have hsz := hg.size
          have hgB : Below w3.heap.size w3 w' := hg.below (fun k hk => ⟨hk, fun o => by rintro ⟨j, _, _, _, hw⟩; exact False.elim hw⟩)
          rw [h2]
          go_wp2_with fail
          refine (to_small _ _ _ _ _ (HX.out.below hgB (Nat.le_refl _)) hsm false n HLF.out HN.out).mono ?_
          rintro e wz ⟨r1, r2, rfl, hr, hb⟩
          go_wp2
          exact ⟨_, rfl, GrowC.of_grow hb, r1, r2, rfl, hr⟩
        | 4, _ =>
          obtain rfl := Option.some.inj ho
          clear ho
          simp only [actsD, List.getD_cons_zero, List.getD_cons_succ, List.foldl_cons, List.foldl_nil, Act.put, List.setIfInBounds_toArray, List.set_cons_succ, List.set_cons_zero]
          obtain ⟨_, _, _, h1⟩ := hp 1 (by simp)
          simp only [PSff] at h1
          obtain ⟨_, _, _, h3⟩ := hp 3 (by simp)
          simp only [PSff] at h3
          have hsz := hg.size
          have hgB : Below w3.heap.size w3 w' := hg.below (fun k hk => ⟨hk, fun o => by rintro ⟨j, _, _, _, hw⟩; exact False.elim hw⟩)
          obtain ⟨r1, r2, h1, hr1⟩ := h1
          obtain ⟨q1, q2, h3, hq1⟩ := h3
          rw [h1, h3]
          go_wp2_with fail
          refine (same_small _ hsm _ _ _ _ _ _ _ hr1 hq1 _ _).mono ?_
          rintro e wz ⟨rfl, hb⟩
          go_wp2
          exact ⟨_, rfl, GrowC.of_grow hb, rfl⟩
        | 5, _ =>
          obtain rfl := Option.some.inj ho
          clear ho
          simp only [actsD, List.getD_cons_zero, List.getD_cons_succ, List.foldl_cons, List.foldl_nil, Act.put, List.setIfInBounds_toArray, List.set_cons_succ, List.set_cons_zero]
          obtain ⟨_, _, _, h4⟩ := hp 4 (by simp)
          simp only [PSff] at h4
          have hsz := hg.size
          have hgB : Below w3.heap.size w3 w' := hg.below (fun k hk => ⟨hk, fun o => by rintro ⟨j, _, _, _, hw⟩; exact False.elim hw⟩)
          rw [h4]
          go_wp2
          exact ⟨_, rfl, GrowC.refl _, rfl⟩
        | 6, _ =>
          obtain rfl := Option.some.inj ho
          clear ho
          simp only [actsD, List.getD_cons_zero, List.getD_cons_succ, List.foldl_cons, List.foldl_nil, Act.put, List.setIfInBounds_toArray, List.set_cons_succ, List.set_cons_zero]
          obtain ⟨_, _, _, h5⟩ := hp 5 (by simp)
          simp only [PSff] at h5
          have hsz := hg.size
          have hgB : Below w3.heap.size w3 w' := hg.below (fun k hk => ⟨hk, fun o => by rintro ⟨j, _, _, _, hw⟩; exact False.elim hw⟩)
          rw [h5]
          go_wp2
          exact ⟨_, rfl, GrowC.refl _, rfl⟩
        | 7, _ =>
          obtain rfl := Option.some.inj ho
          clear ho
          simp only [actsD, List.getD_cons_zero, List.getD_cons_succ, List.foldl_cons, List.foldl_nil, Act.put, List.setIfInBounds_toArray, List.set_cons_succ, List.set_cons_zero]
          obtain ⟨_, _, _, h5⟩ := hp 5 (by simp)
          simp only [PSff] at h5
          obtain ⟨_, _, _, h6⟩ := hp 6 (by simp)
          simp only [PSff] at h6
          have hsz := hg.size
          have hgB : Below w3.heap.size w3 w' := hg.below (fun k hk => ⟨hk, fun o => by rintro ⟨j, _, _, _, hw⟩; exact False.elim hw⟩)
          rw [h5, h6]
          go_wp2
          exact ⟨_, rfl, GrowC.refl _, rfl⟩
        | 8, _ =>
          obtain rfl := Option.some.inj ho
          clear ho
          simp only [actsD, List.getD_cons_zero, List.getD_cons_succ, List.foldl_cons, List.foldl_nil, Act.put, List.setIfInBounds_toArray, List.set_cons_succ, List.set_cons_zero]
          obtain ⟨_, _, _, h5⟩ := hp 5 (by simp)
          simp only [PSff] at h5
          obtain ⟨_, _, _, h7⟩ := hp 7 (by simp)
          simp only [PSff] at h7
          have hsz := hg.size
          have hgB : Below w3.heap.size w3 w' := hg.below (fun k hk => ⟨hk, fun o => by rintro ⟨j, _, _, _, hw⟩; exact False.elim hw⟩)
          rw [h5, h7]
          go_wp2
          exact ⟨_, rfl, GrowC.refl _, rfl⟩
        | 9, _ =>
          obtain rfl := Option.some.inj ho
          clear ho
          simp only [actsD, List.getD_cons_zero, List.getD_cons_succ, List.foldl_cons, List.foldl_nil, Act.put, List.setIfInBounds_toArray, List.set_cons_succ, List.set_cons_zero]
          obtain ⟨_, _, _, h5⟩ := hp 5 (by simp)
          simp only [PSff] at h5
          obtain ⟨_, _, _, h8⟩ := hp 8 (by simp)
          simp only [PSff] at h8
          have hsz := hg.size
          have hgB : Below w3.heap.size w3 w' := hg.below (fun k hk => ⟨hk, fun o => by rintro ⟨j, _, _, _, hw⟩; exact False.elim hw⟩)
          rw [h5, h8]
          go_wp2
          exact ⟨_, rfl, GrowC.refl _, rfl⟩
        | 10, _ =>
          obtain rfl := Option.some.inj ho
          clear ho
          simp only [actsD, List.getD_cons_zero, List.getD_cons_succ, List.foldl_cons, List.foldl_nil, Act.put, List.setIfInBounds_toArray, List.set_cons_succ, List.set_cons_zero]
          obtain ⟨_, _, _, h9⟩ := hp 9 (by simp)
          simp only [PSff] at h9
          have hsz := hg.size
          have hgB : Below w3.heap.size w3 w' := hg.below (fun k hk => ⟨hk, fun o => by rintro ⟨j, _, _, _, hw⟩; exact False.elim hw⟩)
          rw [h9]
          go_wp2
          exact ⟨_, rfl, GrowC.refl _, rfl⟩
        | 11, _ =>
          obtain rfl := Option.some.inj ho
          clear ho
          simp only [actsD, List.getD_cons_zero, List.getD_cons_succ, List.foldl_cons, List.foldl_nil, Act.put, List.setIfInBounds_toArray, List.set_cons_succ, List.set_cons_zero]
          obtain ⟨_, _, _, h10⟩ := hp 10 (by simp)
          simp only [PSff] at h10
          have hsz := hg.size
          have hgB : Below w3.heap.size w3 w' := hg.below (fun k hk => ⟨hk, fun o => by rintro ⟨j, _, _, _, hw⟩; exact False.elim hw⟩)
          rw [h10]
          have e0 := (hg.cell (g3 + 1) 0 bd.lt (by rintro ⟨j, _, hne, hb, hw⟩; exact False.elim hw)).trans (bd.cell 0 _ rfl)
          have e1 := (hg.cell (g3 + 1) 1 bd.lt (by rintro ⟨j, _, hne, hb, hw⟩; exact False.elim hw)).trans (bd.cell 1 _ rfl)
          have e2 := (hg.cell (g3 + 1) 2 bd.lt (by rintro ⟨j, _, hne, hb, hw⟩; exact False.elim hw)).trans (bd.cell 2 _ rfl)
          have e3 := (hg.cell (g3 + 1) 3 bd.lt (by rintro ⟨j, _, hne, hb, hw⟩; exact False.elim hw)).trans (bd.cell 3 _ rfl)
          have e4 := (hg.cell (g3 + 1) 4 bd.lt (by rintro ⟨j, _, hne, hb, hw⟩; exact False.elim hw)).trans (bd.cell 4 _ rfl)
          go_wp2
          exact ⟨_, rfl, GrowC.refl _, rfl⟩
        | 12, _ =>
          obtain rfl := Option.some.inj ho
          clear ho
          simp only [actsD, List.getD_cons_zero, List.getD_cons_succ, List.foldl_cons, List.foldl_nil, Act.put, List.setIfInBounds_toArray, List.set_cons_succ, List.set_cons_zero]
          obtain ⟨_, _, _, h10⟩ := hp 10 (by simp)
          simp only [PSff] at h10
          obtain ⟨_, _, _, h11⟩ := hp 11 (by simp)
          simp only [PSff] at h11
          have hsz := hg.size
          have hgB : Below w3.heap.size w3 w' := hg.below (fun k hk => ⟨hk, fun o => by rintro ⟨j, _, _, _, hw⟩; exact False.elim hw⟩)
          rw [h10, h11]
          go_wp2_with fail
          refine (to_small _ _ _ _ _ ((emp_at w3).below hgB (Nat.le_refl _)) emp_small true 0 rfl rfl).mono ?_
          rintro e wz ⟨r1, r2, rfl, hr, hb⟩
          go_wp2
          exact ⟨_, rfl, GrowC.of_grow hb, r1, r2, rfl, hr⟩
        | 13, _ =>
          obtain rfl := Option.some.inj ho
          clear ho
          simp only [actsD, List.getD_cons_zero, List.getD_cons_succ, List.foldl_cons, List.foldl_nil, Act.put, List.setIfInBounds_toArray, List.set_cons_succ, List.set_cons_zero]
          obtain ⟨_, _, _, h10⟩ := hp 10 (by simp)
          simp only [PSff] at h10
          have hsz := hg.size
          have hgB : Below w3.heap.size w3 w' := hg.below (fun k hk => ⟨hk, fun o => by rintro ⟨j, _, _, _, hw⟩; exact False.elim hw⟩)
          rw [h10]
          go_wp2
          exact ⟨_, rfl, GrowC.refl _, rfl⟩
        | 14, _ =>
          obtain rfl := Option.some.inj ho
          clear ho
          simp only [actsD, List.getD_cons_zero, List.getD_cons_succ, List.foldl_cons, List.foldl_nil, Act.put, List.setIfInBounds_toArray, List.set_cons_succ, List.set_cons_zero]
          obtain ⟨_, _, _, h10⟩ := hp 10 (by simp)
          simp only [PSff] at h10
          obtain ⟨_, _, _, h12⟩ := hp 12 (by simp)
          simp only [PSff] at h12
          obtain ⟨_, _, _, h13⟩ := hp 13 (by simp)
          simp only [PSff] at h13
          have hsz := hg.size
          have hgB : Below w3.heap.size w3 w' := hg.below (fun k hk => ⟨hk, fun o => by rintro ⟨j, _, _, _, hw⟩; exact False.elim hw⟩)
          obtain ⟨r1, r2, h12, hr1⟩ := h12
          rw [h10, h12, h13]
          go_wp2_with fail
          refine (same_small emp emp_small _ _ _ _ _ _ _ hr1 (emp_ref _) _ _).mono ?_
          rintro e wz ⟨rfl, hb⟩
          go_wp2
          exact ⟨_, rfl, GrowC.of_grow hb, rfl⟩
        | 15, _ =>
          obtain rfl := Option.some.inj ho
          clear ho
          simp only [actsD, List.getD_cons_zero, List.getD_cons_succ, List.foldl_cons, List.foldl_nil, Act.put, List.setIfInBounds_toArray, List.set_cons_succ, List.set_cons_zero]
          obtain ⟨_, _, _, h10⟩ := hp 10 (by simp)
          simp only [PSff] at h10
          obtain ⟨_, _, _, h14⟩ := hp 14 (by simp)
          simp only [PSff] at h14
          have hsz := hg.size
          have hgB : Below w3.heap.size w3 w' := hg.below (fun k hk => ⟨hk, fun o => by rintro ⟨j, _, _, _, hw⟩; exact False.elim hw⟩)
          rw [h10, h14]
          go_wp2
          exact ⟨_, rfl, GrowC.refl _, rfl⟩
        | 16, _ =>
          obtain rfl := Option.some.inj ho
          clear ho
          simp only [actsD, List.getD_cons_zero, List.getD_cons_succ, List.foldl_cons, List.foldl_nil, Act.put, List.setIfInBounds_toArray, List.set_cons_succ, List.set_cons_zero]
          obtain ⟨_, _, _, h15⟩ := hp 15 (by simp)
          simp only [PSff] at h15
          have hsz := hg.size
          have hgB : Below w3.heap.size w3 w' := hg.below (fun k hk => ⟨hk, fun o => by rintro ⟨j, _, _, _, hw⟩; exact False.elim hw⟩)
          rw [h15]
          go_wp2
          exact ⟨_, rfl, GrowC.refl _, rfl⟩
        | 17, _ =>
          obtain rfl := Option.some.inj ho
          clear ho
          simp only [actsD, List.getD_cons_zero, List.getD_cons_succ, List.foldl_cons, List.foldl_nil, Act.put, List.setIfInBounds_toArray, List.set_cons_succ, List.set_cons_zero]
          obtain ⟨_, _, _, h16⟩ := hp 16 (by simp)
          simp only [PSff] at h16
          have hsz := hg.size
          have hgB : Below w3.heap.size w3 w' := hg.below (fun k hk => ⟨hk, fun o => by rintro ⟨j, _, _, _, hw⟩; exact False.elim hw⟩)
          rw [h16]
          go_wp2_with fail
          refine (awake_any _).mono ?_
          rintro e wz ⟨rfl, hb⟩
          go_wp2
          exact ⟨_, rfl, GrowC.of_grow hb, rfl⟩
        | 18, _ =>
          obtain rfl := Option.some.inj ho
          clear ho
          simp only [actsD, List.getD_cons_zero, List.getD_cons_succ, List.foldl_cons, List.foldl_nil, Act.put, List.setIfInBounds_toArray, List.set_cons_succ, List.set_cons_zero]
          obtain ⟨_, _, _, h16⟩ := hp 16 (by simp)
          simp only [PSff] at h16
          obtain ⟨_, _, _, h17⟩ := hp 17 (by simp)
          simp only [PSff] at h17
          have hsz := hg.size
          have hgB : Below w3.heap.size w3 w' := hg.below (fun k hk => ⟨hk, fun o => by rintro ⟨j, _, _, _, hw⟩; exact False.elim hw⟩)
          rw [h16, h17]
          go_wp2
          exact ⟨_, rfl, GrowC.refl _, rfl⟩
        | 19, _ =>
          obtain rfl := Option.some.inj ho
          clear ho
          simp only [actsD, List.getD_cons_zero, List.getD_cons_succ, List.foldl_cons, List.foldl_nil, Act.put, List.setIfInBounds_toArray, List.set_cons_succ, List.set_cons_zero]
          obtain ⟨_, _, _, h18⟩ := hp 18 (by simp)
          simp only [PSff] at h18
          have hsz := hg.size
          have hgB : Below w3.heap.size w3 w' := hg.below (fun k hk => ⟨hk, fun o => by rintro ⟨j, _, _, _, hw⟩; exact False.elim hw⟩)
          rw [h18]
          go_wp2
          exact ⟨_, rfl, GrowC.refl _, rfl⟩
        | (q + 20), hq => exact absurd hq (by omega)
      intro vS lo hi w4 hg hp hd
      obtain ⟨_, _, _, h0⟩ := hp 0 (by omega)
      obtain ⟨_, _, _, h1⟩ := hp 1 (by omega)
      obtain ⟨_, _, _, h2⟩ := hp 2 (by omega)
      obtain ⟨_, _, _, h3⟩ := hp 3 (by omega)
      obtain ⟨_, _, _, h4⟩ := hp 4 (by omega)
      obtain ⟨_, _, _, h5⟩ := hp 5 (by omega)
      obtain ⟨_, _, _, h6⟩ := hp 6 (by omega)
      obtain ⟨_, _, _, h7⟩ := hp 7 (by omega)
      obtain ⟨_, _, _, h8⟩ := hp 8 (by omega)
      obtain ⟨_, _, _, h9⟩ := hp 9 (by omega)
      obtain ⟨_, _, _, h10⟩ := hp 10 (by omega)
      obtain ⟨_, _, _, h11⟩ := hp 11 (by omega)
      obtain ⟨_, _, _, h12⟩ := hp 12 (by omega)
      obtain ⟨_, _, _, h13⟩ := hp 13 (by omega)
      obtain ⟨_, _, _, h14⟩ := hp 14 (by omega)
      obtain ⟨_, _, _, h15⟩ := hp 15 (by omega)
      obtain ⟨_, _, _, h16⟩ := hp 16 (by omega)
      obtain ⟨_, _, _, h17⟩ := hp 17 (by omega)
      obtain ⟨_, _, _, h18⟩ := hp 18 (by omega)
      obtain ⟨_, _, _, h19⟩ := hp 19 (by omega)
      simp only [PSff] at h0 h1 h2 h3 h4 h5 h6 h7 h8 h9 h10 h11 h12 h13 h14 h15 h16 h17 h18 h19
      clear hp hd
      have hsz := hg.size
      replace ba := ba.grow hg (by intro i _; rintro ⟨j, _, hw⟩; exact False.elim hw)
      replace bc := bc.grow hg (by intro i _; rintro ⟨j, _, hw⟩; exact False.elim hw)
      replace bd := bd.grow hg (by intro i _; rintro ⟨j, _, hw⟩; exact False.elim hw)
      replace hB := hB.trans (hg.below (fun k hk => ⟨by omega, fun o => by rintro ⟨j, _, hw⟩; exact False.elim hw⟩))
      have hr : List.range 20 = [0, 1, 2, 3, 4, 5, 6, 7, 8, 9, 10, 11, 12, 13, 14, 15, 16, 17, 18, 19] := rfl
      rw [hr]
      clear hr
      simp only [List.drop_succ_cons, List.drop_zero, List.drop_nil, actsD, List.getD_cons_zero, List.getD_cons_succ, List.foldl_cons, List.foldl_nil, Act.put, List.setIfInBounds_toArray, List.set_cons_succ, List.set_cons_zero, h0, h2, h4, h5, h6, h7, h8, h9, h10, h11, h13, h14, h15, h16, h17, h18, h19]
      clear h0 h2 h4 h5 h6 h7 h8 h9 h10 h11 h13 h14 h15 h16 h17 h18 h19
      go_wp2
      go_ret
      exact ⟨rfl, hB⟩
    · have dl : decide ((nk : Int) < 2) = false := by simp; omega
      have ca0 := ba.cell 0 _ rfl
      have ca1 := ba.cell 1 _ rfl
      have ca2 := ba.cell 2 _ rfl
      have ca3 := ba.cell 3 _ rfl
      have ca4 := ba.cell 4 _ rfl
      have fa := ba.free
      go_wp2_with fail
      clear ca0 ca1 ca2 ca3 ca4 fa
      refine (split_small x _ _ _ _ HX.out hsm HF.out.fits (by rw [HNK.out]; omega) false n HLF.out HN.out).mono ?_
      rintro e w2 ⟨i1, i2, i3, i4, i5, i6, i7, i8, i9, j1, j2, j3, j4, j5, j6, j7, j8, j9, s1, s2, s3, rfl, h1, h2, hs, hi2, hj2, hb2⟩
      replace ba := ba.below hb2 (Nat.le_refl _)
      replace hB := hB.trans (hb2.mono (by omega))
      have hx2 := HX.out.below hb2 (Nat.le_refl _)
      clear HX
      replace hs0 := Nat.le_trans hs0 hb2.size
      clear hb2
      obtain ⟨g3, hg3⟩ : ∃ g3, w2.heap.size = g3 := ⟨_, rfl⟩
      have hgg : g < g3 := by omega
      have b1 := (Box.new w2 #[.bool false, .slice i1 i2 i3, .slice i4 i5 i6, .slice i7 i8 i9, .int .i64 0] 25 hg3.symm).alloc (.cells #[.bool false, .slice j1 j2 j3, .slice j4 j5 j6, .slice j7 j8 j9, .int .i64 n] 25)
      have b2 := Box.new (w2.alloc (.cells #[.bool false, .slice i1 i2 i3, .slice i4 i5 i6, .slice i7 i8 i9, .int .i64 0] 25)) #[.bool false, .slice j1 j2 j3, .slice j4 j5 j6, .slice j7 j8 j9, .int .i64 n] 25 (g := g3 + 1) (by simp; omega)
      have hgr := ((Below.refl w2.heap.size w2).alloc (Nat.le_refl _) (.cells #[.bool false, .slice i1 i2 i3, .slice i4 i5 i6, .slice i7 i8 i9, .int .i64 0] 25)).alloc (by simp) (.cells #[.bool false, .slice j1 j2 j3, .slice j4 j5 j6, .slice j7 j8 j9, .int .i64 n] 25)
      have HG3 := Lib.hid hg3
      have hlt0 := ba.lt
      have HW := Lib.hid (⟨ba.below hgr (Nat.le_refl _), b1, b2, hB.trans (hgr.mono (by omega)), hx2.below hgr (Nat.le_refl _), h1.below hgr (Nat.le_refl _), h2.below hgr (Nat.le_refl _), hs.below hgr (Nat.le_refl _), by simp; omega⟩ : _ ∧ _ ∧ _ ∧ _ ∧ _ ∧ _ ∧ _ ∧ _ ∧ g3 + 2 ≤ ((w2.alloc (.cells #[.bool false, .slice i1 i2 i3, .slice i4 i5 i6, .slice i7 i8 i9, .int .i64 0] 25)).alloc (.cells #[.bool false, .slice j1 j2 j3, .slice j4 j5 j6, .slice j7 j8 j9, .int .i64 n] 25)).heap.size)
      rw [cutL_keys, List.length_take, HNK.out] at hi2
      rw [cutR_keys, HLF.out] at hj2
      simp only [if_true, Bool.false_eq_true, if_false, List.length_drop, HNK.out] at hj2
      have hi2' : i2 = nk / 2 := by omega
      have hj2' : j2 = nk - (nk / 2 + 1) := hj2
      have HI2 := Lib.hid hi2'
      have HJ2 := Lib.hid hj2'
      have HHL := Lib.hid (show x.keys.length / 2 < x.keys.length by rw [HNK.out]; omega)
      clear b1 b2 hgr hg3 hx2 h1 h2 hs hB hi2 hj2 hi2' hj2'
      have ca0 := ba.cell 0 _ rfl
      have ca1 := ba.cell 1 _ rfl
      have ca2 := ba.cell 2 _ rfl
      have ca3 := ba.cell 3 _ rfl
      have ca4 := ba.cell 4 _ rfl
      have fa := ba.free
      go_wp2_with fail
      clear ca0 ca1 ca2 ca3 ca4 fa
      rw [HG3.out]
      refine wp_world (fun u => Box u g [.bool false, .slice ka nk kc, .slice va nv vc, .slice da nd dc, .int .i64 n] ∧ Box u g3 [.bool false, .slice i1 i2 i3, .slice i4 i5 i6, .slice i7 i8 i9, .int .i64 0] ∧ Box u (g3 + 1) [.bool false, .slice j1 j2 j3, .slice j4 j5 j6, .slice j7 j8 j9, .int .i64 n] ∧ Below w.heap.size w u ∧ NodeAt u (.slice ka nk kc) (.slice va nv vc) (.slice da nd dc) x ∧ NodeAt u (.slice i1 i2 i3) (.slice i4 i5 i6) (.slice i7 i8 i9) (x.cutL (x.keys.length / 2)) ∧ NodeAt u (.slice j1 j2 j3) (.slice j4 j5 j6) (.slice j7 j8 j9) (x.cutR (x.keys.length / 2)) ∧ Reads 1 u (.slice s1 s2 s3) (x.keys.getD (x.keys.length / 2) []).length ((x.keys.getD (x.keys.length / 2) []).map B) ∧ g3 + 2 ≤ u.heap.size) HW.out ?_
      clear HW ba hlt0
      rintro w3 ⟨ba, bc, bd, hB, hx3, h1, h2, hs, hs3⟩
      have hkl : nk / 2 < x.keys.length := by rw [HNK.out]; omega
      obtain ⟨b1, p1, q1, a0, c0, e1, hd1, hb1, hrs⟩ := hx3.keys.at' (nk / 2) _ (List.getElem?_eq_getElem hkl)
      have hgd : x.keys.getD (x.keys.length / 2) [] = x.keys[nk / 2] := by simp only [HNK.out]; rw [List.getD_eq_getElem?_getD, List.getElem?_eq_getElem hkl]; rfl
      have hka := (Value.slice.inj e1).1
      have hll := hsm.keys2 _ (List.getElem_mem hkl)
      rw [← hgd] at hd1 hrs hll
      have HX := Lib.hid hx3
      have H1 := Lib.hid h1
      have H2 := Lib.hid h2
      have HS := Lib.hid hs
      have HKB := Lib.hid (Nat.le_trans hll (show 1048576 ≤ 1099511627776 by decide))
      have HKA := Lib.hid hka
      have cv1 := fun m : Nat => run_str_reads (P := Try.prog) (src := 28) (dst := 9) Try.underlying28 Try.underlying5 Try.underlying9 _ (hs.below (below_dn (Below.refl w3.heap.size w3) m) (Nat.le_refl _))
      have cv2 := fun m : Nat => run_str_reads (P := Try.prog) (src := 28) (dst := 9) Try.underlying28 Try.underlying5 Try.underlying9 _ (hrs.below (below_dn (Below.refl w3.heap.size w3) m) (Nat.le_refl _))
      clear hx3 h1 h2 hs e1 hka hll hgd hkl hrs
      have ca0 := ba.cell 0 _ rfl
      have ca1 := ba.cell 1 _ rfl
      have ca2 := ba.cell 2 _ rfl
      have ca3 := ba.cell 3 _ rfl
      have ca4 := ba.cell 4 _ rfl
      have fa := ba.free
      have cc0 := bc.cell 0 _ rfl
      have cc1 := bc.cell 1 _ rfl
      have cc2 := bc.cell 2 _ rfl
      have cc3 := bc.cell 3 _ rfl
      have cc4 := bc.cell 4 _ rfl
      have fc := bc.free
      have cd0 := bd.cell 0 _ rfl
      have cd1 := bd.cell 1 _ rfl
      have cd2 := bd.cell 2 _ rfl
      have cd3 := bd.cell 3 _ rfl
      have cd4 := bd.cell 4 _ rfl
      have fd := bd.free
      rw [HKA.out] at ca1
      obtain ⟨lk, hlk⟩ : ∃ lk, x.keys.getD (x.keys.length / 2) [] = lk := ⟨_, rfl⟩
      simp only [hlk] at cv1 cv2 hd1
      have HLK := Lib.hid hlk
      obtain ⟨lkn, hlkn⟩ : ∃ lkn, lk.length = lkn := ⟨_, rfl⟩
      simp only [hlkn] at cv2 hd1
      clear hlk hlkn
      have e1 : ((i2 : Int) != (nk : Int) / 2) = false := by have := HI2.out; simp [bne]; omega
      have e2 : ((j2 : Int) != (nk : Int) - (nk : Int) / 2 - 1) = false := by have := HJ2.out; simp [bne]; omega
      have q0 : 0 ≤ (nk : Int) / 2 := by omega
      have q1 : ((nk : Int) / 2).toNat = nk / 2 := by omega
      have q2 : (nk : Int) / 2 < (nk : Int) := by omega
      go_quiet (fail)
      have hq := below_dn (Below.refl w3.heap.size w3) nq
      replace ba := ba.below hq (Nat.le_refl _)
      replace bc := bc.below hq (Nat.le_refl _)
      replace bd := bd.below hq (Nat.le_refl _)
      replace hB := hB.trans (hq.mono (by omega))
      have HX4 := Lib.hid (HX.out.below hq (Nat.le_refl _))
      have H14 := Lib.hid (H1.out.below hq (Nat.le_refl _))
      have H24 := Lib.hid (H2.out.below hq (Nat.le_refl _))
      have HS4 := Lib.hid (HS.out.below hq (Nat.le_refl _))
      replace hs3 := Nat.le_trans hs3 hq.size
      clear HX H1 H2 HS hq cv1 cv2 hd1 e1 e2 q0 q1 q2
      clear ca0 ca1 ca2 ca3 ca4 fa
      clear cc0 cc1 cc2 cc3 cc4 fc
      clear cd0 cd1 cd2 cd3 cd4 fd
      obtain ⟨w4, hw4⟩ : ∃ w4, w3.drewN nq = w4 := ⟨_, rfl⟩
      rw [hw4] at ba bc bd hB HX4 H14 H24 HS4 hs3 ⊢
      clear hw4
      have HX := HX4
      have H1 := H14
      have H2 := H24
      have HS := HS4
      go_wp2_with fail
      refine wp_region_partsDC (WSmf w4 g g3 nk kc nv vc nd dc i2 i3 i5 i6 i8 i9 j2 j3 j5 j6 j8 j9 s2 s3 n ka va da i1 i4 i7 j1 j4 j7 s1 x) 12 [[], [], [], [0, 1, 2], [0, 1, 2, 3], [], [0, 1, 2, 3, 4, 5], [0, 1, 2, 3, 4, 5, 6], [0, 1, 2, 3, 4, 5, 6, 7], [0, 1, 2, 3, 4, 5, 6, 7, 8], [0, 1, 2, 3, 4, 5, 6, 7, 8, 9], [0, 1, 2, 3, 4, 5, 6, 7, 8, 9, 10]] [some 104, some 105, some 106, some 107, some 108, some 109, some 110, some 111, some 112, some 113, some 114, some 2] (by kernel_rfl) (by kernel_rfl) rfl (PSmf w4 g g3 nk kc nv vc nd dc i2 i3 i5 i6 i8 i9 j2 j3 j5 j6 j8 j9 s2 s3 n ka va da i1 i4 i7 j1 j4 j7 s1 x) (PSmf_stable w4 g g3 nk kc nv vc nd dc i2 i3 i5 i6 i8 i9 j2 j3 j5 j6 j8 j9 s2 s3 n ka va da i1 i4 i7 j1 j4 j7 s1 x ) ?pSmf ?_
      case pSmf =>
        intro i hi o ho vs lo hx_ w' hg hp
        match i, hi with
        | 0, _ =>
          obtain rfl := Option.some.inj ho
          clear ho
          simp only [actsD, List.getD_cons_zero, List.getD_cons_succ, List.foldl_cons, List.foldl_nil, Act.put, List.setIfInBounds_toArray, List.set_cons_succ, List.set_cons_zero]
          have hsz := hg.size
          have hgB : Below w4.heap.size w4 w' := hg.below (fun k hk => ⟨hk, fun o => by rintro ⟨j, _, _, _, hw⟩; exact False.elim hw⟩)
          have e0 := (hg.cell (g3) 0 bc.lt (by rintro ⟨j, _, hne, hb, hw⟩; exact False.elim hw)).trans (bc.cell 0 _ rfl)
          have e1 := (hg.cell (g3) 1 bc.lt (by rintro ⟨j, _, hne, hb, hw⟩; exact False.elim hw)).trans (bc.cell 1 _ rfl)
          have e2 := (hg.cell (g3) 2 bc.lt (by rintro ⟨j, _, hne, hb, hw⟩; exact False.elim hw)).trans (bc.cell 2 _ rfl)
          have e3 := (hg.cell (g3) 3 bc.lt (by rintro ⟨j, _, hne, hb, hw⟩; exact False.elim hw)).trans (bc.cell 3 _ rfl)
          have e4 := (hg.cell (g3) 4 bc.lt (by rintro ⟨j, _, hne, hb, hw⟩; exact False.elim hw)).trans (bc.cell 4 _ rfl)
          go_wp2
          exact ⟨_, rfl, GrowC.refl _, rfl⟩
        | 1, _ =>
          obtain rfl := Option.some.inj ho
          clear ho
          simp only [actsD, List.getD_cons_zero, List.getD_cons_succ, List.foldl_cons, List.foldl_nil, Act.put, List.setIfInBounds_toArray, List.set_cons_succ, List.set_cons_zero]
          have hsz := hg.size
          have hgB : Below w4.heap.size w4 w' := hg.below (fun k hk => ⟨hk, fun o => by rintro ⟨j, _, _, _, hw⟩; exact False.elim hw⟩)
          go_wp2
          exact ⟨_, rfl, GrowC.refl _, rfl⟩
        | 2, _ =>
          obtain rfl := Option.some.inj ho
          clear ho
          simp only [actsD, List.getD_cons_zero, List.getD_cons_succ, List.foldl_cons, List.foldl_nil, Act.put, List.setIfInBounds_toArray, List.set_cons_succ, List.set_cons_zero]
          have hsz := hg.size
          have hgB : Below w4.heap.size w4 w' := hg.below (fun k hk => ⟨hk, fun o => by rintro ⟨j, _, _, _, hw⟩; exact False.elim hw⟩)
          have e0 := (hg.cell (g3 + 1) 0 bd.lt (by rintro ⟨j, _, hne, hb, hw⟩; exact False.elim hw)).trans (bd.cell 0 _ rfl)
          have e1 := (hg.cell (g3 + 1) 1 bd.lt (by rintro ⟨j, _, hne, hb, hw⟩; exact False.elim hw)).trans (bd.cell 1 _ rfl)
          have e2 := (hg.cell (g3 + 1) 2 bd.lt (by rintro ⟨j, _, hne, hb, hw⟩; exact False.elim hw)).trans (bd.cell 2 _ rfl)
          have e3 := (hg.cell (g3 + 1) 3 bd.lt (by rintro ⟨j, _, hne, hb, hw⟩; exact False.elim hw)).trans (bd.cell 3 _ rfl)
          have e4 := (hg.cell (g3 + 1) 4 bd.lt (by rintro ⟨j, _, hne, hb, hw⟩; exact False.elim hw)).trans (bd.cell 4 _ rfl)
          go_wp2
          exact ⟨_, rfl, GrowC.refl _, rfl⟩
        | 3, _ =>
          obtain rfl := Option.some.inj ho
          clear ho
          simp only [actsD, List.getD_cons_zero, List.getD_cons_succ, List.foldl_cons, List.foldl_nil, Act.put, List.setIfInBounds_toArray, List.set_cons_succ, List.set_cons_zero]
          obtain ⟨_, _, _, h0⟩ := hp 0 (by simp)
          simp only [PSmf] at h0
          obtain ⟨_, _, _, h1⟩ := hp 1 (by simp)
          simp only [PSmf] at h1
          obtain ⟨_, _, _, h2⟩ := hp 2 (by simp)
          simp only [PSmf] at h2
          have hsz := hg.size
          have hgB : Below w4.heap.size w4 w' := hg.below (fun k hk => ⟨hk, fun o => by rintro ⟨j, _, _, _, hw⟩; exact False.elim hw⟩)
          rw [h0, h1, h2]
          go_wp2_with fail
          refine (merge_any (x.cutL (x.keys.length / 2)) (x.cutR (x.keys.length / 2)) _ _ _ _ _ _ _ _ (H1.out.below hgB (Nat.le_refl _)) (hsm.cutL _).ok (H2.out.below hgB (Nat.le_refl _)) (hsm.cutR _).ok (cutL_fits HF.out.fits HHL.out) (cutR_fits HF.out.fits HHL.out) (by rw [cutL_leaf, cutR_leaf]) _ (HS.out.below hgB (Nat.le_refl _)) HKB.out false 0 n (by rw [cutL_leaf, HLF.out]) (cutL_next _ _) (by rw [cutR_next, HN.out])).mono ?_
          rintro e wz ⟨m1, m2, m3, rfl, hkp, hb⟩
          rw [cut_merge HF.out.fits HHL.out] at hkp ⊢
          simp only [nodeV, HLF.out, HN.out]
          go_wp2
          exact ⟨_, rfl, GrowC.of_grow hb, _, _, _, rfl, hkp.now⟩
        | 4, _ =>
          obtain rfl := Option.some.inj ho
          clear ho
          simp only [actsD, List.getD_cons_zero, List.getD_cons_succ, List.foldl_cons, List.foldl_nil, Act.put, List.setIfInBounds_toArray, List.set_cons_succ, List.set_cons_zero]
          obtain ⟨_, _, _, h3⟩ := hp 3 (by simp)
          simp only [PSmf] at h3
          have hsz := hg.size
          have hgB : Below w4.heap.size w4 w' := hg.below (fun k hk => ⟨hk, fun o => by rintro ⟨j, _, _, _, hw⟩; exact False.elim hw⟩)
          obtain ⟨m1, m2, m3, h3, hm1⟩ := h3
          rw [h3]
          go_wp2_with fail
          refine (to_small _ _ _ _ _ hm1 hsm false n HLF.out HN.out).mono ?_
          rintro e wz ⟨r1, r2, rfl, hr, hb⟩
          go_wp2
          exact ⟨_, rfl, GrowC.of_grow hb, r1, r2, _, rfl, hr⟩
        | 5, _ =>
          obtain rfl := Option.some.inj ho
          clear ho
          simp only [actsD, List.getD_cons_zero, List.getD_cons_succ, List.foldl_cons, List.foldl_nil, Act.put, List.setIfInBounds_toArray, List.set_cons_succ, List.set_cons_zero]
          have hsz := hg.size
          have hgB : Below w4.heap.size w4 w' := hg.below (fun k hk => ⟨hk, fun o => by rintro ⟨j, _, _, _, hw⟩; exact False.elim hw⟩)
          have e0 := (hg.cell (g) 0 ba.lt (by rintro ⟨j, _, hne, hb, hw⟩; exact False.elim hw)).trans (ba.cell 0 _ rfl)
          have e1 := (hg.cell (g) 1 ba.lt (by rintro ⟨j, _, hne, hb, hw⟩; exact False.elim hw)).trans (ba.cell 1 _ rfl)
          have e2 := (hg.cell (g) 2 ba.lt (by rintro ⟨j, _, hne, hb, hw⟩; exact False.elim hw)).trans (ba.cell 2 _ rfl)
          have e3 := (hg.cell (g) 3 ba.lt (by rintro ⟨j, _, hne, hb, hw⟩; exact False.elim hw)).trans (ba.cell 3 _ rfl)
          have e4 := (hg.cell (g) 4 ba.lt (by rintro ⟨j, _, hne, hb, hw⟩; exact False.elim hw)).trans (ba.cell 4 _ rfl)
          go_wp2
          exact ⟨_, rfl, GrowC.refl _, rfl⟩
        | 6, _ =>
          obtain rfl := Option.some.inj ho
          clear ho
          simp only [actsD, List.getD_cons_zero, List.getD_cons_succ, List.foldl_cons, List.foldl_nil, Act.put, List.setIfInBounds_toArray, List.set_cons_succ, List.set_cons_zero]
          obtain ⟨_, _, _, h5⟩ := hp 5 (by simp)
          simp only [PSmf] at h5
          have hsz := hg.size
          have hgB : Below w4.heap.size w4 w' := hg.below (fun k hk => ⟨hk, fun o => by rintro ⟨j, _, _, _, hw⟩; exact False.elim hw⟩)
          rw [h5]
          go_wp2_with fail
          refine (to_small _ _ _ _ _ (HX.out.below hgB (Nat.le_refl _)) hsm false n HLF.out HN.out).mono ?_
          rintro e wz ⟨r1, r2, rfl, hr, hb⟩
          go_wp2
          exact ⟨_, rfl, GrowC.of_grow hb, r1, r2, rfl, hr⟩
        | 7, _ =>
          obtain rfl := Option.some.inj ho
          clear ho
          simp only [actsD, List.getD_cons_zero, List.getD_cons_succ, List.foldl_cons, List.foldl_nil, Act.put, List.setIfInBounds_toArray, List.set_cons_succ, List.set_cons_zero]
          obtain ⟨_, _, _, h4⟩ := hp 4 (by simp)
          simp only [PSmf] at h4
          obtain ⟨_, _, _, h6⟩ := hp 6 (by simp)
          simp only [PSmf] at h6
          have hsz := hg.size
          have hgB : Below w4.heap.size w4 w' := hg.below (fun k hk => ⟨hk, fun o => by rintro ⟨j, _, _, _, hw⟩; exact False.elim hw⟩)
          obtain ⟨r1, r2, r3, h4, hr1⟩ := h4
          obtain ⟨q1, q2, h6, hq1⟩ := h6
          rw [h4, h6]
          go_wp2_with fail
          refine (same_small _ hsm _ _ _ _ _ _ _ hr1 hq1 _ _).mono ?_
          rintro e wz ⟨rfl, hb⟩
          go_wp2
          exact ⟨_, rfl, GrowC.of_grow hb, rfl⟩
        | 8, _ =>
          obtain rfl := Option.some.inj ho
          clear ho
          simp only [actsD, List.getD_cons_zero, List.getD_cons_succ, List.foldl_cons, List.foldl_nil, Act.put, List.setIfInBounds_toArray, List.set_cons_succ, List.set_cons_zero]
          obtain ⟨_, _, _, h7⟩ := hp 7 (by simp)
          simp only [PSmf] at h7
          have hsz := hg.size
          have hgB : Below w4.heap.size w4 w' := hg.below (fun k hk => ⟨hk, fun o => by rintro ⟨j, _, _, _, hw⟩; exact False.elim hw⟩)
          rw [h7]
          go_wp2
          exact ⟨_, rfl, GrowC.refl _, rfl⟩
        | 9, _ =>
          obtain rfl := Option.some.inj ho
          clear ho
          simp only [actsD, List.getD_cons_zero, List.getD_cons_succ, List.foldl_cons, List.foldl_nil, Act.put, List.setIfInBounds_toArray, List.set_cons_succ, List.set_cons_zero]
          obtain ⟨_, _, _, h8⟩ := hp 8 (by simp)
          simp only [PSmf] at h8
          have hsz := hg.size
          have hgB : Below w4.heap.size w4 w' := hg.below (fun k hk => ⟨hk, fun o => by rintro ⟨j, _, _, _, hw⟩; exact False.elim hw⟩)
          rw [h8]
          go_wp2_with fail
          refine (awake_any _).mono ?_
          rintro e wz ⟨rfl, hb⟩
          go_wp2
          exact ⟨_, rfl, GrowC.of_grow hb, rfl⟩
        | 10, _ =>
          obtain rfl := Option.some.inj ho
          clear ho
          simp only [actsD, List.getD_cons_zero, List.getD_cons_succ, List.foldl_cons, List.foldl_nil, Act.put, List.setIfInBounds_toArray, List.set_cons_succ, List.set_cons_zero]
          obtain ⟨_, _, _, h8⟩ := hp 8 (by simp)
          simp only [PSmf] at h8
          obtain ⟨_, _, _, h9⟩ := hp 9 (by simp)
          simp only [PSmf] at h9
          have hsz := hg.size
          have hgB : Below w4.heap.size w4 w' := hg.below (fun k hk => ⟨hk, fun o => by rintro ⟨j, _, _, _, hw⟩; exact False.elim hw⟩)
          rw [h8, h9]
          go_wp2
          exact ⟨_, rfl, GrowC.refl _, rfl⟩
        | 11, _ =>
          obtain rfl := Option.some.inj ho
          clear ho
          simp only [actsD, List.getD_cons_zero, List.getD_cons_succ, List.foldl_cons, List.foldl_nil, Act.put, List.setIfInBounds_toArray, List.set_cons_succ, List.set_cons_zero]
          obtain ⟨_, _, _, h10⟩ := hp 10 (by simp)
          simp only [PSmf] at h10
          have hsz := hg.size
          have hgB : Below w4.heap.size w4 w' := hg.below (fun k hk => ⟨hk, fun o => by rintro ⟨j, _, _, _, hw⟩; exact False.elim hw⟩)
          rw [h10]
          go_wp2
          exact ⟨_, rfl, GrowC.refl _, rfl⟩
        | (q + 12), hq => exact absurd hq (by omega)
      intro vS lo hi w5 hg hp hd
      obtain ⟨_, _, _, h0⟩ := hp 0 (by omega)
      obtain ⟨_, _, _, h1⟩ := hp 1 (by omega)
      obtain ⟨_, _, _, h2⟩ := hp 2 (by omega)
      obtain ⟨_, _, _, h3⟩ := hp 3 (by omega)
      obtain ⟨_, _, _, h4⟩ := hp 4 (by omega)
      obtain ⟨_, _, _, h5⟩ := hp 5 (by omega)
      obtain ⟨_, _, _, h6⟩ := hp 6 (by omega)
      obtain ⟨_, _, _, h7⟩ := hp 7 (by omega)
      obtain ⟨_, _, _, h8⟩ := hp 8 (by omega)
      obtain ⟨_, _, _, h9⟩ := hp 9 (by omega)
      obtain ⟨_, _, _, h10⟩ := hp 10 (by omega)
      obtain ⟨_, _, _, h11⟩ := hp 11 (by omega)
      simp only [PSmf] at h0 h1 h2 h3 h4 h5 h6 h7 h8 h9 h10 h11
      clear hp hd
      have hsz := hg.size
      replace ba := ba.grow hg (by intro i _; rintro ⟨j, _, hw⟩; exact False.elim hw)
      replace bc := bc.grow hg (by intro i _; rintro ⟨j, _, hw⟩; exact False.elim hw)
      replace bd := bd.grow hg (by intro i _; rintro ⟨j, _, hw⟩; exact False.elim hw)
      replace hB := hB.trans (hg.below (fun k hk => ⟨by omega, fun o => by rintro ⟨j, _, hw⟩; exact False.elim hw⟩))
      have hr : List.range 12 = [0, 1, 2, 3, 4, 5, 6, 7, 8, 9, 10, 11] := rfl
      rw [hr]
      clear hr
      simp only [List.drop_succ_cons, List.drop_zero, List.drop_nil, actsD, List.getD_cons_zero, List.getD_cons_succ, List.foldl_cons, List.foldl_nil, Act.put, List.setIfInBounds_toArray, List.set_cons_succ, List.set_cons_zero, h0, h1, h2, h5, h7, h8, h9, h10, h11]
      clear h0 h1 h2 h5 h7 h8 h9 h10 h11
      go_wp2
      go_ret
      exact ⟨rfl, hB⟩
  · obtain rfl : r = false := by cases r with | false => rfl | true => exact absurd (hr.1 rfl) hf
    clear hr hf
    go_wp2_with fail
    refine (awake_any _).mono ?_
    rintro e w2 ⟨rfl, hb2⟩
    have hBB := hB.trans (hb2.mono (by omega))
    clear hB hb2
    go_wp2
    go_ret
    exact ⟨rfl, hBB⟩

theorem splits_any (x : Nd) (hsm : x.small) (ks vs ds : Value) (w : World) (hx : NodeAt w ks vs ds x) :
    Calls Try.prog 4 #[.agg #[.bool x.leaf, ks, vs, ds, .int .i64 x.next]] w fun e w' => e = .returned (.bool true) ∧ Below w.heap.size w w' := by
  cases h : x.leaf with
  | true => exact splits_true x h hsm ks vs ds w hx x.next rfl
  | false => exact splits_false x h hsm ks vs ds w hx x.next rfl

end Go.Proofs.Ytfbblgcdggpehaa

/- What node.copied and node.fits answer. Conditions: short lists. -/
import Derived.Test.YtfbblgcdggpehaaNCopy
import Derived.WalkLawsBesides
namespace Go.Proofs.Ytfbblgcdggpehaa
set_option linter.unusedSimpArgs false
set_option linter.unusedVariables false
open Go.RowKit

/-- a node -/
structure Nd where
  leaf : Bool
  keys : List (List UInt8)
  vals : List (List UInt8)
  kids : List Int
  next : Int

def I (n : Int) : Value := .int .i64 n
theorem Is_one (l : List Int) : ∀ u ∈ l.map I, u.oneCell' = true := by
  intro u hu; obtain ⟨c, _, rfl⟩ := List.mem_map.1 hu; rfl

/-- short enough -/
structure Nd.ok (x : Nd) : Prop where
  keys : x.keys.length ≤ 1099511627776
  vals : x.vals.length ≤ 1099511627776
  kids : x.kids.length ≤ 1099511627776
  keys2 : ∀ l ∈ x.keys, l.length ≤ 1099511627776
  vals2 : ∀ l ∈ x.vals, l.length ≤ 1099511627776

/-- the three lists of a node -/
structure NodeAt (w : World) (ks vs ds : Value) (x : Nd) : Prop where
  keys : Texts w ks x.keys
  vals : Texts w vs x.vals
  kids : Reads 1 w ds x.kids.length (x.kids.map I)

theorem NodeAt.below {w w' : World} {ks vs ds : Value} {x : Nd} {B0 : Nat} (h : NodeAt w ks vs ds x) (hb : Below B0 w w') (hB : w.heap.size ≤ B0) : NodeAt w' ks vs ds x :=
  ⟨h.keys.below hb hB, h.vals.below hb hB, h.kids.below hb hB⟩

def nodeV (x : Nd) (ks vs ds : Value) : Value := .agg #[.bool x.leaf, ks, vs, ds, .int .i64 x.next]

/-- what copied leaves -/
def CopPost (W : World) (g : Nat) (ks vs ds : Value) (x : Nd) (i : Nat) (v : Value) (lo hi : Nat) (w : World) : Prop :=
  match i with
  | 0 => v = .pointer (some ⟨g, 1, none⟩)
  | 1 => v = ks
  | 2 => ∃ ao, v = .slice ao x.keys.length x.keys.length ∧ Kept (fun k => k < W.heap.size) w (fun w2 => Texts w2 (.slice ao x.keys.length x.keys.length) x.keys)
  | 3 => v = .pointer (some ⟨g, 2, none⟩)
  | 4 => v = vs
  | 5 => ∃ ao, v = .slice ao x.vals.length x.vals.length ∧ Kept (fun k => k < W.heap.size) w (fun w2 => Texts w2 (.slice ao x.vals.length x.vals.length) x.vals)
  | 6 => v = .pointer (some ⟨g, 3, none⟩)
  | 7 => v = ds
  | 8 => ∃ ao cap, v = .slice ao x.kids.length cap ∧ x.kids.length ≤ cap ∧ Kept (fun k => k < W.heap.size) w (fun w2 => Reads 1 w2 (.slice ao x.kids.length cap) x.kids.length (x.kids.map I))
  | 9 => ∃ ao, v = .slice ao x.kids.length x.kids.length ∧ Kept (fun k => k < W.heap.size) w (fun w2 => Reads 1 w2 (.slice ao x.kids.length x.kids.length) x.kids.length (x.kids.map I))
  | _ => v = .pointer (some ⟨g, 1, none⟩)

theorem CopPost_stable (W : World) (g : Nat) (ks vs ds : Value) (x : Nd) : ∀ i v lo hi w w', CopPost W g ks vs ds x i v lo hi w → Grow w w' → CopPost W g ks vs ds x i v lo hi w' := by
  intro i v lo hi w w' h hg
  unfold CopPost at *
  split at h <;> first | exact h | skip
  · obtain ⟨ao, h1, h2⟩ := h; exact ⟨ao, h1, h2.grow (GrowX.of_grow hg)⟩
  · obtain ⟨ao, h1, h2⟩ := h; exact ⟨ao, h1, h2.grow (GrowX.of_grow hg)⟩
  · obtain ⟨ao, c, h1, h2, h3⟩ := h; exact ⟨ao, c, h1, h2, h3.grow (GrowX.of_grow hg)⟩
  · obtain ⟨ao, h1, h2⟩ := h; exact ⟨ao, h1, h2.grow (GrowX.of_grow hg)⟩

/-- the answer of copied: the same lists, new, with no spare room -/
def CopyEnd (x : Nd) (w : World) (e : Ending) (w' : World) : Prop :=
  ∃ ak av ad, e = .returned (nodeV x (.slice ak x.keys.length x.keys.length) (.slice av x.vals.length x.vals.length) (.slice ad x.kids.length x.kids.length)) ∧
    Kept (fun k => k < w.heap.size) w' (fun w2 => NodeAt w2 (.slice ak x.keys.length x.keys.length) (.slice av x.vals.length x.vals.length) (.slice ad x.kids.length x.kids.length) x) ∧ Below w.heap.size w w'

theorem GrowX.setCell {X : Nat → Prop} {a w : World} {b i : Nat} (h : GrowX X a w) (hx : X b) (v : Value) : GrowX X a (w.setCell ⟨b, i, none⟩ v) :=
  ⟨h.os, h.tape, h.output, by have := h.size; simpa [World.setCell] using this, fun k hk hn => (Below.heap_setCell _ _ _ _ (fun e => hn (by subst e; exact hx))).trans (h.block k hk hn)⟩

set_option maxRecDepth 100000 in
set_option maxHeartbeats 3200000 in
theorem copied_any (x : Nd) (ks vs ds : Value) (w : World) (hx : NodeAt w ks vs ds x) (hok : x.ok) :
    Calls Try.prog 27 #[.agg #[.bool x.leaf, ks, vs, ds, .int .i64 x.next]] w fun e w' => CopyEnd x w e w' := by
  have hW0 : ∃ W0 : World, W0 = (w.alloc (.cells #[.bool x.leaf, ks, vs, ds, .int .i64 x.next] 25)).alloc (.cells #[.bool false, .slice none 0 0, .slice none 0 0, .slice none 0 0, .int .i64 0] 25) := ⟨_, rfl⟩
  have HX := Lib.hid hx
  have h1k : ks.oneCell' = true := by obtain ⟨_, ⟨_, _, rfl, _⟩, _⟩ := hx.keys; rfl
  have h1v : vs.oneCell' = true := by obtain ⟨_, ⟨_, _, rfl, _⟩, _⟩ := hx.vals; rfl
  have h1d : ds.oneCell' = true := by obtain ⟨_, _, rfl, _⟩ := hx.kids; rfl
  clear hx
  go_enter Try.func27, Try.ntmps27
  go_wp2_with fail
  obtain ⟨W0, hW0⟩ := hW0
  have ra : W0.heap[w.heap.size]? = some (.cells #[.bool x.leaf, ks, vs, ds, .int .i64 x.next] 25) := by
    rw [hW0, Below.heap_alloc _ _ _ (by simp)]; exact heap_alloc_new _ _
  have rb : W0.heap[w.heap.size + 1]? = some (.cells #[.bool false, .slice none 0 0, .slice none 0 0, .slice none 0 0, .int .i64 0] 25) := by
    rw [hW0]
    have := heap_alloc_new (w.alloc (.cells #[.bool x.leaf, ks, vs, ds, .int .i64 x.next] 25)) (.cells #[.bool false, .slice none 0 0, .slice none 0 0, .slice none 0 0, .int .i64 0] 25)
    simpa using this
  have hs0 : W0.heap.size = w.heap.size + 2 := by rw [hW0]; simp
  have hB0 : Below w.heap.size w W0 := by rw [hW0]; exact ((Below.refl _ _).alloc (Nat.le_refl _) _).alloc (by simp) _
  rw [← hW0]
  clear hW0
  obtain ⟨g, hg0⟩ : ∃ g, w.heap.size = g := ⟨_, rfl⟩
  rw [hg0] at ra rb hs0 hB0 ⊢
  have HG := Lib.hid hg0
  clear hg0
  refine wp_region_partsD 11 [[], [0], [1], [], [3], [4], [], [6], [7, 5], [8, 5], []] [some 3, some 4, some 5, some 6, some 7, some 8, some 9, some 10, some 11, some 12, some 13, none, some 14, none, some 15, none] (by kernel_rfl) (by kernel_rfl) rfl (CopPost W0 g ks vs ds x) (CopPost_stable _ _ _ _ _ _) ?_ ?_
  · intro i hi o ho vs lo h w' hg hp
    match i, hi with
    | 0, _ =>
      obtain rfl := Option.some.inj ho
      clear ho
      simp only [actsD, List.getD_cons_zero, List.getD_cons_succ, List.foldl_cons, List.foldl_nil, Act.put, List.setIfInBounds_toArray, List.set_cons_succ, List.set_cons_zero]
      go_wp2
      exact ⟨_, rfl, Grow.refl _, rfl⟩
    | 1, _ =>
      obtain rfl := Option.some.inj ho
      clear ho
      simp only [actsD, List.getD_cons_zero, List.getD_cons_succ, List.foldl_cons, List.foldl_nil, Act.put, List.setIfInBounds_toArray, List.set_cons_succ, List.set_cons_zero]
      obtain ⟨_, _, _, h0⟩ := hp 0 (by simp)
      simp only [CopPost, List.getD_cons_zero, List.getD_cons_succ] at h0
      rw [h0]
      have hca := cell_of_row' ((hg.block g (by omega)).trans ra)
      have e1 := hca 1
      have e2 := hca 2
      have e3 := hca 3
      simp at e1 e2 e3
      go_wp2
      exact ⟨_, rfl, Grow.refl _, rfl⟩
    | 2, _ =>
      obtain rfl := Option.some.inj ho
      clear ho
      simp only [actsD, List.getD_cons_zero, List.getD_cons_succ, List.foldl_cons, List.foldl_nil, Act.put, List.setIfInBounds_toArray, List.set_cons_succ, List.set_cons_zero]
      obtain ⟨_, _, _, h1⟩ := hp 1 (by simp)
      simp only [CopPost, List.getD_cons_zero, List.getD_cons_succ] at h1
      rw [h1]
      go_wp2_with fail
      refine (texts_any _ x.keys _ (HX.out.keys.below (hB0.trans (Below.mono hg (by omega))) (Nat.le_of_eq HG.out)) hok.keys hok.keys2).mono ?_
      rintro e wz ⟨ao, rfl, hk, hb⟩
      go_wp2
      exact ⟨_, rfl, hb, ao, rfl, hk.mono (fun b _ h => by have := hg.size; omega)⟩
    | 3, _ =>
      obtain rfl := Option.some.inj ho
      clear ho
      simp only [actsD, List.getD_cons_zero, List.getD_cons_succ, List.foldl_cons, List.foldl_nil, Act.put, List.setIfInBounds_toArray, List.set_cons_succ, List.set_cons_zero]
      go_wp2
      exact ⟨_, rfl, Grow.refl _, rfl⟩
    | 4, _ =>
      obtain rfl := Option.some.inj ho
      clear ho
      simp only [actsD, List.getD_cons_zero, List.getD_cons_succ, List.foldl_cons, List.foldl_nil, Act.put, List.setIfInBounds_toArray, List.set_cons_succ, List.set_cons_zero]
      obtain ⟨_, _, _, h3⟩ := hp 3 (by simp)
      simp only [CopPost, List.getD_cons_zero, List.getD_cons_succ] at h3
      rw [h3]
      have hca := cell_of_row' ((hg.block g (by omega)).trans ra)
      have e1 := hca 1
      have e2 := hca 2
      have e3 := hca 3
      simp at e1 e2 e3
      go_wp2
      exact ⟨_, rfl, Grow.refl _, rfl⟩
    | 5, _ =>
      obtain rfl := Option.some.inj ho
      clear ho
      simp only [actsD, List.getD_cons_zero, List.getD_cons_succ, List.foldl_cons, List.foldl_nil, Act.put, List.setIfInBounds_toArray, List.set_cons_succ, List.set_cons_zero]
      obtain ⟨_, _, _, h4⟩ := hp 4 (by simp)
      simp only [CopPost, List.getD_cons_zero, List.getD_cons_succ] at h4
      rw [h4]
      go_wp2_with fail
      refine (texts_any _ x.vals _ (HX.out.vals.below (hB0.trans (Below.mono hg (by omega))) (Nat.le_of_eq HG.out)) hok.vals hok.vals2).mono ?_
      rintro e wz ⟨ao, rfl, hk, hb⟩
      go_wp2
      exact ⟨_, rfl, hb, ao, rfl, hk.mono (fun b _ h => by have := hg.size; omega)⟩
    | 6, _ =>
      obtain rfl := Option.some.inj ho
      clear ho
      simp only [actsD, List.getD_cons_zero, List.getD_cons_succ, List.foldl_cons, List.foldl_nil, Act.put, List.setIfInBounds_toArray, List.set_cons_succ, List.set_cons_zero]
      go_wp2
      exact ⟨_, rfl, Grow.refl _, rfl⟩
    | 7, _ =>
      obtain rfl := Option.some.inj ho
      clear ho
      simp only [actsD, List.getD_cons_zero, List.getD_cons_succ, List.foldl_cons, List.foldl_nil, Act.put, List.setIfInBounds_toArray, List.set_cons_succ, List.set_cons_zero]
      obtain ⟨_, _, _, h6⟩ := hp 6 (by simp)
      simp only [CopPost, List.getD_cons_zero, List.getD_cons_succ] at h6
      rw [h6]
      have hca := cell_of_row' ((hg.block g (by omega)).trans ra)
      have e1 := hca 1
      have e2 := hca 2
      have e3 := hca 3
      simp at e1 e2 e3
      go_wp2
      exact ⟨_, rfl, Grow.refl _, rfl⟩
    | 8, _ =>
      obtain rfl := Option.some.inj ho
      clear ho
      simp only [actsD, List.getD_cons_zero, List.getD_cons_succ, List.foldl_cons, List.foldl_nil, Act.put, List.setIfInBounds_toArray, List.set_cons_succ, List.set_cons_zero]
      obtain ⟨_, _, _, h7⟩ := hp 7 (by simp)
      simp only [CopPost, List.getD_cons_zero, List.getD_cons_succ] at h7
      obtain ⟨_, _, _, h5⟩ := hp 5 (by simp)
      simp only [CopPost, List.getD_cons_zero, List.getD_cons_succ] at h5
      rw [h7]
      go_wp2_with fail
      refine (cloneI_any _ x.kids.length (x.kids.map I) _ (HX.out.kids.below (hB0.trans (Below.mono hg (by omega))) (Nat.le_of_eq HG.out)) (Is_one _) hok.kids).mono ?_
      rintro e wz ⟨ao, cap, rfl, hc, hk, hb⟩
      go_wp2
      exact ⟨_, rfl, hb, ao, cap, rfl, hc, hk.mono (fun b _ h => by have := hg.size; omega)⟩
    | 9, _ =>
      obtain rfl := Option.some.inj ho
      clear ho
      simp only [actsD, List.getD_cons_zero, List.getD_cons_succ, List.foldl_cons, List.foldl_nil, Act.put, List.setIfInBounds_toArray, List.set_cons_succ, List.set_cons_zero]
      obtain ⟨_, _, _, h8⟩ := hp 8 (by simp)
      simp only [CopPost, List.getD_cons_zero, List.getD_cons_succ] at h8
      obtain ⟨_, _, _, h5⟩ := hp 5 (by simp)
      simp only [CopPost, List.getD_cons_zero, List.getD_cons_succ] at h5
      obtain ⟨ao, cap, h8, hc, hk⟩ := h8
      rw [h8]
      go_wp2_with fail
      refine (clipI_any ao _ cap _ hc).mono ?_
      rintro e wz ⟨rfl, rfl⟩
      go_wp2
      exact ⟨_, rfl, Grow.refl _, ao, rfl, hk.imp (fun w2 h => h.cut (Nat.le_refl _))⟩
    | 10, _ =>
      obtain rfl := Option.some.inj ho
      clear ho
      simp only [actsD, List.getD_cons_zero, List.getD_cons_succ, List.foldl_cons, List.foldl_nil, Act.put, List.setIfInBounds_toArray, List.set_cons_succ, List.set_cons_zero]
      go_wp2
      exact ⟨_, rfl, Grow.refl _, rfl⟩
    | (qq + 11), hqq => exact absurd hqq (by omega)
  · intro vs' lo hi wz hg hp hd
    obtain ⟨_, _, _, ak, h2, hk2⟩ := hp 2 (by omega)
    obtain ⟨_, _, _, av, h5, hk5⟩ := hp 5 (by omega)
    obtain ⟨_, _, _, ad, h9, hk9⟩ := hp 9 (by omega)
    obtain ⟨_, _, _, h10⟩ := hp 10 (by omega)
    simp only [CopPost] at h10
    have hr : List.range 11 = [0, 1, 2, 3, 4, 5, 6, 7, 8, 9, 10] := rfl
    rw [hr]
    simp only [List.drop_succ_cons, List.drop_zero, actsD, List.getD_cons_zero, List.getD_cons_succ, List.foldl_cons, List.foldl_nil, Act.put, List.setIfInBounds_toArray, List.set_cons_succ, List.set_cons_zero, h2, h5, h9, h10]
    clear hp hd h2 h5 h9 h10
    have hBz : Below g w wz := hB0.trans (Below.mono hg (by omega))
    have hra := (hg.block g (by omega)).trans ra
    have hrb := (hg.block (g + 1) (by omega)).trans rb
    have hsz : g + 2 ≤ wz.heap.size := by have := hg.size; omega
    have hca := cell_of_row' hra
    have hcb := cell_of_row' hrb
    have e0 := hca 0
    have e1 := hca 1
    have e2 := hca 2
    have e3 := hca 3
    have e4 := hca 4
    have f0 := hcb 0
    have f1 := hcb 1
    have f2 := hcb 2
    have f3 := hcb 3
    have f4 := hcb 4
    simp at e0 e1 e2 e3 e4 f0 f1 f2 f3 f4
    have hfa := frozen_of_row' hra
    have hfb := frozen_of_row' hrb
    clear hca hcb hra hrb ra rb hg
    generalize vs' 0 = v0
    generalize vs' 1 = v1
    generalize vs' 3 = v3
    generalize vs' 4 = v4
    generalize vs' 6 = v6
    generalize vs' 7 = v7
    generalize vs' 8 = v8
    go_wp2
    refine bodyPost_ret (v := nodeV x (.slice ak x.keys.length x.keys.length) (.slice av x.vals.length x.vals.length) (.slice ad x.kids.length x.kids.length)) (by simp [results, Try.results27, go_sem, nodeV, f0, f1, f2, f3, f4, e0, e1, e2, e3, e4]) rfl ⟨ak, av, ad, rfl, ?_, ?_⟩
    · refine Kept.imp (Kept.grow (Kept.and hk2 (Kept.and hk5 hk9)) (w' := _) ?_ |>.mono (fun b _ h => ?_)) (fun w2 h => ⟨h.1, h.2.1, h.2.2⟩)
      · have X1 : g < W0.heap.size := by omega
        have X2 : g + 1 < W0.heap.size := by omega
        exact ((((((((GrowX.refl wz).setCell (X := fun k => k < W0.heap.size) X1 _).setCell X1 _).setCell X1 _).setCell X2 _).setCell X2 _).setCell X2 _).setCell X2 _).setCell X2 _
      · have := HG.out; show b < W0.heap.size; omega
    · rw [HG.out]
      exact (((((((hBz.setCell (Nat.le_refl _) _).setCell (Nat.le_refl _) _).setCell (Nat.le_refl _) _).setCell (Nat.le_succ _) _).setCell (Nat.le_succ _) _).setCell (Nat.le_succ _) _).setCell (Nat.le_succ _) _).setCell (Nat.le_succ _) _
end Go.Proofs.Ytfbblgcdggpehaa

/- What node.clip answers. Conditions: none. -/
import Derived.Test.YtfbblgcdggpehaaNFits
namespace Go.Proofs.Ytfbblgcdggpehaa
set_option linter.unusedSimpArgs false
set_option linter.unusedVariables false
open Go.RowKit

def EqPost (vals : List Value) (i : Nat) (v : Value) (lo hi : Nat) (w : World) : Prop := v = vals.getD i undef
theorem EqPost_stable (vals : List Value) : ∀ i v lo hi w w', EqPost vals i v lo hi w → Grow w w' → EqPost vals i v lo hi w' := fun _ _ _ _ _ _ h _ => h

set_option maxRecDepth 100000 in
set_option maxHeartbeats 3200000 in
theorem clip_any (b : Bool) (n : Int) (ak av ad : Option Addr) (nk nv nd ck cv cd : Nat) (w : World) (hk : nk ≤ ck) (hv : nv ≤ cv) (hd : nd ≤ cd) :
    Calls Try.prog 31 #[.agg #[.bool b, .slice ak nk ck, .slice av nv cv, .slice ad nd cd, .int .i64 n]] w fun e w' =>
      e = .returned (.agg #[.bool b, .slice ak nk nk, .slice av nv nv, .slice ad nd nd, .int .i64 n]) ∧ Below w.heap.size w w' := by
  have hW0 : ∃ W0 : World, W0 = (w.alloc (.cells #[.bool b, .slice ak nk ck, .slice av nv cv, .slice ad nd cd, .int .i64 n] 25)).alloc (.cells #[.bool false, .slice none 0 0, .slice none 0 0, .slice none 0 0, .int .i64 0] 25) := ⟨_, rfl⟩
  go_enter Try.func31, Try.ntmps31
  go_wp2_with fail
  obtain ⟨W0, hW0⟩ := hW0
  have ra : W0.heap[w.heap.size]? = some (.cells #[.bool b, .slice ak nk ck, .slice av nv cv, .slice ad nd cd, .int .i64 n] 25) := by
    rw [hW0, Below.heap_alloc _ _ _ (by simp)]; exact heap_alloc_new _ _
  have rb : W0.heap[w.heap.size + 1]? = some (.cells #[.bool false, .slice none 0 0, .slice none 0 0, .slice none 0 0, .int .i64 0] 25) := by
    rw [hW0]
    have := heap_alloc_new (w.alloc (.cells #[.bool b, .slice ak nk ck, .slice av nv cv, .slice ad nd cd, .int .i64 n] 25)) (.cells #[.bool false, .slice none 0 0, .slice none 0 0, .slice none 0 0, .int .i64 0] 25)
    simpa using this
  have hs0 : W0.heap.size = w.heap.size + 2 := by rw [hW0]; simp
  have hB0 : Below w.heap.size w W0 := by rw [hW0]; exact ((Below.refl _ _).alloc (Nat.le_refl _) _).alloc (by simp) _
  rw [← hW0]
  clear hW0
  obtain ⟨g, hg0⟩ : ∃ g, w.heap.size = g := ⟨_, rfl⟩
  rw [hg0] at ra rb hs0 hB0 ⊢
  have HG := Lib.hid hg0
  clear hg0
  refine wp_region_partsD 10 [[], [0], [1], [], [3], [4, 2], [], [6], [7, 5], []] [some 3, some 4, some 5, some 6, some 7, some 8, some 9, some 10, some 11, some 12, none, some 13, none, some 14, none] (by kernel_rfl) (by kernel_rfl) rfl (EqPost [.pointer (some ⟨g, 1, none⟩), .slice ak nk ck, .slice ak nk nk, .pointer (some ⟨g, 2, none⟩), .slice av nv cv, .slice av nv nv, .pointer (some ⟨g, 3, none⟩), .slice ad nd cd, .slice ad nd nd, .pointer (some ⟨g, 1, none⟩)]) (EqPost_stable _) ?_ ?_
  · intro i hi o ho vs lo h w' hg hp
    match i, hi with
    | 0, _ =>
      obtain rfl := Option.some.inj ho
      clear ho
      simp only [actsD, List.getD_cons_zero, List.getD_cons_succ, List.foldl_cons, List.foldl_nil, Act.put, List.setIfInBounds_toArray, List.set_cons_succ, List.set_cons_zero]
      go_wp2
      exact ⟨_, rfl, Grow.refl _, rfl⟩
    | 1, _ =>
      obtain rfl := Option.some.inj ho
      clear ho
      simp only [actsD, List.getD_cons_zero, List.getD_cons_succ, List.foldl_cons, List.foldl_nil, Act.put, List.setIfInBounds_toArray, List.set_cons_succ, List.set_cons_zero]
      obtain ⟨_, _, _, h0⟩ := hp 0 (by simp)
      simp only [EqPost, List.getD_cons_zero, List.getD_cons_succ] at h0
      rw [h0]
      have hca := cell_of_row' ((hg.block g (by omega)).trans ra)
      have e1 := hca 1
      have e2 := hca 2
      have e3 := hca 3
      simp at e1 e2 e3
      go_wp2
      exact ⟨_, rfl, Grow.refl _, rfl⟩
    | 2, _ =>
      obtain rfl := Option.some.inj ho
      clear ho
      simp only [actsD, List.getD_cons_zero, List.getD_cons_succ, List.foldl_cons, List.foldl_nil, Act.put, List.setIfInBounds_toArray, List.set_cons_succ, List.set_cons_zero]
      obtain ⟨_, _, _, h1⟩ := hp 1 (by simp)
      simp only [EqPost, List.getD_cons_zero, List.getD_cons_succ] at h1
      rw [h1]
      go_wp2_with fail
      refine (clipT_any ak nk ck _ hk).mono ?_
      rintro e wz ⟨rfl, rfl⟩
      go_wp2
      exact ⟨_, rfl, Grow.refl _, rfl⟩
    | 3, _ =>
      obtain rfl := Option.some.inj ho
      clear ho
      simp only [actsD, List.getD_cons_zero, List.getD_cons_succ, List.foldl_cons, List.foldl_nil, Act.put, List.setIfInBounds_toArray, List.set_cons_succ, List.set_cons_zero]
      go_wp2
      exact ⟨_, rfl, Grow.refl _, rfl⟩
    | 4, _ =>
      obtain rfl := Option.some.inj ho
      clear ho
      simp only [actsD, List.getD_cons_zero, List.getD_cons_succ, List.foldl_cons, List.foldl_nil, Act.put, List.setIfInBounds_toArray, List.set_cons_succ, List.set_cons_zero]
      obtain ⟨_, _, _, h3⟩ := hp 3 (by simp)
      simp only [EqPost, List.getD_cons_zero, List.getD_cons_succ] at h3
      rw [h3]
      have hca := cell_of_row' ((hg.block g (by omega)).trans ra)
      have e1 := hca 1
      have e2 := hca 2
      have e3 := hca 3
      simp at e1 e2 e3
      go_wp2
      exact ⟨_, rfl, Grow.refl _, rfl⟩
    | 5, _ =>
      obtain rfl := Option.some.inj ho
      clear ho
      simp only [actsD, List.getD_cons_zero, List.getD_cons_succ, List.foldl_cons, List.foldl_nil, Act.put, List.setIfInBounds_toArray, List.set_cons_succ, List.set_cons_zero]
      obtain ⟨_, _, _, h4⟩ := hp 4 (by simp)
      simp only [EqPost, List.getD_cons_zero, List.getD_cons_succ] at h4
      obtain ⟨_, _, _, h2⟩ := hp 2 (by simp)
      simp only [EqPost, List.getD_cons_zero, List.getD_cons_succ] at h2
      rw [h4, h2]
      go_wp2_with fail
      refine (clipT_any av nv cv _ hv).mono ?_
      rintro e wz ⟨rfl, rfl⟩
      go_wp2
      exact ⟨_, rfl, Grow.refl _, rfl⟩
    | 6, _ =>
      obtain rfl := Option.some.inj ho
      clear ho
      simp only [actsD, List.getD_cons_zero, List.getD_cons_succ, List.foldl_cons, List.foldl_nil, Act.put, List.setIfInBounds_toArray, List.set_cons_succ, List.set_cons_zero]
      go_wp2
      exact ⟨_, rfl, Grow.refl _, rfl⟩
    | 7, _ =>
      obtain rfl := Option.some.inj ho
      clear ho
      simp only [actsD, List.getD_cons_zero, List.getD_cons_succ, List.foldl_cons, List.foldl_nil, Act.put, List.setIfInBounds_toArray, List.set_cons_succ, List.set_cons_zero]
      obtain ⟨_, _, _, h6⟩ := hp 6 (by simp)
      simp only [EqPost, List.getD_cons_zero, List.getD_cons_succ] at h6
      rw [h6]
      have hca := cell_of_row' ((hg.block g (by omega)).trans ra)
      have e1 := hca 1
      have e2 := hca 2
      have e3 := hca 3
      simp at e1 e2 e3
      go_wp2
      exact ⟨_, rfl, Grow.refl _, rfl⟩
    | 8, _ =>
      obtain rfl := Option.some.inj ho
      clear ho
      simp only [actsD, List.getD_cons_zero, List.getD_cons_succ, List.foldl_cons, List.foldl_nil, Act.put, List.setIfInBounds_toArray, List.set_cons_succ, List.set_cons_zero]
      obtain ⟨_, _, _, h7⟩ := hp 7 (by simp)
      simp only [EqPost, List.getD_cons_zero, List.getD_cons_succ] at h7
      obtain ⟨_, _, _, h5⟩ := hp 5 (by simp)
      simp only [EqPost, List.getD_cons_zero, List.getD_cons_succ] at h5
      rw [h7, h5]
      go_wp2_with fail
      refine (clipI_any ad nd cd _ hd).mono ?_
      rintro e wz ⟨rfl, rfl⟩
      go_wp2
      exact ⟨_, rfl, Grow.refl _, rfl⟩
    | 9, _ =>
      obtain rfl := Option.some.inj ho
      clear ho
      simp only [actsD, List.getD_cons_zero, List.getD_cons_succ, List.foldl_cons, List.foldl_nil, Act.put, List.setIfInBounds_toArray, List.set_cons_succ, List.set_cons_zero]
      go_wp2
      exact ⟨_, rfl, Grow.refl _, rfl⟩
    | (qq + 10), hqq => exact absurd hqq (by omega)
  · intro vs' lo hi wz hg hp hd'
    obtain ⟨_, _, _, h0⟩ := hp 0 (by omega)
    obtain ⟨_, _, _, h1⟩ := hp 1 (by omega)
    obtain ⟨_, _, _, h2⟩ := hp 2 (by omega)
    obtain ⟨_, _, _, h3⟩ := hp 3 (by omega)
    obtain ⟨_, _, _, h4⟩ := hp 4 (by omega)
    obtain ⟨_, _, _, h5⟩ := hp 5 (by omega)
    obtain ⟨_, _, _, h6⟩ := hp 6 (by omega)
    obtain ⟨_, _, _, h7⟩ := hp 7 (by omega)
    obtain ⟨_, _, _, h8⟩ := hp 8 (by omega)
    obtain ⟨_, _, _, h9⟩ := hp 9 (by omega)
    simp only [EqPost, List.getD_cons_zero, List.getD_cons_succ] at h0 h1 h2 h3 h4 h5 h6 h7 h8 h9
    have hr : List.range 10 = [0, 1, 2, 3, 4, 5, 6, 7, 8, 9] := rfl
    rw [hr]
    simp only [List.drop_succ_cons, List.drop_zero, actsD, List.getD_cons_zero, List.getD_cons_succ, List.foldl_cons, List.foldl_nil, Act.put, List.setIfInBounds_toArray, List.set_cons_succ, List.set_cons_zero, h0, h1, h2, h3, h4, h5, h6, h7, h8, h9]
    clear hp hd' h0 h1 h2 h3 h4 h5 h6 h7 h8 h9
    have hBz : Below g w wz := hB0.trans (Below.mono hg (by omega))
    have hra := (hg.block g (by omega)).trans ra
    have hrb := (hg.block (g + 1) (by omega)).trans rb
    have hsz : g + 2 ≤ wz.heap.size := by have := hg.size; omega
    have hca := cell_of_row' hra
    have hcb := cell_of_row' hrb
    have e0 := hca 0
    have f0 := hcb 0
    have e1 := hca 1
    have f1 := hcb 1
    have e2 := hca 2
    have f2 := hcb 2
    have e3 := hca 3
    have f3 := hcb 3
    have e4 := hca 4
    have f4 := hcb 4
    simp at e0 e1 e2 e3 e4 f0 f1 f2 f3 f4
    have hfa := frozen_of_row' hra
    have hfb := frozen_of_row' hrb
    clear hca hcb hra hrb ra rb hg
    go_wp2
    refine bodyPost_ret (v := .agg #[.bool b, .slice ak nk nk, .slice av nv nv, .slice ad nd nd, .int .i64 n]) (by simp [results, Try.results31, go_sem, f0, f1, f2, f3, f4, e0, e1, e2, e3, e4]) rfl ⟨rfl, ?_⟩
    rw [HG.out]
    exact (((((((hBz.setCell (Nat.le_refl _) _).setCell (Nat.le_refl _) _).setCell (Nat.le_refl _) _).setCell (Nat.le_succ _) _).setCell (Nat.le_succ _) _).setCell (Nat.le_succ _) _).setCell (Nat.le_succ _) _).setCell (Nat.le_succ _) _
end Go.Proofs.Ytfbblgcdggpehaa

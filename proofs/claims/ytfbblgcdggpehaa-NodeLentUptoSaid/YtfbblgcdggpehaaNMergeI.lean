/- What node.Merge answers at inner nodes. Conditions: short lists. -/
import Derived.Test.YtfbblgcdggpehaaNMerge
namespace Go.Proofs.Ytfbblgcdggpehaa
set_option linter.unusedSimpArgs false
set_option linter.unusedVariables false
open Go.RowKit

def WMi1 (W0 : World) (g nk nv nd mk mv md : Nat) (ks vs ds ks2 vs2 ds2 : Value) (lb rb : Bool) (ln rn : Int) (x y : Nd) (j b o : Nat) : Prop := False
def PMi1 (W0 : World) (g nk nv nd mk mv md : Nat) (ks vs ds ks2 vs2 ds2 : Value) (lb rb : Bool) (ln rn : Int) (x y : Nd) (i : Nat) (v : Value) (lo hi : Nat) (w : World) : Prop :=
  match i with
  | 0 => v = .agg #[.bool lb, ks, vs, ds, .int .i64 ln]
  | 1 => Cop (fun k => k < lo ∨ hi ≤ k) w v x lb ln nk nv nd
  | 2 => v = .agg #[.bool rb, ks2, vs2, ds2, .int .i64 rn]
  | 3 => Cop (fun k => k < lo ∨ hi ≤ k) w v y rb rn mk mv md
  | 4 => v = .pointer (some ⟨lo, 0, none⟩) ∧ hi = lo + 1 ∧ Box w lo [.bool false, .slice none 0 0, .slice none 0 0, .slice none 0 0, .int .i64 0]
  | 5 => v = .pointer (some ⟨lo, 0, none⟩) ∧ hi = lo + 1 ∧ Box w lo [.bool false, .slice none 0 0, .slice none 0 0, .slice none 0 0, .int .i64 0]
  | _ => True
theorem PMi1_stable (W0 : World) (g nk nv nd mk mv md : Nat) (ks vs ds ks2 vs2 ds2 : Value) (lb rb : Bool) (ln rn : Int) (x y : Nd)  : ∀ i j, i < 6 → j < 6 → j ≠ i → j ∉ ([[], [0], [], [0, 1, 2], [], []] : List (List Nat)).getD i [] → ∀ v lo hi w w', PMi1 W0 g nk nv nd mk mv md ks vs ds ks2 vs2 ds2 lb rb ln rn x y i v lo hi w → GrowC (WMi1 W0 g nk nv nd mk mv md ks vs ds ks2 vs2 ds2 lb rb ln rn x y j) w w' → PMi1 W0 g nk nv nd mk mv md ks vs ds ks2 vs2 ds2 lb rb ln rn x y i v lo hi w' := by
  intro i j hi hj hne hbs v lo hj2 w w' h hg
  match i, hi with
  | 0, _ =>
    simp only [PMi1] at h ⊢
    exact h
  | 1, _ =>
    simp only [PMi1] at h ⊢
    exact h.grow (GrowX.of_growC hg (fun _ _ hw => False.elim hw))
  | 2, _ =>
    simp only [PMi1] at h ⊢
    exact h
  | 3, _ =>
    simp only [PMi1] at h ⊢
    exact h.grow (GrowX.of_growC hg (fun _ _ hw => False.elim hw))
  | 4, _ =>
    simp only [PMi1] at h ⊢
    exact ⟨h.1, h.2.1, h.2.2.grow hg (fun _ _ hw => False.elim hw)⟩
  | 5, _ =>
    simp only [PMi1] at h ⊢
    exact ⟨h.1, h.2.1, h.2.2.grow hg (fun _ _ hw => False.elim hw)⟩
  | (q + 6), hq => exact absurd hq (by omega)
def WMg5 (W0 : World) (g g7 g8 nk nv nd mk mv md m : Nat) (k : Value) (p1 p2 p3 q1 q2 q3 : Option Addr) (ln rn : Int) (xk : List Value) (l : List UInt8) (j b o : Nat) : Prop := False
def PMg5 (W0 : World) (g g7 g8 nk nv nd mk mv md m : Nat) (k : Value) (p1 p2 p3 q1 q2 q3 : Option Addr) (ln rn : Int) (xk : List Value) (l : List UInt8) (i : Nat) (v : Value) (lo hi : Nat) (w : World) : Prop :=
  match i with
  | 0 => v = .pointer (some ⟨g7, 1, none⟩)
  | 1 => v = .slice p1 nk nk
  | 2 => v = k
  | 3 => ∃ a1 c1, v = .slice a1 m c1 ∧ m ≤ c1 ∧ Kept (fun j => j < lo ∨ hi ≤ j) w (fun w2 => Reads 1 w2 (.slice a1 m c1) m (l.map B))
  | 4 => ∃ a1 A C, v = .slice a1 m m ∧ W0.heap.size ≤ A ∧ C ≤ lo ∧ Kept (fun j => j < A ∨ C ≤ j) w (fun w2 => Reads 1 w2 (.slice a1 m m) m (l.map B))
  | 5 => ∃ a1 A C, v = .slice (some ⟨lo, 0, none⟩) 1 1 ∧ lo < w.heap.size ∧ w.cell? ⟨lo, 0, none⟩ = some (.slice a1 m m) ∧ W0.heap.size ≤ A ∧ C ≤ lo ∧ Kept (fun j => j < A ∨ C ≤ j) w (fun w2 => Reads 1 w2 (.slice a1 m m) m (l.map B))
  | 6 => ∃ kb c a1, v = .slice (some ⟨kb, 0, none⟩) (nk + 1) c ∧ nk + 1 ≤ c ∧ W0.heap.size ≤ kb ∧ w.ownsRow W0.heap.size 28 1 (.slice (some ⟨kb, 0, none⟩) (nk + 1) c) (nk + 1) (xk ++ [.slice a1 m m]) ∧ Kept (fun j => j < W0.heap.size ∨ j = kb) w (fun w2 => Reads 1 w2 (.slice a1 m m) m (l.map B))
  | _ => True
theorem PMg5_stable (W0 : World) (g g7 g8 nk nv nd mk mv md m : Nat) (k : Value) (p1 p2 p3 q1 q2 q3 : Option Addr) (ln rn : Int) (xk : List Value) (l : List UInt8)  : ∀ i j, i < 7 → j < 7 → j ≠ i → j ∉ ([[], [0], [], [2], [2, 3], [2, 3, 4], [0, 1, 2, 3, 4, 5]] : List (List Nat)).getD i [] → ∀ v lo hi w w', PMg5 W0 g g7 g8 nk nv nd mk mv md m k p1 p2 p3 q1 q2 q3 ln rn xk l i v lo hi w → GrowC (WMg5 W0 g g7 g8 nk nv nd mk mv md m k p1 p2 p3 q1 q2 q3 ln rn xk l j) w w' → PMg5 W0 g g7 g8 nk nv nd mk mv md m k p1 p2 p3 q1 q2 q3 ln rn xk l i v lo hi w' := by
  intro i j hi hj hne hbs v lo hj2 w w' h hg
  match i, hi with
  | 0, _ =>
    simp only [PMg5] at h ⊢
    exact h
  | 1, _ =>
    simp only [PMg5] at h ⊢
    exact h
  | 2, _ =>
    simp only [PMg5] at h ⊢
    exact h
  | 3, _ =>
    simp only [PMg5] at h ⊢
    obtain ⟨a1, c1, h1, h2, h3⟩ := h; exact ⟨a1, c1, h1, h2, h3.grow (GrowX.of_growC hg (fun _ _ hw => False.elim hw))⟩
  | 4, _ =>
    simp only [PMg5] at h ⊢
    obtain ⟨a1, A, C, h1, h2, h3, h4⟩ := h; exact ⟨a1, A, C, h1, h2, h3, h4.grow (GrowX.of_growC hg (fun _ _ hw => False.elim hw))⟩
  | 5, _ =>
    simp only [PMg5] at h ⊢
    obtain ⟨a1, A, C, h1, h2, h3, h4, h5, h6⟩ := h; exact ⟨a1, A, C, h1, Nat.lt_of_lt_of_le h2 hg.size, (hg.cell _ _ h2 (fun hw => hw)).trans h3, h4, h5, h6.grow (GrowX.of_growC hg (fun _ _ hw => False.elim hw))⟩
  | 6, _ =>
    simp only [PMg5] at h ⊢
    obtain ⟨kb, c, a1, h1, h2, h3, h4, h5⟩ := h; exact ⟨kb, c, a1, h1, h2, h3, own_growx (X := fun _ => False) h4 (GrowX.of_growC hg (fun _ _ hw => False.elim hw)) (fun _ _ h => h), h5.grow (GrowX.of_growC hg (fun _ _ hw => False.elim hw))⟩
  | (q + 7), hq => exact absurd hq (by omega)
def WMg6i (XX : Nat → Prop) (S g g7 g8 kb kc nk nv nd mk mv md : Nat) (p2 p3 q1 q2 q3 : Option Addr) (ln rn : Int) (xk yk xv yv : List Value) (x y : Nd) (j b o : Nat) : Prop := (j = 4 ∧ b = kb)
def PMg6i (XX : Nat → Prop) (S g g7 g8 kb kc nk nv nd mk mv md : Nat) (p2 p3 q1 q2 q3 : Option Addr) (ln rn : Int) (xk yk xv yv : List Value) (x y : Nd) (i : Nat) (v : Value) (lo hi : Nat) (w : World) : Prop :=
  match i with
  | 0 => v = .pointer (some ⟨g7, 1, none⟩)
  | 1 => v = .slice (some ⟨kb, 0, none⟩) (nk + 1) kc
  | 2 => v = .pointer (some ⟨g8, 1, none⟩)
  | 3 => v = .slice q1 mk mk
  | 4 => ∃ g4 c1, v = .slice (some ⟨g4, 0, none⟩) (nk + 1 + mk) c1 ∧ nk + 1 + mk ≤ c1 ∧ w.ownsRow S 28 1 (.slice (some ⟨g4, 0, none⟩) (nk + 1 + mk) c1) (nk + 1 + mk) (xk ++ yk)
  | 5 => v = .pointer (some ⟨g7, 2, none⟩)
  | 6 => v = .slice p2 nv nv
  | 7 => v = .pointer (some ⟨g8, 2, none⟩)
  | 8 => v = .slice q2 mv mv
  | 9 => ∃ a1 c1, v = .slice a1 (nv + mv) c1 ∧ nv + mv ≤ c1 ∧ Kept XX w (fun w2 => Reads 1 w2 (.slice a1 (nv + mv) c1) (nv + mv) (xv ++ yv))
  | 10 => v = .pointer (some ⟨g7, 3, none⟩)
  | 11 => v = .slice p3 nd nd
  | 12 => v = .pointer (some ⟨g8, 3, none⟩)
  | 13 => v = .slice q3 md md
  | 14 => ∃ a1 c1, v = .slice a1 (nd + md) c1 ∧ nd + md ≤ c1 ∧ Kept XX w (fun w2 => Reads 1 w2 (.slice a1 (nd + md) c1) (nd + md) (x.kids.map I ++ y.kids.map I))
  | 15 => v = .pointer (some ⟨g7, 1, none⟩)
  | _ => True
theorem PMg6i_stable (XX : Nat → Prop) (S g g7 g8 kb kc nk nv nd mk mv md : Nat) (p2 p3 q1 q2 q3 : Option Addr) (ln rn : Int) (xk yk xv yv : List Value) (x y : Nd) (hXX : ∀ k, k = kb → XX k) : ∀ i j, i < 16 → j < 16 → j ≠ i → j ∉ ([[], [0], [], [2], [0, 1, 2, 3], [], [5], [], [7], [0, 1, 2, 3, 4, 5, 6, 7, 8], [], [10], [], [12], [0, 1, 2, 3, 4, 5, 6, 7, 8, 9, 10, 11, 12, 13], [0, 1, 2, 3, 4, 5, 6, 10, 11]] : List (List Nat)).getD i [] → ∀ v lo hi w w', PMg6i XX S g g7 g8 kb kc nk nv nd mk mv md p2 p3 q1 q2 q3 ln rn xk yk xv yv x y i v lo hi w → GrowC (WMg6i XX S g g7 g8 kb kc nk nv nd mk mv md p2 p3 q1 q2 q3 ln rn xk yk xv yv x y j) w w' → PMg6i XX S g g7 g8 kb kc nk nv nd mk mv md p2 p3 q1 q2 q3 ln rn xk yk xv yv x y i v lo hi w' := by
  intro i j hi hj hne hbs v lo hj2 w w' h hg
  match i, hi with
  | 0, _ =>
    simp only [PMg6i] at h ⊢
    exact h
  | 1, _ =>
    simp only [PMg6i] at h ⊢
    exact h
  | 2, _ =>
    simp only [PMg6i] at h ⊢
    exact h
  | 3, _ =>
    simp only [PMg6i] at h ⊢
    exact h
  | 4, _ =>
    simp only [PMg6i] at h ⊢
    obtain ⟨g4, c1, h1, h2, h3⟩ := h; exact ⟨g4, c1, h1, h2, own_growx (X := fun _ => False) h3 (GrowX.of_growC hg (by simp only [WMg6i]; omega)) (fun _ _ h => h)⟩
  | 5, _ =>
    simp only [PMg6i] at h ⊢
    exact h
  | 6, _ =>
    simp only [PMg6i] at h ⊢
    exact h
  | 7, _ =>
    simp only [PMg6i] at h ⊢
    exact h
  | 8, _ =>
    simp only [PMg6i] at h ⊢
    exact h
  | 9, _ =>
    simp only [PMg6i] at h ⊢
    obtain ⟨a1, c1, h1, h2, h3⟩ := h; exact ⟨a1, c1, h1, h2, h3.grow (GrowX.of_growC hg (by simp only [WMg6i]; intro k o h; exact hXX k (by omega)))⟩
  | 10, _ =>
    simp only [PMg6i] at h ⊢
    exact h
  | 11, _ =>
    simp only [PMg6i] at h ⊢
    exact h
  | 12, _ =>
    simp only [PMg6i] at h ⊢
    exact h
  | 13, _ =>
    simp only [PMg6i] at h ⊢
    exact h
  | 14, _ =>
    simp only [PMg6i] at h ⊢
    obtain ⟨a1, c1, h1, h2, h3⟩ := h; exact ⟨a1, c1, h1, h2, h3.grow (GrowX.of_growC hg (by simp only [WMg6i]; intro k o h; exact hXX k (by omega)))⟩
  | 15, _ =>
    simp only [PMg6i] at h ⊢
    exact h
  | (q + 16), hq => exact absurd hq (by omega)
set_option maxRecDepth 100000 in
set_option maxHeartbeats 3200000 in
theorem merge_inner (x y : Nd) (ks vs ds k ks2 vs2 ds2 : Value) (w : World) (hx : NodeAt w ks vs ds x) (hokx : x.ok) (hy : NodeAt w ks2 vs2 ds2 y) (hoky : y.ok) (ln rn : Int) (hfx : x.fits = true) (hfy : y.fits = true) (l : List UInt8) (m : Nat) (hk : Reads 1 w k m (l.map B)) (hm : m ≤ 1099511627776) (hxb : x.leaf = false) (hxn : x.next = ln) (hyb : y.leaf = false) (hyn : y.next = rn) :
    Calls Try.prog 12 #[.agg #[.bool false, ks, vs, ds, .int .i64 ln], k, .agg #[.bool false, ks2, vs2, ds2, .int .i64 rn]] w fun e w' => NewEnd ⟨false, x.keys ++ [l] ++ y.keys, x.vals ++ y.vals, x.kids ++ y.kids, rn⟩ w e w' := by
  have HK := Lib.hid hk
  have hml : l.length = m := by obtain ⟨_, _, _, h, _⟩ := hk; simpa using h
  have HML := Lib.hid hml
  have o7 : k.oneCell' = true := by obtain ⟨_, _, e, _⟩ := hk; rw [e]; rfl
  clear hk hml
  obtain ⟨o1, o2, o3⟩ := hx.one
  obtain ⟨o4, o5, o6⟩ := hy.one
  obtain ⟨nk, hxk⟩ : ∃ n, x.keys.length = n := ⟨_, rfl⟩
  obtain ⟨nv, hxv⟩ : ∃ n, x.vals.length = n := ⟨_, rfl⟩
  obtain ⟨nd, hxd⟩ : ∃ n, x.kids.length = n := ⟨_, rfl⟩
  obtain ⟨mk, hyk⟩ : ∃ n, y.keys.length = n := ⟨_, rfl⟩
  obtain ⟨mv, hyv⟩ : ∃ n, y.vals.length = n := ⟨_, rfl⟩
  obtain ⟨md, hyd⟩ : ∃ n, y.kids.length = n := ⟨_, rfl⟩
  obtain ⟨g, hg0⟩ : ∃ g, w.heap.size = g := ⟨_, rfl⟩
  have hB := (((Below.refl w.heap.size w).alloc (Nat.le_refl _) (.cells #[.bool false, ks, vs, ds, .int .i64 ln] 25)).alloc (by simp) (.cells #[.bool false, ks2, vs2, ds2, .int .i64 rn] 25)).alloc (by simp; omega) (.cells #[.bool false, .slice none 0 0, .slice none 0 0, .slice none 0 0, .int .i64 0] 25)
  have ba := ((Box.new w #[.bool false, ks, vs, ds, .int .i64 ln] 25 hg0.symm).alloc (.cells #[.bool false, ks2, vs2, ds2, .int .i64 rn] 25)).alloc (.cells #[.bool false, .slice none 0 0, .slice none 0 0, .slice none 0 0, .int .i64 0] 25)
  have bb := (Box.new (w.alloc (.cells #[.bool false, ks, vs, ds, .int .i64 ln] 25)) #[.bool false, ks2, vs2, ds2, .int .i64 rn] 25 (g := g + 1) (by simp; omega)).alloc (.cells #[.bool false, .slice none 0 0, .slice none 0 0, .slice none 0 0, .int .i64 0] 25)
  have bc := Box.new ((w.alloc (.cells #[.bool false, ks, vs, ds, .int .i64 ln] 25)).alloc (.cells #[.bool false, ks2, vs2, ds2, .int .i64 rn] 25)) #[.bool false, .slice none 0 0, .slice none 0 0, .slice none 0 0, .int .i64 0] 25 (g := g + 1 + 1) (by simp; omega)
  have hx0 := hx.below hB (Nat.le_refl _)
  have hy0 := hy.below hB (Nat.le_refl _)
  have hsw : (((w.alloc (.cells #[.bool false, ks, vs, ds, .int .i64 ln] 25)).alloc (.cells #[.bool false, ks2, vs2, ds2, .int .i64 rn] 25)).alloc (.cells #[.bool false, .slice none 0 0, .slice none 0 0, .slice none 0 0, .int .i64 0] 25)).heap.size = g + 3 := by simp; omega
  have HG := Lib.hid hg0
  have HW := Lib.hid (⟨ba, bb, bc, hB, hx0, hy0, hsw⟩ : Box (((w.alloc (.cells #[.bool false, ks, vs, ds, .int .i64 ln] 25)).alloc (.cells #[.bool false, ks2, vs2, ds2, .int .i64 rn] 25)).alloc (.cells #[.bool false, .slice none 0 0, .slice none 0 0, .slice none 0 0, .int .i64 0] 25)) g [.bool false, ks, vs, ds, .int .i64 ln] ∧ Box (((w.alloc (.cells #[.bool false, ks, vs, ds, .int .i64 ln] 25)).alloc (.cells #[.bool false, ks2, vs2, ds2, .int .i64 rn] 25)).alloc (.cells #[.bool false, .slice none 0 0, .slice none 0 0, .slice none 0 0, .int .i64 0] 25)) (g + 1) [.bool false, ks2, vs2, ds2, .int .i64 rn] ∧ Box (((w.alloc (.cells #[.bool false, ks, vs, ds, .int .i64 ln] 25)).alloc (.cells #[.bool false, ks2, vs2, ds2, .int .i64 rn] 25)).alloc (.cells #[.bool false, .slice none 0 0, .slice none 0 0, .slice none 0 0, .int .i64 0] 25)) (g + 1 + 1) [.bool false, .slice none 0 0, .slice none 0 0, .slice none 0 0, .int .i64 0] ∧ Below w.heap.size w (((w.alloc (.cells #[.bool false, ks, vs, ds, .int .i64 ln] 25)).alloc (.cells #[.bool false, ks2, vs2, ds2, .int .i64 rn] 25)).alloc (.cells #[.bool false, .slice none 0 0, .slice none 0 0, .slice none 0 0, .int .i64 0] 25)) ∧ NodeAt (((w.alloc (.cells #[.bool false, ks, vs, ds, .int .i64 ln] 25)).alloc (.cells #[.bool false, ks2, vs2, ds2, .int .i64 rn] 25)).alloc (.cells #[.bool false, .slice none 0 0, .slice none 0 0, .slice none 0 0, .int .i64 0] 25)) ks vs ds x ∧ NodeAt (((w.alloc (.cells #[.bool false, ks, vs, ds, .int .i64 ln] 25)).alloc (.cells #[.bool false, ks2, vs2, ds2, .int .i64 rn] 25)).alloc (.cells #[.bool false, .slice none 0 0, .slice none 0 0, .slice none 0 0, .int .i64 0] 25)) ks2 vs2 ds2 y ∧ (((w.alloc (.cells #[.bool false, ks, vs, ds, .int .i64 ln] 25)).alloc (.cells #[.bool false, ks2, vs2, ds2, .int .i64 rn] 25)).alloc (.cells #[.bool false, .slice none 0 0, .slice none 0 0, .slice none 0 0, .int .i64 0] 25)).heap.size = g + 3)
  have HXB := Lib.hid hxb
  have HXN := Lib.hid hxn
  have HXK := Lib.hid hxk
  have HXV := Lib.hid hxv
  have HXD := Lib.hid hxd
  have HYB := Lib.hid hyb
  have HYN := Lib.hid hyn
  have HYK := Lib.hid hyk
  have HYV := Lib.hid hyv
  have HYD := Lib.hid hyd
  clear hx hy ba bb bc hB hx0 hy0 hsw hg0 hxb hxn hxk hxv hxd hyb hyn hyk hyv hyd
  go_enter Try.func12, Try.ntmps12
  go_wp2_with fail
  have hgw : w.heap.size ≤ g := Nat.le_of_eq HG.out
  rw [HG.out]
  refine wp_world (fun w0 => Box w0 g [.bool false, ks, vs, ds, .int .i64 ln] ∧ Box w0 (g + 1) [.bool false, ks2, vs2, ds2, .int .i64 rn] ∧ Box w0 (g + 1 + 1) [.bool false, .slice none 0 0, .slice none 0 0, .slice none 0 0, .int .i64 0] ∧ Below w.heap.size w w0 ∧ NodeAt w0 ks vs ds x ∧ NodeAt w0 ks2 vs2 ds2 y ∧ w0.heap.size = g + 3) HW.out ?_
  clear HW
  rintro w0 ⟨ba, bb, bc, hB, hx, hy, hs0⟩
  have HX := Lib.hid hx
  have HY := Lib.hid hy
  have HS0 := Lib.hid hs0
  have hs0' : g + 3 ≤ w0.heap.size := Nat.le_of_eq hs0.symm
  clear hx hy hs0
  refine wp_region_partsDC (WMi1 w0 g nk nv nd mk mv md ks vs ds ks2 vs2 ds2 false false ln rn x y) 6 [[], [0], [], [0, 1, 2], [], []] [some 9, some 10, some 11, some 12, some 7, some 8, none, none] (by kernel_rfl) (by kernel_rfl) rfl (PMi1 w0 g nk nv nd mk mv md ks vs ds ks2 vs2 ds2 false false ln rn x y) (PMi1_stable w0 g nk nv nd mk mv md ks vs ds ks2 vs2 ds2 false false ln rn x y ) ?pMi1 ?_
  case pMi1 =>
    intro i hi o ho vs lo hx_ w' hg hp
    match i, hi with
    | 0, _ =>
      obtain rfl := Option.some.inj ho
      clear ho
      simp only [actsD, List.getD_cons_zero, List.getD_cons_succ, List.foldl_cons, List.foldl_nil, Act.put, List.setIfInBounds_toArray, List.set_cons_succ, List.set_cons_zero]
      have hsz := hg.size
      have hgB : Below w0.heap.size w0 w' := hg.below (fun k hk => ⟨hk, fun o => by rintro ⟨j, _, _, _, hw⟩; exact False.elim hw⟩)
      have e0 := (hg.cell (g) 0 ba.lt (by rintro ⟨j, _, hne, hb, hw⟩; exact False.elim hw)).trans (ba.cell 0 _ rfl)
      have e1 := (hg.cell (g) 1 ba.lt (by rintro ⟨j, _, hne, hb, hw⟩; exact False.elim hw)).trans (ba.cell 1 _ rfl)
      have e2 := (hg.cell (g) 2 ba.lt (by rintro ⟨j, _, hne, hb, hw⟩; exact False.elim hw)).trans (ba.cell 2 _ rfl)
      have e3 := (hg.cell (g) 3 ba.lt (by rintro ⟨j, _, hne, hb, hw⟩; exact False.elim hw)).trans (ba.cell 3 _ rfl)
      have e4 := (hg.cell (g) 4 ba.lt (by rintro ⟨j, _, hne, hb, hw⟩; exact False.elim hw)).trans (ba.cell 4 _ rfl)
      go_wp2
      exact ⟨_, rfl, GrowC.refl _, rfl⟩
    | 1, _ =>
      obtain rfl := Option.some.inj ho
      clear ho
      simp only [actsD, List.getD_cons_zero, List.getD_cons_succ, List.foldl_cons, List.foldl_nil, Act.put, List.setIfInBounds_toArray, List.set_cons_succ, List.set_cons_zero]
      obtain ⟨_, _, _, h0⟩ := hp 0 (by simp)
      simp only [PMi1] at h0
      have hsz := hg.size
      have hgB : Below w0.heap.size w0 w' := hg.below (fun k hk => ⟨hk, fun o => by rintro ⟨j, _, _, _, hw⟩; exact False.elim hw⟩)
      rw [h0]
      go_wp2_with fail
      refine (copied_sl _ _ _ _ _ (HX.out.below hgB (Nat.le_refl _)) hokx _ _ _ _ _ HXB.out HXN.out HXK.out HXV.out HXD.out).mono ?_
      rintro e wz ⟨a1, a2, a3, rfl, hk1, hb⟩
      go_wp2
      exact ⟨_, rfl, GrowC.of_grow hb, a1, a2, a3, rfl, hk1.mono (fun k _ h => by omega)⟩
    | 2, _ =>
      obtain rfl := Option.some.inj ho
      clear ho
      simp only [actsD, List.getD_cons_zero, List.getD_cons_succ, List.foldl_cons, List.foldl_nil, Act.put, List.setIfInBounds_toArray, List.set_cons_succ, List.set_cons_zero]
      have hsz := hg.size
      have hgB : Below w0.heap.size w0 w' := hg.below (fun k hk => ⟨hk, fun o => by rintro ⟨j, _, _, _, hw⟩; exact False.elim hw⟩)
      have e0 := (hg.cell (g + 1) 0 bb.lt (by rintro ⟨j, _, hne, hb, hw⟩; exact False.elim hw)).trans (bb.cell 0 _ rfl)
      have e1 := (hg.cell (g + 1) 1 bb.lt (by rintro ⟨j, _, hne, hb, hw⟩; exact False.elim hw)).trans (bb.cell 1 _ rfl)
      have e2 := (hg.cell (g + 1) 2 bb.lt (by rintro ⟨j, _, hne, hb, hw⟩; exact False.elim hw)).trans (bb.cell 2 _ rfl)
      have e3 := (hg.cell (g + 1) 3 bb.lt (by rintro ⟨j, _, hne, hb, hw⟩; exact False.elim hw)).trans (bb.cell 3 _ rfl)
      have e4 := (hg.cell (g + 1) 4 bb.lt (by rintro ⟨j, _, hne, hb, hw⟩; exact False.elim hw)).trans (bb.cell 4 _ rfl)
      go_wp2
      exact ⟨_, rfl, GrowC.refl _, rfl⟩
    | 3, _ =>
      obtain rfl := Option.some.inj ho
      clear ho
      simp only [actsD, List.getD_cons_zero, List.getD_cons_succ, List.foldl_cons, List.foldl_nil, Act.put, List.setIfInBounds_toArray, List.set_cons_succ, List.set_cons_zero]
      obtain ⟨_, _, _, h2⟩ := hp 2 (by simp)
      simp only [PMi1] at h2
      have hsz := hg.size
      have hgB : Below w0.heap.size w0 w' := hg.below (fun k hk => ⟨hk, fun o => by rintro ⟨j, _, _, _, hw⟩; exact False.elim hw⟩)
      rw [h2]
      go_wp2_with fail
      refine (copied_sl _ _ _ _ _ (HY.out.below hgB (Nat.le_refl _)) hoky _ _ _ _ _ HYB.out HYN.out HYK.out HYV.out HYD.out).mono ?_
      rintro e wz ⟨a1, a2, a3, rfl, hk1, hb⟩
      go_wp2
      exact ⟨_, rfl, GrowC.of_grow hb, a1, a2, a3, rfl, hk1.mono (fun k _ h => by omega)⟩
    | 4, _ =>
      obtain rfl := Option.some.inj ho
      clear ho
      simp only [actsD, List.getD_cons_zero, List.getD_cons_succ, List.foldl_cons, List.foldl_nil, Act.put, List.setIfInBounds_toArray, List.set_cons_succ, List.set_cons_zero]
      have hsz := hg.size
      have hgB : Below w0.heap.size w0 w' := hg.below (fun k hk => ⟨hk, fun o => by rintro ⟨j, _, _, _, hw⟩; exact False.elim hw⟩)
      go_wp2
      exact ⟨_, rfl, GrowC.of_grow ((Grow.refl _).alloc _), rfl, by simp, Box.new _ _ _ rfl⟩
    | 5, _ =>
      obtain rfl := Option.some.inj ho
      clear ho
      simp only [actsD, List.getD_cons_zero, List.getD_cons_succ, List.foldl_cons, List.foldl_nil, Act.put, List.setIfInBounds_toArray, List.set_cons_succ, List.set_cons_zero]
      have hsz := hg.size
      have hgB : Below w0.heap.size w0 w' := hg.below (fun k hk => ⟨hk, fun o => by rintro ⟨j, _, _, _, hw⟩; exact False.elim hw⟩)
      go_wp2
      exact ⟨_, rfl, GrowC.of_grow ((Grow.refl _).alloc _), rfl, by simp, Box.new _ _ _ rfl⟩
    | (q + 6), hq => exact absurd hq (by omega)
  intro vS lo hi w1 hg hp hd
  obtain ⟨_, _, _, h0⟩ := hp 0 (by omega)
  obtain ⟨_, _, _, h1⟩ := hp 1 (by omega)
  obtain ⟨_, _, _, h2⟩ := hp 2 (by omega)
  obtain ⟨_, _, _, h3⟩ := hp 3 (by omega)
  obtain ⟨_, _, _, h4⟩ := hp 4 (by omega)
  obtain ⟨_, _, _, h5⟩ := hp 5 (by omega)
  simp only [PMi1] at h0 h1 h2 h3 h4 h5
  have hd14 := hd 1 4 (by omega) (by omega) (by omega)
  have hl1 := (hp 1 (by omega)).1
  have hl4 := (hp 4 (by omega)).1
  have hd15 := hd 1 5 (by omega) (by omega) (by omega)
  have hl1 := (hp 1 (by omega)).1
  have hl5 := (hp 5 (by omega)).1
  have hd34 := hd 3 4 (by omega) (by omega) (by omega)
  have hl3 := (hp 3 (by omega)).1
  have hl4 := (hp 4 (by omega)).1
  have hd35 := hd 3 5 (by omega) (by omega) (by omega)
  have hl3 := (hp 3 (by omega)).1
  have hl5 := (hp 5 (by omega)).1
  have hd45 := hd 4 5 (by omega) (by omega) (by omega)
  have hl4 := (hp 4 (by omega)).1
  have hl5 := (hp 5 (by omega)).1
  clear hp hd
  have hsz := hg.size
  replace ba := ba.grow hg (by intro i _; rintro ⟨j, _, hw⟩; exact False.elim hw)
  replace bb := bb.grow hg (by intro i _; rintro ⟨j, _, hw⟩; exact False.elim hw)
  replace bc := bc.grow hg (by intro i _; rintro ⟨j, _, hw⟩; exact False.elim hw)
  replace hB := hB.trans (hg.below (fun k hk => ⟨by omega, fun o => by rintro ⟨j, _, hw⟩; exact False.elim hw⟩))
  have hr : List.range 6 = [0, 1, 2, 3, 4, 5] := rfl
  rw [hr]
  clear hr
  simp only [List.drop_succ_cons, List.drop_zero, List.drop_nil, actsD, List.getD_cons_zero, List.getD_cons_succ, List.foldl_cons, List.foldl_nil, Act.put, List.setIfInBounds_toArray, List.set_cons_succ, List.set_cons_zero, h0, h2]
  clear h0 h2
  obtain ⟨p1, p2, p3, e1, hk1⟩ := h1
  obtain ⟨q1, q2, q3, e3, hk3⟩ := h3
  obtain ⟨e4, e4', b7⟩ := h4
  obtain ⟨e5, e5', b8⟩ := h5
  simp only [e1, e3, e4, e5]
  obtain ⟨g7, hg7⟩ : ∃ g, lo 4 = g := ⟨_, rfl⟩
  obtain ⟨g8, hg8⟩ : ∃ g, lo 5 = g := ⟨_, rfl⟩
  rw [e4', hg7] at hd14 hd34
  rw [e5', hg8] at hd15 hd35
  rw [e4', e5', hg7, hg8] at hd45
  rw [hg7] at b7 hl4
  rw [hg8] at b8 hl5
  simp only [hg7, hg8]
  clear e1 e3 e4 e4' e5 e5' hg7 hg8
  have hne : g7 ≠ g8 := by omega
  have hne' : g8 ≠ g7 := by omega
  have h7a : g + 3 ≤ g7 := by omega
  have h8a : g + 3 ≤ g8 := by omega
  have hkx := hk1.mono (Y := fun k => k < w0.heap.size ∨ k = g7 ∨ k = g8) (fun k _ h => by omega)
  have hky := hk3.mono (Y := fun k => k < w0.heap.size ∨ k = g7 ∨ k = g8) (fun k _ h => by omega)
  clear hk1 hk3 hd14 hd34 hd15 hd35 hd45 hl1 hl3
  have c70 := b7.cell 0 _ rfl
  have c71 := b7.cell 1 _ rfl
  have c72 := b7.cell 2 _ rfl
  have c73 := b7.cell 3 _ rfl
  have c74 := b7.cell 4 _ rfl
  have f7 := b7.free
  have c80 := b8.cell 0 _ rfl
  have c81 := b8.cell 1 _ rfl
  have c82 := b8.cell 2 _ rfl
  have c83 := b8.cell 3 _ rfl
  have c84 := b8.cell 4 _ rfl
  have f8 := b8.free
  go_wp2_with fail
  clear c70 c71 c72 c73 c74 f7
  clear c80 c81 c82 c83 c84 f8
  refine calls_world (fun w2 => Box w2 g7 [.bool false, .slice p1 nk nk, .slice p2 nv nv, .slice p3 nd nd, .int .i64 ln] ∧ Box w2 g8 [.bool false, .slice q1 mk mk, .slice q2 mv mv, .slice q3 md md, .int .i64 rn] ∧ GrowC (fun b _ => b = g7 ∨ b = g8) w1 w2) (b7.set55 b8 hne _ _ _ _ _ _ _ _ _ _) ?_
  clear b7 b8
  rintro w2 ⟨b7, b8, hg⟩
  replace bc := bc.grow hg (by intros; omega)
  replace hB := hB.trans (hg.below (fun k hk => ⟨by omega, fun _ => by omega⟩))
  replace hkx := hkx.grow (GrowX.of_growC hg (by omega))
  replace hky := hky.grow (GrowX.of_growC hg (by omega))
  replace hsz := Nat.le_trans hsz hg.size
  clear hg ba bb
  refine (fits_sl' x _ _ _ _ hkx.now hokx false ln HXB.out HXN.out true hfx).mono ?_
  rintro e w3 ⟨rfl, hb⟩
  replace bc := bc.below hb (Nat.le_refl _)
  replace b7 := b7.below hb (Nat.le_refl _)
  replace b8 := b8.below hb (Nat.le_refl _)
  replace hB := hB.trans (hb.mono (by omega))
  replace hkx := hkx.grow (GrowX.of_grow hb)
  replace hky := hky.grow (GrowX.of_grow hb)
  replace hsz := Nat.le_trans hsz hb.size
  clear hb
  have c70 := b7.cell 0 _ rfl
  have c71 := b7.cell 1 _ rfl
  have c72 := b7.cell 2 _ rfl
  have c73 := b7.cell 3 _ rfl
  have c74 := b7.cell 4 _ rfl
  have f7 := b7.free
  have c80 := b8.cell 0 _ rfl
  have c81 := b8.cell 1 _ rfl
  have c82 := b8.cell 2 _ rfl
  have c83 := b8.cell 3 _ rfl
  have c84 := b8.cell 4 _ rfl
  have f8 := b8.free
  go_wp2_with fail
  clear c70 c71 c72 c73 c74 f7
  clear c80 c81 c82 c83 c84 f8
  refine (fits_sl' y _ _ _ _ hky.now hoky false rn HYB.out HYN.out true hfy).mono ?_
  rintro e w4 ⟨rfl, hb⟩
  replace bc := bc.below hb (Nat.le_refl _)
  replace b7 := b7.below hb (Nat.le_refl _)
  replace b8 := b8.below hb (Nat.le_refl _)
  replace hB := hB.trans (hb.mono (by omega))
  replace hkx := hkx.grow (GrowX.of_grow hb)
  replace hky := hky.grow (GrowX.of_grow hb)
  replace hsz := Nat.le_trans hsz hb.size
  clear hb
  have c70 := b7.cell 0 _ rfl
  have c71 := b7.cell 1 _ rfl
  have c72 := b7.cell 2 _ rfl
  have c73 := b7.cell 3 _ rfl
  have c74 := b7.cell 4 _ rfl
  have f7 := b7.free
  have c80 := b8.cell 0 _ rfl
  have c81 := b8.cell 1 _ rfl
  have c82 := b8.cell 2 _ rfl
  have c83 := b8.cell 3 _ rfl
  have c84 := b8.cell 4 _ rfl
  have f8 := b8.free
  go_wp2_with fail
  clear c70 c71 c72 c73 c74 f7
  clear c80 c81 c82 c83 c84 f8
  obtain ⟨xk, hxk⟩ := Texts.uniform (hkx.imp (fun _ h => h.keys))
  obtain ⟨xv, hxv⟩ := Texts.uniform (hkx.imp (fun _ h => h.vals))
  obtain ⟨yk, hyk⟩ := Texts.uniform (hky.imp (fun _ h => h.keys))
  obtain ⟨yv, hyv⟩ := Texts.uniform (hky.imp (fun _ h => h.vals))
  have hxd := hkx.imp (fun _ h => h.kids)
  have hyd := hky.imp (fun _ h => h.kids)
  rw [HXD.out] at hxd
  rw [HYD.out] at hyd
  rw [HXK.out] at hxk
  rw [HXV.out] at hxv
  rw [HYK.out] at hyk
  rw [HYV.out] at hyv
  have hnk : nk ≤ 1099511627776 := HXK.out ▸ hokx.keys
  have hnv : nv ≤ 1099511627776 := HXV.out ▸ hokx.vals
  have hnd : nd ≤ 1099511627776 := HXD.out ▸ hokx.kids
  have hmk : mk ≤ 1099511627776 := HYK.out ▸ hoky.keys
  have hmv : mv ≤ 1099511627776 := HYV.out ▸ hoky.vals
  have hmd : md ≤ 1099511627776 := HYD.out ▸ hoky.kids
  have RXK := Lib.hid (hxk.imp (fun _ h => h.1))
  have TXK := Lib.hid (hxk.imp (fun _ h => h.2))
  have RXV := Lib.hid (hxv.imp (fun _ h => h.1))
  have TXV := Lib.hid (hxv.imp (fun _ h => h.2))
  have RYK := Lib.hid (hyk.imp (fun _ h => h.1))
  have TYK := Lib.hid (hyk.imp (fun _ h => h.2))
  have RYV := Lib.hid (hyv.imp (fun _ h => h.1))
  have TYV := Lib.hid (hyv.imp (fun _ h => h.2))
  have RXD := Lib.hid hxd
  have RYD := Lib.hid hyd
  clear hxk hxv hyk hyv hxd hyd
  have hg7 := b7.lt
  have hg8 := b8.lt
  refine wp_region_partsDC (WMg5 w4 g g7 g8 nk nv nd mk mv md m k p1 p2 p3 q1 q2 q3 ln rn xk l) 7 [[], [0], [], [2], [2, 3], [2, 3, 4], [0, 1, 2, 3, 4, 5]] [some 32, some 33, some 34, some 35, some 36, some 37, some 38, some 39, none] (by kernel_rfl) (by kernel_rfl) rfl (PMg5 w4 g g7 g8 nk nv nd mk mv md m k p1 p2 p3 q1 q2 q3 ln rn xk l) (PMg5_stable w4 g g7 g8 nk nv nd mk mv md m k p1 p2 p3 q1 q2 q3 ln rn xk l ) ?pMg5 ?_
  case pMg5 =>
    intro i hi o ho vs lo hx_ w' hg hp
    match i, hi with
    | 0, _ =>
      obtain rfl := Option.some.inj ho
      clear ho
      simp only [actsD, List.getD_cons_zero, List.getD_cons_succ, List.foldl_cons, List.foldl_nil, Act.put, List.setIfInBounds_toArray, List.set_cons_succ, List.set_cons_zero]
      have hsz := hg.size
      have hgB : Below w4.heap.size w4 w' := hg.below (fun k hk => ⟨hk, fun o => by rintro ⟨j, _, _, _, hw⟩; exact False.elim hw⟩)
      go_wp2
      exact ⟨_, rfl, GrowC.refl _, rfl⟩
    | 1, _ =>
      obtain rfl := Option.some.inj ho
      clear ho
      simp only [actsD, List.getD_cons_zero, List.getD_cons_succ, List.foldl_cons, List.foldl_nil, Act.put, List.setIfInBounds_toArray, List.set_cons_succ, List.set_cons_zero]
      obtain ⟨_, _, _, h0⟩ := hp 0 (by simp)
      simp only [PMg5] at h0
      have hsz := hg.size
      have hgB : Below w4.heap.size w4 w' := hg.below (fun k hk => ⟨hk, fun o => by rintro ⟨j, _, _, _, hw⟩; exact False.elim hw⟩)
      rw [h0]
      have e0 := (hg.cell (g7) 1 b7.lt (by rintro ⟨j, _, hne, hb, hw⟩; exact False.elim hw)).trans (b7.cell 1 _ rfl)
      go_wp2
      exact ⟨_, rfl, GrowC.refl _, rfl⟩
    | 2, _ =>
      obtain rfl := Option.some.inj ho
      clear ho
      simp only [actsD, List.getD_cons_zero, List.getD_cons_succ, List.foldl_cons, List.foldl_nil, Act.put, List.setIfInBounds_toArray, List.set_cons_succ, List.set_cons_zero]
      have hsz := hg.size
      have hgB : Below w4.heap.size w4 w' := hg.below (fun k hk => ⟨hk, fun o => by rintro ⟨j, _, _, _, hw⟩; exact False.elim hw⟩)
      go_wp2
      exact ⟨_, rfl, GrowC.refl _, rfl⟩
    | 3, _ =>
      obtain rfl := Option.some.inj ho
      clear ho
      simp only [actsD, List.getD_cons_zero, List.getD_cons_succ, List.foldl_cons, List.foldl_nil, Act.put, List.setIfInBounds_toArray, List.set_cons_succ, List.set_cons_zero]
      obtain ⟨_, _, _, h2⟩ := hp 2 (by simp)
      simp only [PMg5] at h2
      have hsz := hg.size
      have hgB : Below w4.heap.size w4 w' := hg.below (fun k hk => ⟨hk, fun o => by rintro ⟨j, _, _, _, hw⟩; exact False.elim hw⟩)
      rw [h2]
      go_wp2_with fail
      refine (cloneB_any _ m _ _ (HK.out.below (hB.trans (hgB.mono (by omega))) (Nat.le_refl _)) (Bs_one _) hm).mono ?_
      rintro e wz ⟨a1, c1, rfl, hc1, hk1, hb⟩
      go_wp2
      exact ⟨_, rfl, GrowC.of_grow hb, a1, c1, rfl, hc1, hk1.mono (fun k _ h => by omega)⟩
    | 4, _ =>
      obtain rfl := Option.some.inj ho
      clear ho
      simp only [actsD, List.getD_cons_zero, List.getD_cons_succ, List.foldl_cons, List.foldl_nil, Act.put, List.setIfInBounds_toArray, List.set_cons_succ, List.set_cons_zero]
      obtain ⟨_, _, _, h3⟩ := hp 3 (by simp)
      simp only [PMg5] at h3
      have hsz := hg.size
      have hgB : Below w4.heap.size w4 w' := hg.below (fun k hk => ⟨hk, fun o => by rintro ⟨j, _, _, _, hw⟩; exact False.elim hw⟩)
      obtain ⟨hz1, hz2, hz3, _⟩ := hp 3 (by simp)
      obtain ⟨a1, c1, h3, hc1, hk1⟩ := h3
      rw [h3]
      go_wp2_with fail
      refine (clipB_any a1 m c1 _ hc1).mono ?_
      rintro e wz ⟨rfl, rfl⟩
      go_wp2
      exact ⟨_, rfl, GrowC.refl _, a1, lo 3, hx_ 3, rfl, hz1, hz3, hk1.imp (fun _ h => h.cut (Nat.le_refl _))⟩
    | 5, _ =>
      obtain rfl := Option.some.inj ho
      clear ho
      simp only [actsD, List.getD_cons_zero, List.getD_cons_succ, List.foldl_cons, List.foldl_nil, Act.put, List.setIfInBounds_toArray, List.set_cons_succ, List.set_cons_zero]
      obtain ⟨_, _, _, h4⟩ := hp 4 (by simp)
      simp only [PMg5] at h4
      have hsz := hg.size
      have hgB : Below w4.heap.size w4 w' := hg.below (fun k hk => ⟨hk, fun o => by rintro ⟨j, _, _, _, hw⟩; exact False.elim hw⟩)
      obtain ⟨hz1, hz2, hz3, _⟩ := hp 4 (by simp)
      obtain ⟨a1, A, C, h4, hA, hC, hk1⟩ := h4
      rw [h4]
      have hbx := Box.new w' #[.slice a1 m m] 28 rfl
      go_wp2
      exact ⟨_, rfl, GrowC.of_grow ((Grow.refl _).alloc _), a1, A, C, rfl, by simp, hbx.cell 0 _ rfl, hA, by omega, hk1.grow (GrowX.of_grow ((Grow.refl _).alloc _))⟩
    | 6, _ =>
      obtain rfl := Option.some.inj ho
      clear ho
      simp only [actsD, List.getD_cons_zero, List.getD_cons_succ, List.foldl_cons, List.foldl_nil, Act.put, List.setIfInBounds_toArray, List.set_cons_succ, List.set_cons_zero]
      obtain ⟨_, _, _, h1⟩ := hp 1 (by simp)
      simp only [PMg5] at h1
      obtain ⟨_, _, _, h5⟩ := hp 5 (by simp)
      simp only [PMg5] at h5
      have hsz := hg.size
      have hgB : Below w4.heap.size w4 w' := hg.below (fun k hk => ⟨hk, fun o => by rintro ⟨j, _, _, _, hw⟩; exact False.elim hw⟩)
      obtain ⟨hz1, hz2, hz3, _⟩ := hp 5 (by simp)
      obtain ⟨a1, A, C, h5, hlt5, hc5, hA, hC, hk1⟩ := h5
      rw [h1, h5]
      go_wp2_with (first
        | (at_builtin; refine wpList_append_full sl_texts (.tmp 33) (.tmp 37) rfl rfl rfl (RXK.out.grow (GrowX.of_growC hg (by rintro k o ⟨j, _, _, _, hw⟩; exact False.elim hw))) (fun k h => by rcases h with h | h | h <;> omega) rfl (show Reads 1 w' (.slice (some ⟨_, 0, none⟩) 1 1) 1 [.slice a1 m m] from ⟨_, _, rfl, rfl, Nat.le_refl _, fun _ => ⟨_, 0, rfl, hlt5, fun j u hu => by cases j with | zero => simp at hu; subst hu; exact hc5 | succ j => simp at hu⟩⟩) (by intro u hu; simp at hu; subst hu; rfl) (by omega) (by omega) ?_; intro a4 c4 wz hle hgr hk ho))
      obtain ⟨gq, rfl, hgq, hown⟩ := ho (by omega)
      have hgz := hgr.size
      exact ⟨_, rfl, GrowC.of_grow hgr, gq, c4, a1, rfl, hle, by omega, own_base hown (by omega), (hk1.grow (GrowX.of_grow hgr)).mono (fun k _ h => by omega)⟩
    | (q + 7), hq => exact absurd hq (by omega)
  intro vS lo hi u5 hg hp hd
  obtain ⟨_, _, _, h0⟩ := hp 0 (by omega)
  obtain ⟨_, _, _, h1⟩ := hp 1 (by omega)
  obtain ⟨_, _, _, h2⟩ := hp 2 (by omega)
  obtain ⟨_, _, _, h3⟩ := hp 3 (by omega)
  obtain ⟨_, _, _, h4⟩ := hp 4 (by omega)
  obtain ⟨_, _, _, h5⟩ := hp 5 (by omega)
  obtain ⟨_, _, _, h6⟩ := hp 6 (by omega)
  simp only [PMg5] at h0 h1 h2 h3 h4 h5 h6
  clear hp hd
  have hsz := hg.size
  replace b7 := b7.grow hg (by intro i _; rintro ⟨j, _, hw⟩; exact False.elim hw)
  replace b8 := b8.grow hg (by intro i _; rintro ⟨j, _, hw⟩; exact False.elim hw)
  replace bc := bc.grow hg (by intro i _; rintro ⟨j, _, hw⟩; exact False.elim hw)
  replace hB := hB.trans (hg.below (fun k hk => ⟨by omega, fun o => by rintro ⟨j, _, hw⟩; exact False.elim hw⟩))
  have hr : List.range 7 = [0, 1, 2, 3, 4, 5, 6] := rfl
  rw [hr]
  clear hr
  simp only [List.drop_succ_cons, List.drop_zero, List.drop_nil, actsD, List.getD_cons_zero, List.getD_cons_succ, List.foldl_cons, List.foldl_nil, Act.put, List.setIfInBounds_toArray, List.set_cons_succ, List.set_cons_zero, h0, h1, h2]
  clear h0 h1 h2
  obtain ⟨kb, kc, a1, e6, hkc, hkb, hown, hka⟩ := h6
  simp only [e6]
  clear e6 h3 h4 h5
  generalize vS 3 = v3
  generalize vS 4 = v4
  generalize vS 5 = v5
  have c70 := b7.cell 0 _ rfl
  have c71 := b7.cell 1 _ rfl
  have c72 := b7.cell 2 _ rfl
  have c73 := b7.cell 3 _ rfl
  have c74 := b7.cell 4 _ rfl
  have f7 := b7.free
  go_wp2_with fail
  clear c70 c71 c72 c73 c74 f7
  refine wp_world (fun w6 => Box w6 g7 [.bool false, .slice (some ⟨kb, 0, none⟩) (nk + 1) kc, .slice p2 nv nv, .slice p3 nd nd, .int .i64 ln] ∧ GrowC (fun b o => b = g7 ∧ o = 1) u5 w6) (b7.set1 1 _) ?_
  clear b7
  rintro u6 ⟨b7, hgs⟩
  replace b8 := b8.grow hgs (by intros; omega)
  replace bc := bc.grow hgs (by intros; omega)
  replace hB := hB.trans (hgs.below (fun k hk => ⟨by omega, fun _ => by omega⟩))
  have HOWN := Lib.hid (own_growx (X := fun j => j = g7) hown (GrowX.of_growC hgs (fun _ _ h => h.1)) (by intro gg hh; simp [Value.ownBlock] at hh; omega))
  have hgsz := hgs.size
  have hkbl : kb < u6.heap.size := (HOWN.out.lt kb rfl).2
  replace hka := (hka.grow (GrowX.of_growC hgs (by omega))).mono (Y := fun k => k < w0.heap.size ∨ k = g7 ∨ k = g8 ∨ k = kb) (fun j _ h => by omega)
  have HKA := Lib.hid hka
  have hg45 : GrowX (fun j => (j < w0.heap.size ∨ j = g7 ∨ j = g8) ∨ w4.heap.size ≤ j) w4 u6 := (GrowX.of_growC hg (by rintro k o ⟨j, _, hw⟩; exact False.elim hw)).trans (GrowX.of_growC hgs (by omega))
  have hq := ((TXK.out.mono (Y := fun j => (j < w0.heap.size ∨ j = g7 ∨ j = g8) ∨ w4.heap.size ≤ j) (fun j h1 h2 => by omega)).grow hg45).mono (Y := fun k => k < w0.heap.size ∨ k = g7 ∨ k = g8 ∨ k = kb) (fun j _ h => by omega)
  clear TXK
  have TXK := Lib.hid hq
  clear hq
  have hq := ((RXV.out.mono (Y := fun j => (j < w0.heap.size ∨ j = g7 ∨ j = g8) ∨ w4.heap.size ≤ j) (fun j h1 h2 => by omega)).grow hg45).mono (Y := fun k => k < w0.heap.size ∨ k = g7 ∨ k = g8 ∨ k = kb) (fun j _ h => by omega)
  clear RXV
  have RXV := Lib.hid hq
  clear hq
  have hq := ((TXV.out.mono (Y := fun j => (j < w0.heap.size ∨ j = g7 ∨ j = g8) ∨ w4.heap.size ≤ j) (fun j h1 h2 => by omega)).grow hg45).mono (Y := fun k => k < w0.heap.size ∨ k = g7 ∨ k = g8 ∨ k = kb) (fun j _ h => by omega)
  clear TXV
  have TXV := Lib.hid hq
  clear hq
  have hq := ((RYK.out.mono (Y := fun j => (j < w0.heap.size ∨ j = g7 ∨ j = g8) ∨ w4.heap.size ≤ j) (fun j h1 h2 => by omega)).grow hg45).mono (Y := fun k => k < w0.heap.size ∨ k = g7 ∨ k = g8 ∨ k = kb) (fun j _ h => by omega)
  clear RYK
  have RYK := Lib.hid hq
  clear hq
  have hq := ((TYK.out.mono (Y := fun j => (j < w0.heap.size ∨ j = g7 ∨ j = g8) ∨ w4.heap.size ≤ j) (fun j h1 h2 => by omega)).grow hg45).mono (Y := fun k => k < w0.heap.size ∨ k = g7 ∨ k = g8 ∨ k = kb) (fun j _ h => by omega)
  clear TYK
  have TYK := Lib.hid hq
  clear hq
  have hq := ((RYV.out.mono (Y := fun j => (j < w0.heap.size ∨ j = g7 ∨ j = g8) ∨ w4.heap.size ≤ j) (fun j h1 h2 => by omega)).grow hg45).mono (Y := fun k => k < w0.heap.size ∨ k = g7 ∨ k = g8 ∨ k = kb) (fun j _ h => by omega)
  clear RYV
  have RYV := Lib.hid hq
  clear hq
  have hq := ((TYV.out.mono (Y := fun j => (j < w0.heap.size ∨ j = g7 ∨ j = g8) ∨ w4.heap.size ≤ j) (fun j h1 h2 => by omega)).grow hg45).mono (Y := fun k => k < w0.heap.size ∨ k = g7 ∨ k = g8 ∨ k = kb) (fun j _ h => by omega)
  clear TYV
  have TYV := Lib.hid hq
  clear hq
  have hq := ((RXD.out.mono (Y := fun j => (j < w0.heap.size ∨ j = g7 ∨ j = g8) ∨ w4.heap.size ≤ j) (fun j h1 h2 => by omega)).grow hg45).mono (Y := fun k => k < w0.heap.size ∨ k = g7 ∨ k = g8 ∨ k = kb) (fun j _ h => by omega)
  clear RXD
  have RXD := Lib.hid hq
  clear hq
  have hq := ((RYD.out.mono (Y := fun j => (j < w0.heap.size ∨ j = g7 ∨ j = g8) ∨ w4.heap.size ≤ j) (fun j h1 h2 => by omega)).grow hg45).mono (Y := fun k => k < w0.heap.size ∨ k = g7 ∨ k = g8 ∨ k = kb) (fun j _ h => by omega)
  clear RYD
  have RYD := Lib.hid hq
  clear hq
  clear hg hgs hka hown hg45 RXK
  have hg7' := b7.lt
  refine wp_region_partsDC (WMg6i (fun k => k < w0.heap.size ∨ k = g7 ∨ k = g8 ∨ k = kb) w4.heap.size g g7 g8 kb kc nk nv nd mk mv md p2 p3 q1 q2 q3 ln rn (xk ++ [.slice a1 m m]) yk xv yv x y) 16 [[], [0], [], [2], [0, 1, 2, 3], [], [5], [], [7], [0, 1, 2, 3, 4, 5, 6, 7, 8], [], [10], [], [12], [0, 1, 2, 3, 4, 5, 6, 7, 8, 9, 10, 11, 12, 13], [0, 1, 2, 3, 4, 5, 6, 10, 11]] [some 40, some 41, some 42, some 43, some 44, some 45, some 46, some 47, some 48, some 49, some 50, some 51, some 52, some 53, some 54, some 55, none, some 56, none, some 57, none] (by kernel_rfl) (by kernel_rfl) rfl (PMg6i (fun k => k < w0.heap.size ∨ k = g7 ∨ k = g8 ∨ k = kb) w4.heap.size g g7 g8 kb kc nk nv nd mk mv md p2 p3 q1 q2 q3 ln rn (xk ++ [.slice a1 m m]) yk xv yv x y) (PMg6i_stable (fun k => k < w0.heap.size ∨ k = g7 ∨ k = g8 ∨ k = kb) w4.heap.size g g7 g8 kb kc nk nv nd mk mv md p2 p3 q1 q2 q3 ln rn (xk ++ [.slice a1 m m]) yk xv yv x y (fun k h => .inr (.inr (.inr h)))) ?pMg6i ?_
  case pMg6i =>
    intro i hi o ho vs lo hx_ w' hg hp
    match i, hi with
    | 0, _ =>
      obtain rfl := Option.some.inj ho
      clear ho
      simp only [actsD, List.getD_cons_zero, List.getD_cons_succ, List.foldl_cons, List.foldl_nil, Act.put, List.setIfInBounds_toArray, List.set_cons_succ, List.set_cons_zero]
      have hsz := hg.size
      go_wp2
      exact ⟨_, rfl, GrowC.refl _, rfl⟩
    | 1, _ =>
      obtain rfl := Option.some.inj ho
      clear ho
      simp only [actsD, List.getD_cons_zero, List.getD_cons_succ, List.foldl_cons, List.foldl_nil, Act.put, List.setIfInBounds_toArray, List.set_cons_succ, List.set_cons_zero]
      obtain ⟨_, _, _, h0⟩ := hp 0 (by simp)
      simp only [PMg6i] at h0
      have hsz := hg.size
      rw [h0]
      have e0 := (hg.cell (g7) 1 b7.lt (by rintro ⟨j, _, hne, hb, hw⟩; simp only [WMg6i] at hw; omega)).trans (b7.cell 1 _ rfl)
      go_wp2
      exact ⟨_, rfl, GrowC.refl _, rfl⟩
    | 2, _ =>
      obtain rfl := Option.some.inj ho
      clear ho
      simp only [actsD, List.getD_cons_zero, List.getD_cons_succ, List.foldl_cons, List.foldl_nil, Act.put, List.setIfInBounds_toArray, List.set_cons_succ, List.set_cons_zero]
      have hsz := hg.size
      go_wp2
      exact ⟨_, rfl, GrowC.refl _, rfl⟩
    | 3, _ =>
      obtain rfl := Option.some.inj ho
      clear ho
      simp only [actsD, List.getD_cons_zero, List.getD_cons_succ, List.foldl_cons, List.foldl_nil, Act.put, List.setIfInBounds_toArray, List.set_cons_succ, List.set_cons_zero]
      obtain ⟨_, _, _, h2⟩ := hp 2 (by simp)
      simp only [PMg6i] at h2
      have hsz := hg.size
      rw [h2]
      have e0 := (hg.cell (g8) 1 b8.lt (by rintro ⟨j, _, hne, hb, hw⟩; simp only [WMg6i] at hw; omega)).trans (b8.cell 1 _ rfl)
      go_wp2
      exact ⟨_, rfl, GrowC.refl _, rfl⟩
    | 4, _ =>
      obtain rfl := Option.some.inj ho
      clear ho
      simp only [actsD, List.getD_cons_zero, List.getD_cons_succ, List.foldl_cons, List.foldl_nil, Act.put, List.setIfInBounds_toArray, List.set_cons_succ, List.set_cons_zero]
      obtain ⟨_, _, _, h1⟩ := hp 1 (by simp)
      simp only [PMg6i] at h1
      obtain ⟨_, _, _, h3⟩ := hp 3 (by simp)
      simp only [PMg6i] at h3
      have hsz := hg.size
      rw [h1, h3]
      have hown4 := own_growx (X := fun _ => False) HOWN.out (GrowX.of_growC hg (by rintro k o ⟨j, _, hj2, _, hw⟩; simp only [WMg6i] at hw; omega)) (fun _ _ h => h)
      go_wp2_with (first
        | (at_builtin; refine wpList_append_own3 sl_texts (.tmp 41) (.tmp 43) rfl rfl rfl hown4 rfl (RYK.out.grow (GrowX.of_growC hg (by rintro k o ⟨j, _, _, _, hw⟩; simp only [WMg6i] at hw; omega))).now (TYK.out.grow (GrowX.of_growC hg (by rintro k o ⟨j, _, _, _, hw⟩; simp only [WMg6i] at hw; omega))).now.one_cell (by omega) (by omega) (by omega) ?_; intro g4 c1 wz hle hgr hor hown))
      exact ⟨_, rfl, hgr.mono (fun k o e => by subst e; unfold WMg6i; exact ⟨rfl, rfl⟩), g4, c1, rfl, hle, hown⟩
    | 5, _ =>
      obtain rfl := Option.some.inj ho
      clear ho
      simp only [actsD, List.getD_cons_zero, List.getD_cons_succ, List.foldl_cons, List.foldl_nil, Act.put, List.setIfInBounds_toArray, List.set_cons_succ, List.set_cons_zero]
      have hsz := hg.size
      go_wp2
      exact ⟨_, rfl, GrowC.refl _, rfl⟩
    | 6, _ =>
      obtain rfl := Option.some.inj ho
      clear ho
      simp only [actsD, List.getD_cons_zero, List.getD_cons_succ, List.foldl_cons, List.foldl_nil, Act.put, List.setIfInBounds_toArray, List.set_cons_succ, List.set_cons_zero]
      obtain ⟨_, _, _, h5⟩ := hp 5 (by simp)
      simp only [PMg6i] at h5
      have hsz := hg.size
      rw [h5]
      have e0 := (hg.cell (g7) 2 b7.lt (by rintro ⟨j, _, hne, hb, hw⟩; simp only [WMg6i] at hw; omega)).trans (b7.cell 2 _ rfl)
      go_wp2
      exact ⟨_, rfl, GrowC.refl _, rfl⟩
    | 7, _ =>
      obtain rfl := Option.some.inj ho
      clear ho
      simp only [actsD, List.getD_cons_zero, List.getD_cons_succ, List.foldl_cons, List.foldl_nil, Act.put, List.setIfInBounds_toArray, List.set_cons_succ, List.set_cons_zero]
      have hsz := hg.size
      go_wp2
      exact ⟨_, rfl, GrowC.refl _, rfl⟩
    | 8, _ =>
      obtain rfl := Option.some.inj ho
      clear ho
      simp only [actsD, List.getD_cons_zero, List.getD_cons_succ, List.foldl_cons, List.foldl_nil, Act.put, List.setIfInBounds_toArray, List.set_cons_succ, List.set_cons_zero]
      obtain ⟨_, _, _, h7⟩ := hp 7 (by simp)
      simp only [PMg6i] at h7
      have hsz := hg.size
      rw [h7]
      have e0 := (hg.cell (g8) 2 b8.lt (by rintro ⟨j, _, hne, hb, hw⟩; simp only [WMg6i] at hw; omega)).trans (b8.cell 2 _ rfl)
      go_wp2
      exact ⟨_, rfl, GrowC.refl _, rfl⟩
    | 9, _ =>
      obtain rfl := Option.some.inj ho
      clear ho
      simp only [actsD, List.getD_cons_zero, List.getD_cons_succ, List.foldl_cons, List.foldl_nil, Act.put, List.setIfInBounds_toArray, List.set_cons_succ, List.set_cons_zero]
      obtain ⟨_, _, _, h6⟩ := hp 6 (by simp)
      simp only [PMg6i] at h6
      obtain ⟨_, _, _, h8⟩ := hp 8 (by simp)
      simp only [PMg6i] at h8
      have hsz := hg.size
      rw [h6, h8]
      go_wp2_with (first
        | (at_builtin; refine wpList_append_full sl_texts (.tmp 46) (.tmp 48) rfl rfl rfl (RXV.out.grow (GrowX.of_growC hg (by rintro k o ⟨j, _, _, _, hw⟩; simp only [WMg6i] at hw; omega))) (fun k h => by rcases h with h | h | h | h <;> omega) rfl (RYV.out.grow (GrowX.of_growC hg (by rintro k o ⟨j, _, _, _, hw⟩; simp only [WMg6i] at hw; omega))).now (TYV.out.grow (GrowX.of_growC hg (by rintro k o ⟨j, _, _, _, hw⟩; simp only [WMg6i] at hw; omega))).now.one_cell (by omega) (by omega) ?_; intro a1 c1 wz hle hgr hk _))
      exact ⟨_, rfl, GrowC.of_grow hgr, a1, c1, rfl, hle, hk⟩
    | 10, _ =>
      obtain rfl := Option.some.inj ho
      clear ho
      simp only [actsD, List.getD_cons_zero, List.getD_cons_succ, List.foldl_cons, List.foldl_nil, Act.put, List.setIfInBounds_toArray, List.set_cons_succ, List.set_cons_zero]
      have hsz := hg.size
      go_wp2
      exact ⟨_, rfl, GrowC.refl _, rfl⟩
    | 11, _ =>
      obtain rfl := Option.some.inj ho
      clear ho
      simp only [actsD, List.getD_cons_zero, List.getD_cons_succ, List.foldl_cons, List.foldl_nil, Act.put, List.setIfInBounds_toArray, List.set_cons_succ, List.set_cons_zero]
      obtain ⟨_, _, _, h10⟩ := hp 10 (by simp)
      simp only [PMg6i] at h10
      have hsz := hg.size
      rw [h10]
      have e0 := (hg.cell (g7) 3 b7.lt (by rintro ⟨j, _, hne, hb, hw⟩; simp only [WMg6i] at hw; omega)).trans (b7.cell 3 _ rfl)
      go_wp2
      exact ⟨_, rfl, GrowC.refl _, rfl⟩
    | 12, _ =>
      obtain rfl := Option.some.inj ho
      clear ho
      simp only [actsD, List.getD_cons_zero, List.getD_cons_succ, List.foldl_cons, List.foldl_nil, Act.put, List.setIfInBounds_toArray, List.set_cons_succ, List.set_cons_zero]
      have hsz := hg.size
      go_wp2
      exact ⟨_, rfl, GrowC.refl _, rfl⟩
    | 13, _ =>
      obtain rfl := Option.some.inj ho
      clear ho
      simp only [actsD, List.getD_cons_zero, List.getD_cons_succ, List.foldl_cons, List.foldl_nil, Act.put, List.setIfInBounds_toArray, List.set_cons_succ, List.set_cons_zero]
      obtain ⟨_, _, _, h12⟩ := hp 12 (by simp)
      simp only [PMg6i] at h12
      have hsz := hg.size
      rw [h12]
      have e0 := (hg.cell (g8) 3 b8.lt (by rintro ⟨j, _, hne, hb, hw⟩; simp only [WMg6i] at hw; omega)).trans (b8.cell 3 _ rfl)
      go_wp2
      exact ⟨_, rfl, GrowC.refl _, rfl⟩
    | 14, _ =>
      obtain rfl := Option.some.inj ho
      clear ho
      simp only [actsD, List.getD_cons_zero, List.getD_cons_succ, List.foldl_cons, List.foldl_nil, Act.put, List.setIfInBounds_toArray, List.set_cons_succ, List.set_cons_zero]
      obtain ⟨_, _, _, h11⟩ := hp 11 (by simp)
      simp only [PMg6i] at h11
      obtain ⟨_, _, _, h13⟩ := hp 13 (by simp)
      simp only [PMg6i] at h13
      have hsz := hg.size
      rw [h11, h13]
      go_wp2_with (first
        | (at_builtin; refine wpList_append_full sl_ints (.tmp 51) (.tmp 53) rfl rfl rfl (RXD.out.grow (GrowX.of_growC hg (by rintro k o ⟨j, _, _, _, hw⟩; simp only [WMg6i] at hw; omega))) (fun k h => by rcases h with h | h | h | h <;> omega) rfl (RYD.out.grow (GrowX.of_growC hg (by rintro k o ⟨j, _, _, _, hw⟩; simp only [WMg6i] at hw; omega))).now (Is_one _) (by omega) (by omega) ?_; intro a1 c1 wz hle hgr hk _))
      exact ⟨_, rfl, GrowC.of_grow hgr, a1, c1, rfl, hle, hk⟩
    | 15, _ =>
      obtain rfl := Option.some.inj ho
      clear ho
      simp only [actsD, List.getD_cons_zero, List.getD_cons_succ, List.foldl_cons, List.foldl_nil, Act.put, List.setIfInBounds_toArray, List.set_cons_succ, List.set_cons_zero]
      have hsz := hg.size
      go_wp2
      exact ⟨_, rfl, GrowC.refl _, rfl⟩
    | (q + 16), hq => exact absurd hq (by omega)
  intro vS lo hi w5 hg hp hd
  obtain ⟨_, _, _, h0⟩ := hp 0 (by omega)
  obtain ⟨_, _, _, h1⟩ := hp 1 (by omega)
  obtain ⟨_, _, _, h2⟩ := hp 2 (by omega)
  obtain ⟨_, _, _, h3⟩ := hp 3 (by omega)
  obtain ⟨_, _, _, h4⟩ := hp 4 (by omega)
  obtain ⟨_, _, _, h5⟩ := hp 5 (by omega)
  obtain ⟨_, _, _, h6⟩ := hp 6 (by omega)
  obtain ⟨_, _, _, h7⟩ := hp 7 (by omega)
  obtain ⟨_, _, _, h8⟩ := hp 8 (by omega)
  obtain ⟨_, _, _, h9⟩ := hp 9 (by omega)
  obtain ⟨_, _, _, h10⟩ := hp 10 (by omega)
  obtain ⟨_, _, _, h11⟩ := hp 11 (by omega)
  obtain ⟨_, _, _, h12⟩ := hp 12 (by omega)
  obtain ⟨_, _, _, h13⟩ := hp 13 (by omega)
  obtain ⟨_, _, _, h14⟩ := hp 14 (by omega)
  obtain ⟨_, _, _, h15⟩ := hp 15 (by omega)
  simp only [PMg6i] at h0 h1 h2 h3 h4 h5 h6 h7 h8 h9 h10 h11 h12 h13 h14 h15
  clear hp hd
  have hsz := hg.size
  replace b7 := b7.grow hg (by intro i _; rintro ⟨j, _, hw⟩; simp only [WMg6i] at hw; omega)
  replace b8 := b8.grow hg (by intro i _; rintro ⟨j, _, hw⟩; simp only [WMg6i] at hw; omega)
  replace bc := bc.grow hg (by intro i _; rintro ⟨j, _, hw⟩; simp only [WMg6i] at hw; omega)
  replace hB := hB.trans (hg.below (fun k hk => ⟨by omega, fun o => by rintro ⟨j, _, hw⟩; simp only [WMg6i] at hw; omega⟩))
  have hr : List.range 16 = [0, 1, 2, 3, 4, 5, 6, 7, 8, 9, 10, 11, 12, 13, 14, 15] := rfl
  rw [hr]
  clear hr
  simp only [List.drop_succ_cons, List.drop_zero, List.drop_nil, actsD, List.getD_cons_zero, List.getD_cons_succ, List.foldl_cons, List.foldl_nil, Act.put, List.setIfInBounds_toArray, List.set_cons_succ, List.set_cons_zero, h0, h1, h2, h3, h5, h6, h7, h8, h10, h11, h12, h13, h15]
  clear h0 h1 h2 h3 h5 h6 h7 h8 h10 h11 h12 h13 h15
  obtain ⟨g4, c4, e4, hc4, hown4⟩ := h4
  obtain ⟨a4, ha4⟩ : ∃ a : Option Addr, some ⟨g4, 0, none⟩ = a := ⟨_, rfl⟩
  rw [ha4] at e4 hown4
  obtain ⟨a9, c9, e9, hc9, hk9⟩ := h9
  obtain ⟨a14, c14, e14, hc14, hk14⟩ := h14
  simp only [e4, e9, e14]
  clear e4 e9 e14 ha4
  have hgq : GrowX (fun k => k < w0.heap.size ∨ k = g7 ∨ k = g8 ∨ k = kb) u6 w5 := GrowX.of_growC hg (by rintro k o ⟨j, _, hw⟩; simp only [WMg6i] at hw; omega)
  have htx := TXK.out.grow hgq
  have hty := TYK.out.grow hgq
  have hvx := TXV.out.grow hgq
  have hvy := TYV.out.grow hgq
  have hka5 : Kept (fun k => k < w0.heap.size ∨ k = g7 ∨ k = g8) w5 (fun w2 => Reads 1 w2 (.slice a1 m m) m (l.map B)) := HKA.out.grow hgq |>.mono (fun k _ h => by omega)
  replace hk14 := hk14.mono (Y := fun k => k < w0.heap.size ∨ k = g7 ∨ k = g8) (fun k _ h => by omega)
  have hkk0 := (((own_kept hown4).mono (Y := fun k => k < w0.heap.size ∨ k = g7 ∨ k = g8) (fun k _ h => by omega)).and ((htx.mono (Y := fun k => k < w0.heap.size ∨ k = g7 ∨ k = g8) (fun k _ h => by omega)).and hka5)).and (hty.mono (Y := fun k => k < w0.heap.size ∨ k = g7 ∨ k = g8) (fun k _ h => by omega))
  have hkk := hkk0.imp (q := fun w => (Reads 1 w (.slice a4 (nk + 1 + mk) c4) (nk + 1 + mk) ((xk ++ [.slice a1 m m]) ++ yk) ∧ TextsAt w (xk ++ [.slice a1 m m]) (x.keys ++ [l])) ∧ TextsAt w yk y.keys) (fun w h => ⟨⟨h.1.1, h.1.2.1.append (TextsAt.one (by rw [HML.out]; exact h.1.2.2))⟩, h.2⟩)
  have hkv := ((hk9.mono (Y := fun k => k < w0.heap.size ∨ k = g7 ∨ k = g8) (fun k _ h => by omega)).and (hvx.mono (Y := fun k => k < w0.heap.size ∨ k = g7 ∨ k = g8) (fun k _ h => by omega))).and (hvy.mono (Y := fun k => k < w0.heap.size ∨ k = g7 ∨ k = g8) (fun k _ h => by omega))
  have hsz5 := hg.size
  clear hg hk9 hkk0 htx hty hvx hvy hka5 hown4 hgq
  have c70 := b7.cell 0 _ rfl
  have c71 := b7.cell 1 _ rfl
  have c72 := b7.cell 2 _ rfl
  have c73 := b7.cell 3 _ rfl
  have c74 := b7.cell 4 _ rfl
  have f7 := b7.free
  have c80 := b8.cell 0 _ rfl
  have c81 := b8.cell 1 _ rfl
  have c82 := b8.cell 2 _ rfl
  have c83 := b8.cell 3 _ rfl
  have c84 := b8.cell 4 _ rfl
  have f8 := b8.free
  go_wp2_with fail
  refine calls_world (fun w6 => GrowC (fun b _ => b = g7) w5 w6) (((((GrowC.refl w5).setCell (X := fun b _ => b = g7) rfl b7.lt _).setCell (X := fun b _ => b = g7) rfl b7.lt _).setCell (X := fun b _ => b = g7) rfl b7.lt _).setCell (X := fun b _ => b = g7) rfl b7.lt _) ?_
  intro w6 hg
  have hks := (hkk.and hkv).and hk14
  replace hks := hks.grow (GrowX.of_growC hg (by omega))
  replace bc := bc.grow hg (by intros; omega)
  replace hB := hB.trans (hg.below (fun k hk => ⟨by omega, fun _ => by omega⟩))
  have hsz6 := hg.size
  clear hg hkk hkv hk14 c70 c80 c71 c81 c72 c82 c73 c83 c74 c84 f7 f8 b7 b8 hkx hky
  refine (clip_any false rn a4 a9 a14 (nk + 1 + mk) (nv + mv) (nd + md) c4 c9 c14 _ hc4 hc9 hc14).mono ?_
  rintro e w7 ⟨rfl, hb⟩
  replace bc := bc.below hb (Nat.le_refl _)
  replace hks := hks.grow (GrowX.of_grow hb)
  replace hB := hB.trans (hb.mono (by omega))
  have hsz7 := hb.size
  clear hb
  obtain ⟨_, hgc⟩ := bc.set5 (.bool false) (.slice a4 (nk + 1 + mk) (nk + 1 + mk)) (.slice a9 (nv + mv) (nv + mv)) (.slice a14 (nd + md) (nd + md)) (.int .i64 rn)
  have hKK := hks.grow (GrowX.of_growC hgc (by intro k o e; left; omega))
  have hBB := hB.trans (hgc.below (fun k hk => ⟨by omega, fun _ => by omega⟩))
  clear hgc hB hks
  have cc0 := bc.cell 0 _ rfl
  have cc1 := bc.cell 1 _ rfl
  have cc2 := bc.cell 2 _ rfl
  have cc3 := bc.cell 3 _ rfl
  have cc4 := bc.cell 4 _ rfl
  have fc := bc.free
  go_wp2
  refine bodyPost_ret (v := .agg #[.bool false, .slice a4 (nk + 1 + mk) (nk + 1 + mk), .slice a9 (nv + mv) (nv + mv), .slice a14 (nd + md) (nd + md), .int .i64 rn]) (by simp [results, Try.results12, go_sem, cc0, cc1, cc2, cc3, cc4]) rfl ?_
  have eK : (x.keys ++ [l] ++ y.keys).length = nk + 1 + mk := by simp only [List.length_append, List.length_singleton, HXK.out, HYK.out]
  have eV : (x.vals ++ y.vals).length = nv + mv := by rw [List.length_append, HXV.out, HYV.out]
  have eD : (x.kids ++ y.kids).length = nd + md := by rw [List.length_append, HXD.out, HYD.out]
  have hgw0 : w.heap.size ≤ w0.heap.size := by omega
  refine ⟨a4, a9, a14, ?_, ?_, hBB⟩
  · simp only [nodeV, eK, eV, eD]
  · simp only [eK, eV, eD]
    refine (hKK.mono (fun k _ h => .inl (Nat.lt_of_lt_of_le h hgw0))).imp (fun w8 h => ⟨?_, ?_, ?_⟩)
    · exact ⟨xk ++ [.slice a1 m m] ++ yk, by rw [eK]; exact h.1.1.1.1.cut (Nat.le_refl _), h.1.1.1.2.append h.1.1.2⟩
    · exact ⟨xv ++ yv, by rw [eV]; exact h.1.2.1.1.cut (Nat.le_refl _), h.1.2.1.2.append h.1.2.2⟩
    · show Reads 1 _ _ (x.kids ++ y.kids).length ((x.kids ++ y.kids).map I)
      rw [eD, List.map_append]
      exact h.2.cut (Nat.le_refl _)
end Go.Proofs.Ytfbblgcdggpehaa

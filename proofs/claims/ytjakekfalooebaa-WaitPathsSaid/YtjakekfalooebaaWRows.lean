/- Two rows of the call's own that grow in turn; slices.Contains and slices.Sort at ints. Conditions: none. -/
import Derived.Test.YtjakekfalooebaaWEdge
import Derived.Test.YtjakekfalooebaaShelf
import Derived.Sort.OwnSortedInts
namespace Go.Proofs.Ytjakekfalooebaa
set_option linter.unusedSimpArgs false
set_option linter.unusedVariables false
open Go.RowKit

structure R2 (G : Nat) (ea eb : TypeId) (u : World) (va vb : Value) (na : Nat) (xs : List Value) (nb : Nat) (zs : List Value) : Prop where
  a : u.ownsRow G ea 1 va na xs
  b : u.ownsRow G eb 1 vb nb zs
  ne : ∀ q, va.ownBlock = some q → vb.ownBlock ≠ some q
  le : G ≤ u.heap.size

theorem R2.below {G : Nat} {ea eb : TypeId} {u u' : World} {va vb : Value} {na nb : Nat} {xs zs : List Value} (h : R2 G ea eb u va vb na xs nb zs) (hb : Below u.heap.size u u') : R2 G ea eb u' va vb na xs nb zs :=
  ⟨own_below h.a hb (fun g e => (h.a.lt g e).2), own_below h.b hb (fun g e => (h.b.lt g e).2), h.ne, Nat.le_trans h.le hb.size⟩

theorem R2.alloc {G : Nat} {ea eb : TypeId} {u : World} {va vb : Value} {na nb : Nat} {xs zs : List Value} (h : R2 G ea eb u va vb na xs nb zs) (o : Obj) : R2 G ea eb (u.alloc o) va vb na xs nb zs :=
  h.below ((Below.refl _ _).alloc (Nat.le_refl _) o)

theorem R2.swap {G : Nat} {ea eb : TypeId} {u : World} {va vb : Value} {na nb : Nat} {xs zs : List Value} (h : R2 G ea eb u va vb na xs nb zs) : R2 G eb ea u vb va nb zs na xs :=
  ⟨h.b, h.a, fun q e1 e2 => h.ne q e2 e1, h.le⟩

theorem growX_of_grownBy {u u' : World} {v : Value} (hgr : u.grownBy u' v.ownBlock) : GrowX (fun q => v.ownBlock = some q) u u' :=
  ⟨hgr.os, hgr.tape, hgr.output, hgr.size, fun b hb hx => hgr.block b hb (fun e => hx e.symm)⟩

/-- the first row has grown -/
theorem R2.addA {G : Nat} {ea eb : TypeId} {u u' : World} {va vb : Value} {na nb : Nat} {xs zs : List Value} (h : R2 G ea eb u va vb na xs nb zs)
    {g3 n3 c3 na' : Nat} {xs' : List Value} (hgr : u.grownBy u' va.ownBlock) (hor : va.ownBlock = some g3 ∨ u.heap.size ≤ g3)
    (hown : u'.ownsRow G ea 1 (.slice (some ⟨g3, 0, none⟩) n3 c3) na' xs') : R2 G ea eb u' (.slice (some ⟨g3, 0, none⟩) n3 c3) vb na' xs' nb zs := by
  have hX := growX_of_grownBy hgr
  refine ⟨hown, own_growx h.b hX (fun q e e2 => h.ne q e2 e), ?_, Nat.le_trans h.le hX.size⟩
  intro q e1 e2
  have : g3 = q := by simpa [Value.ownBlock] using e1
  subst this
  rcases hor with e | e
  · exact h.ne _ e e2
  · have := (h.b.lt _ e2).2; omega

theorem hasB_contains (L : List Int) (x : Int) : L.contains x = hasB L x := by
  rw [Bool.eq_iff_iff, hasB_true, List.contains_iff_mem]

/-- slices.Contains -/
theorem contains_any (L : List Int) (v : Value) (n : Nat) (hn : n ≤ 1152921504606846976) (hl : L.length = n) (x : Int) (w : World) (hv : Reads 1 w v n (L.map (Value.int .i64))) :
    Calls Try.prog 21 #[v, .int .i64 x] w fun e w' => e = .returned (.bool (hasB L x)) ∧ w = w' := by
  obtain ⟨ao, c, rfl⟩ := hv.shape
  rcases Nat.eq_zero_or_pos n with e | e
  · subst e
    obtain rfl : L = [] := List.eq_nil_of_length_eq_zero hl
    exact (Try.slices_Contains_int_empty ao c x w).mono fun e w' ⟨h1, h2⟩ => ⟨h1, h2.symm⟩
  · obtain ⟨_, _, b, o, rfl, hb, hc⟩ := hv.some_addr e
    refine (Try.slices_Contains_int b o n c L x w (Nat.le_of_eq hl.symm) (by omega) (fun j hj => ?_)).mono fun e w' ⟨h1, h2⟩ => ⟨?_, h2.symm⟩
    · exact hc j _ (by rw [List.getElem?_map, List.getElem?_eq_getElem hj, List.getD_eq_getElem?_getD, List.getElem?_eq_getElem hj]; rfl)
    · rw [h1, List.take_of_length_le (Nat.le_of_eq hl), hasB_contains]

/-- what a sort leaves -/
def SortEnd (L : List Int) (v : Value) (n base e : Nat) (W0 : World) (r : Ending) (w' : World) : Prop :=
  ∃ c : List Int, r = .returned (.tuple #[]) ∧ c.Perm L ∧ c.Pairwise (· ≤ ·) ∧ w'.ownsRow base e 1 v n (c.map (Value.int .i64)) ∧ Below base W0 w'

/-- slices.Sort of a row of the call's own -/
theorem sort_any (L : List Int) (v : Value) (n base e : Nat) (hn : n ≤ 1152921504606846976) (W0 w : World) (hown : w.ownsRow base e 1 v n (L.map (Value.int .i64))) (hbel : Below base W0 w) :
    Calls Try.prog 22 #[v] w (SortEnd L v n base e W0) := by
  have hl : L.length = n := by simpa using hown.1
  rcases hown.2 with ⟨rfl, h0⟩ | ⟨g, cap, cur, rfl, hb, hg, hnc, hcm, hcs, ht⟩
  · obtain rfl : n = 0 := h0
    obtain rfl : L = [] := List.eq_nil_of_length_eq_zero hl
    refine (Try.slices_Sort_int_none none 0 w).mono ?_
    rintro r w' ⟨rfl, rfl⟩
    exact ⟨[], rfl, List.Perm.refl _, List.Pairwise.nil, World.ownsRow_nil _ _ _ _, hbel⟩
  · subst hl
    have hlt : g < w.heap.size := (Array.getElem?_eq_some_iff.1 hg).1
    have hH := Go.holds_of_blockI (ss := L) hg (by simpa using ht)
    refine (Try.slices_Sort_int g 0 cap L w hH hlt (by omega)).mono ?_
    rintro r w' ⟨rfl, q, os, rfl⟩
    refine ⟨L.mergeSort fun x y => decide (x ≤ y), rfl, List.mergeSort_perm _ _, ?_, ?_, ?_⟩
    · have := List.pairwise_mergeSort (le := fun x y : Int => decide (x ≤ y)) (by intro a b c h1 h2; simp at *; omega) (by intro a b; simp; omega) L
      exact this.imp (fun h => by simpa using h)
    · exact Go.ownsRow_sortedI (ss := L) (List.length_mergeSort _) hb hg hnc hcm (by omega)
    · have := Go.grownBy_sortedI (w := w) (g := g) (n := q) (os := os) (L.mergeSort fun x y => decide (x ≤ y)).toArray
      exact hbel.trans ⟨this.os, this.tape, this.output, this.size, fun k hk => by
        exact this.block k (by omega) (by intro e; injection e with e; omega)⟩
end Go.Proofs.Ytjakekfalooebaa

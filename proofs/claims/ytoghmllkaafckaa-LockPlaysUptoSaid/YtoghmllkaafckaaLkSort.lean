/- slices.Sort, slices.Compact, slices.Clip at ints, slices.Clip at wants. Conditions: fewer than 2^60 elements. -/
import Derived.Test.YtoghmllkaafckaaLkIdx
import Derived.Sort.OwnSortedInts
namespace Go.Proofs.Ytoghmllkaafckaa
set_option linter.unusedSimpArgs false
set_option linter.unusedVariables false
open Go.RowKit

/-- what a sort leaves -/
def SortEnd (L : List Int) (v : Value) (n base e : Nat) (W0 : World) (r : Ending) (w' : World) : Prop :=
  ∃ c : List Int, r = .returned (.tuple #[]) ∧ c.Perm L ∧ c.Pairwise (· ≤ ·) ∧ w'.ownsRow base e 1 v n (c.map (Value.int .i64)) ∧ Below base W0 w'

/-- slices.Sort of a row of the call's own -/
theorem sort_any (L : List Int) (v : Value) (n base e : Nat) (hn : n ≤ 1152921504606846976) (W0 w : World) (hown : w.ownsRow base e 1 v n (L.map (Value.int .i64))) (hbel : Below base W0 w) :
    Calls Try.prog 37 #[v] w (SortEnd L v n base e W0) := by
  have hl : L.length = n := by simpa using hown.1
  rcases hown.2 with ⟨rfl, h0⟩ | ⟨g, cap, cur, rfl, hb, hg, hnc, hcm, hcs, ht⟩
  · obtain rfl : n = 0 := h0
    obtain rfl : L = [] := List.eq_nil_of_length_eq_zero hl
    refine (Try.slices_Sort_int_none none 0 w).mono ?_
    rintro r w' ⟨rfl, rfl⟩
    exact ⟨[], rfl, List.Perm.refl _, List.Pairwise.nil, World.ownsRow_nil _ _ _ _, hbel⟩
  · subst hl
    have hlt : g < w.heap.size := (Array.getElem?_eq_some_iff.1 hg).1
    have hH := Go.holds_of_blockI (ss := L) hg (by simpa using ht)
    refine (Try.slices_Sort_int g 0 cap L w hH hlt (by omega)).mono ?_
    rintro r w' ⟨rfl, q, os, rfl⟩
    refine ⟨L.mergeSort fun x y => decide (x ≤ y), rfl, List.mergeSort_perm _ _, ?_, ?_, ?_⟩
    · have := List.pairwise_mergeSort (le := fun x y : Int => decide (x ≤ y)) (by intro a b c h1 h2; simp at *; omega) (by intro a b; simp; omega) L
      exact this.imp (fun h => by simpa using h)
    · exact Go.ownsRow_sortedI (ss := L) (List.length_mergeSort _) hb hg hnc hcm (by omega)
    · have := Go.grownBy_sortedI (w := w) (g := g) (n := q) (os := os) (L.mergeSort fun x y => decide (x ≤ y)).toArray
      exact hbel.trans ⟨this.os, this.tape, this.output, this.size, fun k hk => by
        exact this.block k (by omega) (by intro e; injection e with e; omega)⟩

theorem compact_spec (zs : List Int) (hs : zs.Pairwise (· ≤ ·)) : (Lib.compact zs).Pairwise (· < ·) ∧ ∀ x, x ∈ Lib.compact zs ↔ x ∈ zs := by
  have hle : ∀ i j, i ≤ j → j < zs.length → zs.toArray[i]! ≤ zs.toArray[j]! := by
    intro i j hij hj
    rcases Nat.lt_or_eq_of_le hij with h | h
    · rw [getElem!_pos zs.toArray i (by simp; omega), getElem!_pos zs.toArray j (by simpa using hj)]
      exact List.pairwise_iff_getElem.1 hs i j (by omega) hj h
    · subst h; exact Int.le_refl _
  have key : ∀ m, m ≤ zs.length → (Lib.compactUpTo zs.toArray m).Pairwise (· < ·) ∧ (∀ x, x ∈ Lib.compactUpTo zs.toArray m ↔ ∃ j, j < m ∧ x = zs.toArray[j]!) := by
    intro m
    induction m with
    | zero => intro _; exact ⟨by simp [Lib.compactUpTo], fun x => by simp [Lib.compactUpTo]⟩
    | succ m ih =>
      intro hm
      obtain ⟨h1, h2⟩ := ih (by omega)
      rw [Lib.compactUpTo_succ]
      by_cases hk : Lib.keeps zs.toArray m = true
      · rw [if_pos hk]
        refine ⟨?_, fun x => ?_⟩
        · rw [List.pairwise_append]
          refine ⟨h1, List.pairwise_singleton _ _, fun a ha b hb => ?_⟩
          rw [List.mem_singleton] at hb
          subst hb
          obtain ⟨j, hj, rfl⟩ := (h2 a).1 ha
          simp only [Lib.keeps, decide_eq_true_eq] at hk
          have hk' : zs.toArray[m]! ≠ zs.toArray[m - 1]! := hk.resolve_left (by omega)
          have e1 := hle j (m - 1) (by omega) (by omega)
          have e2 := hle (m - 1) m (by omega) (by omega)
          omega
        · rw [List.mem_append, List.mem_singleton, h2]
          constructor
          · rintro (⟨j, hj, rfl⟩ | rfl)
            · exact ⟨j, by omega, rfl⟩
            · exact ⟨m, by omega, rfl⟩
          · rintro ⟨j, hj, rfl⟩
            rcases Nat.lt_or_eq_of_le (Nat.le_of_lt_succ hj) with h | rfl
            · exact .inl ⟨j, h, rfl⟩
            · exact .inr rfl
      · rw [if_neg hk, List.append_nil]
        refine ⟨h1, fun x => ?_⟩
        rw [h2]
        simp only [Lib.keeps, decide_eq_true_eq] at hk
        have hm0 : m ≠ 0 := fun e => hk (.inl e)
        have he : zs.toArray[m]! = zs.toArray[m - 1]! := Classical.not_not.1 (fun e => hk (.inr e))
        constructor
        · rintro ⟨j, hj, rfl⟩; exact ⟨j, by omega, rfl⟩
        · rintro ⟨j, hj, rfl⟩
          rcases Nat.lt_or_eq_of_le (Nat.le_of_lt_succ hj) with h | rfl
          · exact ⟨j, h, rfl⟩
          · exact ⟨j - 1, by omega, he⟩
  obtain ⟨h1, h2⟩ := key zs.length (Nat.le_refl _)
  refine ⟨h1, fun x => ?_⟩
  unfold Lib.compact
  rw [h2]
  constructor
  · rintro ⟨j, hj, rfl⟩
    rw [getElem!_pos zs.toArray j (by simpa using hj)]
    simp
  · intro hx
    obtain ⟨j, hj, rfl⟩ := List.getElem_of_mem hx
    exact ⟨j, hj, by rw [getElem!_pos zs.toArray j (by simpa using hj)]; simp⟩

/-- what slices.Compact leaves of a rising row -/
def CompactEnd (L : List Int) (base : Nat) (W0 : World) (r : Ending) (w' : World) : Prop :=
  ∃ (c : List Int) (ao : Option Addr) (m cap : Nat), r = .returned (.slice ao m cap) ∧ c.length = m ∧ m ≤ L.length ∧ m ≤ cap ∧ c.Pairwise (· < ·) ∧ (∀ x, x ∈ c ↔ x ∈ L) ∧ Reads 1 w' (.slice ao m cap) m (c.map (Value.int .i64)) ∧ Below base W0 w'

theorem Reads.prefix {w : World} {K n m c : Nat} {ao : Option Addr} {xs ys : List Value} (h : Reads K w (.slice ao n c) n (xs ++ ys)) (hm : m ≤ n) (hl : xs.length = m * K) : Reads K w (.slice ao m c) m xs := by
  obtain ⟨a, c', e, hl2, hc, hr⟩ := h
  injection e with e1 e2 e3
  subst e1 e3
  refine ⟨ao, c, rfl, hl, by omega, fun h0 => ?_⟩
  obtain ⟨b, o, rfl, hb, hcell⟩ := hr (by omega)
  refine ⟨b, o, rfl, hb, fun j u hj => hcell j u ?_⟩
  rw [List.getElem?_append_left (List.getElem?_eq_some_iff.1 hj).1]
  exact hj

theorem compact_any (L : List Int) (v : Value) (n base e : Nat) (hn : n ≤ 1152921504606846976) (W0 w : World) (hs : L.Pairwise (· ≤ ·)) (hown : w.ownsRow base e 1 v n (L.map (Value.int .i64))) (hbel : Below base W0 w) :
    Calls Try.prog 39 #[v] w (CompactEnd L base W0) := by
  have hl : L.length = n := by simpa using hown.1
  obtain ⟨hp, hm⟩ := compact_spec L hs
  rcases hown.2 with ⟨rfl, h0⟩ | ⟨g, cap, cur, rfl, hb, hg, hnc, hcm, hcs, ht⟩
  · obtain rfl : n = 0 := h0
    obtain rfl : L = [] := List.eq_nil_of_length_eq_zero hl
    refine (Try.slices_Compact_int_empty none 0 w).mono ?_
    rintro r w' ⟨rfl, rfl⟩
    exact ⟨[], none, 0, 0, rfl, rfl, Nat.le_refl _, Nat.le_refl _, List.Pairwise.nil, fun _ => Iff.rfl, Reads.empty, hbel⟩
  · subst hl
    have hlt : g < w.heap.size := (Array.getElem?_eq_some_iff.1 hg).1
    have hH := Go.holds_of_blockI (ss := L) hg (by simpa using ht)
    have hle := Lib.compact_length_le L
    refine (Try.slices_Compact_int g 0 cap L w hH (by omega) hnc).mono ?_
    rintro r w' ⟨rfl, q, hw⟩
    have hw2 : w' = Go.Sort.grow (Go.Sort.putRow (Value.int .i64) (Go.Sort.ahead w q) g 0 (Lib.compact L ++ List.replicate (L.length - (Lib.compact L).length) 0).toArray) #[] := by
      rw [hw]; unfold Go.Sort.grow; rw [Array.append_empty]
    have hlen : (Lib.compact L ++ List.replicate (L.length - (Lib.compact L).length) 0).length = L.length := by simp; omega
    have hown2 := Go.ownsRow_sortedI (w := w) (n := q) (os := #[]) (ss := L) hlen hb hg hnc hcm (by omega)
    rw [← hw2] at hown2
    have hgr := Go.grownBy_sortedI (w := w) (g := g) (n := q) (os := #[]) (Lib.compact L ++ List.replicate (L.length - (Lib.compact L).length) 0).toArray
    rw [← hw2] at hgr
    have hrd := Reads.of_own hown2
    rw [List.map_append] at hrd
    refine ⟨Lib.compact L, _, _, cap, rfl, rfl, hle, by omega, hp, hm, hrd.prefix hle (by simp), ?_⟩
    exact hbel.trans ⟨hgr.os, hgr.tape, hgr.output, hgr.size, fun k hk => hgr.block k (by omega) (by intro e; injection e with e; omega)⟩

theorem clipI_any (ao : Option Addr) (n cap : Nat) (w : World) (h : n ≤ cap) : Calls Try.prog 38 #[.slice ao n cap] w fun e w' => e = .returned (.slice ao n n) ∧ w = w' := by
  by_cases h0 : n = 0
  · subst h0
    go_enter Try.func38, Try.ntmps38
    go_wp2
    go_ret
    exact ⟨rfl, rfl⟩
  · go_enter Try.func38, Try.ntmps38
    go_wp2
    go_ret
    exact ⟨rfl, rfl⟩
theorem clipW_any (ao : Option Addr) (n cap : Nat) (w : World) (h : n ≤ cap) : Calls Try.prog 35 #[.slice ao n cap] w fun e w' => e = .returned (.slice ao n n) ∧ w = w' := by
  by_cases h0 : n = 0
  · subst h0
    go_enter Try.func35, Try.ntmps35
    go_wp2
    go_ret
    exact ⟨rfl, rfl⟩
  · go_enter Try.func35, Try.ntmps35
    go_wp2
    go_ret
    exact ⟨rfl, rfl⟩
end Go.Proofs.Ytoghmllkaafckaa

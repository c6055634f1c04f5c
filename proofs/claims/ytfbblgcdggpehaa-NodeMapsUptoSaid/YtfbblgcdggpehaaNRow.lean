/- Parts of slices that read so; a row that is put together anew. Conditions: none. -/
import Derived.Test.YtfbblgcdggpehaaNPutP
import Derived.Test.YtfbblgcdggpehaaPartsV
namespace Go.Proofs.Ytfbblgcdggpehaa
set_option linter.unusedSimpArgs false
set_option linter.unusedVariables false
open Go.RowKit

theorem Reads.take1 {w : World} {ao : Option Addr} {n cap k : Nat} {xs : List Value} (h : Reads 1 w (.slice ao n cap) n xs) (hk : k ≤ n) : Reads 1 w (.slice ao k cap) k (xs.take k) := by
  obtain ⟨ao', cap', he, hl, hle, hr⟩ := h
  injection he with h1 _ h3
  subst h1 h3
  refine ⟨_, _, rfl, by rw [List.length_take, hl]; omega, by omega, fun hpos => ?_⟩
  obtain ⟨b, o, rfl, hlt, hcell⟩ := hr (by omega)
  refine ⟨b, o, rfl, hlt, fun j u hu => ?_⟩
  rw [List.getElem?_take] at hu
  split at hu
  · exact hcell j u hu
  · cases hu
theorem Reads.none1 {w : World} {a : Option Addr} {n c : Nat} {xs : List Value} (h : xs.length = 0) (hn : n = 0) : Reads 1 w (.slice a n c) n xs := by
  subst hn
  obtain rfl : xs = [] := List.eq_nil_of_length_eq_zero h
  exact Reads.empty

/-- memory grew, then a new block was written -/
theorem Grow.trans' {a b c : World} {g : Nat} (h : Grow a b) (k : GrowC (fun q _ => q = g) b c) (hg : a.heap.size ≤ g) : Grow a c :=
  Below.trans h (k.below (fun q hq => ⟨Nat.lt_of_lt_of_le hq h.size, fun o e => by omega⟩))

end Go.Proofs.Ytfbblgcdggpehaa

/- A script's cells. Conditions: none. -/
import Derived.Test.YtdnjjdpenfhpeaaPlKit
namespace Go.Proofs.Ytdnjjdpenfhpeaa
set_option linter.unusedSimpArgs false
set_option linter.unusedVariables false
open Go.RowKit

/-- a script's cells -/
abbrev Xop := Int × Int × Int × Int
def xcells (l : List Xop) : List Value := l.flatMap fun x => [.int .i64 x.1, .int .i64 x.2.1, .int .i64 x.2.2.1, .int .i64 x.2.2.2]
instance : Inhabited Xop := ⟨(0, 0, 0, 0)⟩
theorem Xops.at {w : World} {v : Value} {n : Nat} {l : List Xop} (h : Reads 4 w v n (xcells l)) (k : Nat) (hk : k < n) (x : Xop) (hx : l[k]? = some x) :
    ∃ b o c, v = .slice (some ⟨b, o, none⟩) n c ∧ b < w.heap.size ∧ w.cell? ⟨b, o + k * 4, none⟩ = some (.int .i64 x.1) ∧ w.cell? ⟨b, o + k * 4 + 1, none⟩ = some (.int .i64 x.2.1) ∧ w.cell? ⟨b, o + k * 4 + 2, none⟩ = some (.int .i64 x.2.2.1) ∧ w.cell? ⟨b, o + k * 4 + 3, none⟩ = some (.int .i64 x.2.2.2) := by
  obtain ⟨ao, c, rfl, hl, hc, hr⟩ := h
  obtain ⟨b, o, rfl, hb, hcell⟩ := hr (by omega)
  obtain ⟨hi, he⟩ := List.getElem?_eq_some_iff.1 hx
  have at4 : ∀ (j : Nat) (u : Value), ([.int .i64 x.1, .int .i64 x.2.1, .int .i64 x.2.2.1, .int .i64 x.2.2.2] : List Value)[j]? = some u → (xcells l)[k * 4 + j]? = some u := fun j u hu =>
    flat_at (fun x : Xop => [.int .i64 x.1, .int .i64 x.2.1, .int .i64 x.2.2.1, .int .i64 x.2.2.2]) 4 (fun _ => rfl) l k hi j u (by rw [getElem!_pos l k hi, he]; exact hu)
  refine ⟨b, o, c, rfl, hb, ?_, ?_, ?_, ?_⟩
  · exact hcell _ _ (at4 0 _ rfl)
  · rw [Nat.add_assoc]; exact hcell _ _ (at4 1 _ rfl)
  · rw [Nat.add_assoc]; exact hcell _ _ (at4 2 _ rfl)
  · rw [Nat.add_assoc]; exact hcell _ _ (at4 3 _ rfl)
end Go.Proofs.Ytdnjjdpenfhpeaa

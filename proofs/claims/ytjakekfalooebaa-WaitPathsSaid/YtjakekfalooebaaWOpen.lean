/- A slice of edges as an argument, opened. Conditions: none. -/
import Derived.Test.YtjakekfalooebaaFrame2
import Derived.Test.YtjakekfalooebaaWTo
namespace Go.Proofs.Ytjakekfalooebaa
set_option linter.unusedSimpArgs false
set_option linter.unusedVariables false
open Go.ChangeShapes Go.WideShapes Go.ChangeAt Go.RowKit Go.Deep Go.Joins

theorem open_edges {H : Type} {enc : TypeId × Value → H} {w : World} {held : Bool} {v : Value} {d : DataW H} {p : List MemPlace} {ao : Option Addr} {n cap : Nat} (hv : v = .slice ao n cap)
    (h : DataW.Trod enc Try.prog w 0 (fun _ => true) held 22 v d p) :
    ∃ l : List (Int × Int), l.length = n ∧ n ≤ maxLen ∧ Reads 2 w v n (ecells l) := by
  subst hv
  obtain ⟨fuel, hf⟩ := h
  simp only [Value.cells] at hf
  rcases open_slice_fields (fs := _) Try.underlying22 Try.underlying24 (by kernel_rfl) (by kernel_rfl) hf with ⟨hcs, hx⟩ | ⟨a, len, cap', m, D, Pl, hcs, _, hl, hm, hmm, hx, hi⟩
  · simp only [Array.toList, List.cons.injEq, and_true] at hcs
    injection hcs with e1 e2 e3
    subst e1 e2 e3
    exact ⟨[], rfl, Nat.zero_le _, ⟨none, 0, rfl, rfl, Nat.le_refl _, fun h => absurd h (by omega)⟩⟩
  · simp only [Array.toList, List.cons.injEq, and_true] at hcs
    injection hcs with e1 e2 e3
    subst e1 e2 e3
    simp only [if_true] at hmm
    subst hmm
    have one : ∀ i, i < n → ∃ x : Int × Int, w.cell? (a.add (i * 2)) = some (.int .i64 x.1) ∧ w.cell? (a.add (i * 2 + 1)) = some (.int .i64 x.2) := by
      intro i hin
      obtain ⟨ys, k, hD, _, hlen, hff⟩ := hi i (by omega)
      obtain ⟨v0, y0, hc0, hy0, ht0⟩ := hff 0 _ rfl
      obtain ⟨v1, y1, hc1, hy1, ht1⟩ := hff 1 _ rfl
      obtain ⟨a0, e0, rfl, _⟩ := DataW.trod_int Try.underlying3 ht0
      obtain ⟨a1, e1, rfl, wf1⟩ := DataW.trod_int Try.underlying3 ht1
      simp only [List.cons.injEq, and_true] at e0 e1
      subst e0 e1
      exact ⟨(a0, a1), hc0, hc1⟩
    have inh : Inhabited (Int × Int) := ⟨(0, 0)⟩
    obtain ⟨X, hX⟩ := choose_lt one
    refine ⟨(List.range n).map X, by simp, by omega, ⟨some a, _, rfl, by rw [ecells_length]; simp, hl, fun hn => ?_⟩⟩
    obtain ⟨hc0, _⟩ := hX 0 hn
    obtain ⟨b, off, spot⟩ := a
    have hsp : spot = none := by
      have := World.cell?_spot hc0
      simpa [Addr.add] using this
    subst hsp
    refine ⟨b, off, rfl, World.block_lt_of_cell? w _ hc0, fun j u hu => ?_⟩
    have hj : j < n * 2 := by
      have := (List.getElem?_eq_some_iff.1 hu).1
      rw [ecells_length] at this
      simpa using this
    have hq : j / 2 < n := by omega
    have hat := ecells_at ((List.range n).map X) (j / 2) (X (j / 2)) (by simp [hq])
    obtain ⟨hx1, hx2⟩ := hX (j / 2) hq
    simp only [Addr.add_lit] at hx1 hx2
    by_cases hpar : j % 2 = 0
    · have e : j / 2 * 2 = j := by omega
      rw [e] at hat hx1
      rw [hat.1] at hu
      obtain rfl := Option.some.inj hu
      exact hx1
    · have e : j / 2 * 2 + 1 = j := by omega
      rw [e] at hat hx2
      rw [hat.2] at hu
      obtain rfl := Option.some.inj hu
      exact hx2
end Go.Proofs.Ytjakekfalooebaa

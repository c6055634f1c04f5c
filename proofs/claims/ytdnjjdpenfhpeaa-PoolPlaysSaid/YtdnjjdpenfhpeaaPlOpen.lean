/- A slice of calls as an argument, opened. Conditions: none. -/
import Derived.Test.YtdnjjdpenfhpeaaFrame2
import Derived.Test.YtdnjjdpenfhpeaaPlXop
import Derived.Lib.SmallJoins
namespace Go.Proofs.Ytdnjjdpenfhpeaa
set_option linter.unusedSimpArgs false
set_option linter.unusedVariables false
open Go.ChangeShapes Go.WideShapes Go.ChangeAt Go.RowKit Go.Deep Go.Joins

theorem xcells_length (E : List Xop) : (xcells E).length = E.length * 4 := by
  induction E with
  | nil => rfl
  | cons a r ih => simp only [xcells, List.flatMap_cons, List.length_append, List.length_cons, List.length_nil] at *; omega
theorem open_xops {H : Type} {enc : TypeId × Value → H} {w : World} {held : Bool} {v : Value} {d : DataW H} {p : List MemPlace} {ao : Option Addr} {n cap : Nat} (hv : v = .slice ao n cap)
    (h : DataW.Trod enc Try.prog w 0 (fun _ => true) held 22 v d p) :
    ∃ l : List Xop, l.length = n ∧ n ≤ maxLen ∧ Reads 4 w v n (xcells l) := by
  subst hv
  obtain ⟨fuel, hf⟩ := h
  simp only [Value.cells] at hf
  rcases open_slice_fields (fs := _) Try.underlying22 Try.underlying36 (by kernel_rfl) (by kernel_rfl) hf with ⟨hcs, hx⟩ | ⟨a, len, cap', m, D, Pl, hcs, _, hl, hm, hmm, hx, hi⟩
  · simp only [Array.toList, List.cons.injEq, and_true] at hcs
    injection hcs with e1 e2 e3
    subst e1 e2 e3
    exact ⟨[], rfl, Nat.zero_le _, ⟨none, 0, rfl, rfl, Nat.le_refl _, fun h => absurd h (by omega)⟩⟩
  · simp only [Array.toList, List.cons.injEq, and_true] at hcs
    injection hcs with e1 e2 e3
    subst e1 e2 e3
    simp only [if_true] at hmm
    subst hmm
    have one : ∀ i, i < n → ∃ x : Xop, w.cell? (a.add (i * 4)) = some (.int .i64 x.1) ∧ w.cell? (a.add (i * 4 + 1)) = some (.int .i64 x.2.1) ∧ w.cell? (a.add (i * 4 + 2)) = some (.int .i64 x.2.2.1) ∧ w.cell? (a.add (i * 4 + 3)) = some (.int .i64 x.2.2.2) := by
      intro i hin
      obtain ⟨ys, k, hD, _, hlen, hff⟩ := hi i (by omega)
      obtain ⟨v0, y0, hc0, hy0, ht0⟩ := hff 0 _ rfl
      obtain ⟨v1, y1, hc1, hy1, ht1⟩ := hff 1 _ rfl
      obtain ⟨v2, y2, hc2, hy2, ht2⟩ := hff 2 _ rfl
      obtain ⟨v3, y3, hc3, hy3, ht3⟩ := hff 3 _ rfl
      obtain ⟨a0, e0, rfl, _⟩ := DataW.trod_int Try.underlying3 ht0
      obtain ⟨a1, e1, rfl, _⟩ := DataW.trod_int Try.underlying3 ht1
      obtain ⟨a2, e2, rfl, _⟩ := DataW.trod_int Try.underlying3 ht2
      obtain ⟨a3, e3, rfl, _⟩ := DataW.trod_int Try.underlying3 ht3
      simp only [List.cons.injEq, and_true] at e0 e1 e2 e3
      subst e0 e1 e2 e3
      exact ⟨(a0, a1, a2, a3), hc0, hc1, hc2, hc3⟩
    have inh : Inhabited Xop := ⟨(0, 0, 0, 0)⟩
    obtain ⟨X, hX⟩ := choose_lt one
    refine ⟨(List.range n).map X, by simp, by omega, ⟨some a, _, rfl, by rw [xcells_length]; simp, hl, fun hn => ?_⟩⟩
    obtain ⟨hc0, _⟩ := hX 0 hn
    obtain ⟨b, off, spot⟩ := a
    have hsp : spot = none := by
      have := World.cell?_spot hc0
      simpa [Addr.add] using this
    subst hsp
    refine ⟨b, off, rfl, World.block_lt_of_cell? w _ hc0, fun j u hu => ?_⟩
    have hj : j < n * 4 := by
      have := (List.getElem?_eq_some_iff.1 hu).1
      rw [xcells_length] at this
      simpa using this
    have hq : j / 4 < n := by omega
    obtain ⟨hx1, hx2, hx3, hx4⟩ := hX (j / 4) hq
    simp only [Addr.add_lit] at hx1 hx2 hx3 hx4
    have at4 : ∀ (r : Nat) (u : Value), ([.int .i64 (X (j / 4)).1, .int .i64 (X (j / 4)).2.1, .int .i64 (X (j / 4)).2.2.1, .int .i64 (X (j / 4)).2.2.2] : List Value)[r]? = some u → (xcells ((List.range n).map X))[j / 4 * 4 + r]? = some u := fun r u hu =>
      flat_at (fun x : Xop => [.int .i64 x.1, .int .i64 x.2.1, .int .i64 x.2.2.1, .int .i64 x.2.2.2]) 4 (fun _ => rfl) _ (j / 4) (by simpa using hq) r u (by rw [getElem!_pos _ (j / 4) (by simpa using hq)]; simpa using hu)
    have hr : j % 4 < 4 := Nat.mod_lt _ (by decide)
    have e : j = j / 4 * 4 + j % 4 := by omega
    generalize j % 4 = r at *
    generalize j / 4 = t at *
    subst e
    match r, hr with
    | 0, _ => rw [at4 0 _ rfl] at hu; obtain rfl := Option.some.inj hu; exact hx1
    | 1, _ => rw [at4 1 _ rfl] at hu; obtain rfl := Option.some.inj hu; exact hx2
    | 2, _ => rw [at4 2 _ rfl] at hu; obtain rfl := Option.some.inj hu; exact hx3
    | 3, _ => rw [at4 3 _ rfl] at hu; obtain rfl := Option.some.inj hu; exact hx4
end Go.Proofs.Ytdnjjdpenfhpeaa

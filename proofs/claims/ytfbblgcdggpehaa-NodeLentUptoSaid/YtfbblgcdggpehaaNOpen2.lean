/- A node as an argument, opened, with its lists' bounds. Conditions: the second form's bound. -/
import Derived.Test.YtfbblgcdggpehaaNOpen
namespace Go.Proofs.Ytfbblgcdggpehaa
set_option linter.unusedSimpArgs false
set_option linter.unusedVariables false
open Go.ChangeShapes Go.WideShapes Go.ChangeAt Go.RowKit Go.Deep Go.Joins

theorem open_node2 {H : Type} {enc : TypeId × Value → H} {w : World} {held : Bool} {r : Reach} {b0 : Nat} {v : Value} {d : DataW H} {p : List MemPlace}
    (hv : Value.okWide Try.prog w r b0 25 v) (h : DataW.Trod enc Try.prog w 0 (fun _ => true) held 25 v d p) (hb : Rows.uptoBulk d ≤ 1048576) :
    ∃ (x : Nd) (ks vs ds : Value), v = .agg #[.bool x.leaf, ks, vs, ds, .int .i64 x.next] ∧ NodeAt w ks vs ds x ∧ x.small ∧ x.keys.length + 1 ≤ 1048576 ∧ x.vals.length + 1 ≤ 1048576 := by
  have k0 : Try.prog.cellsOf 4 = 1 := by kernel_rfl
  have k1 : Try.prog.cellsOf 22 = 1 := by kernel_rfl
  have k3 : Try.prog.cellsOf 23 = 1 := by kernel_rfl
  have k4 : Try.prog.cellsOf 3 = 1 := by kernel_rfl
  have hC : Try.prog.cellsOf 25 = 5 := by kernel_rfl
  obtain ⟨cs, rfl, hsz⟩ := okWide_struct Try.underlying25 hv
  obtain ⟨l⟩ := cs
  match l, hsz.trans hC with
  | [c0, c1, c2, c3, c4], _ =>
    obtain ⟨fuel, hf⟩ := h
    obtain ⟨xs, n, _, hx, _, hlen, hg⟩ := DataW.trod_struct Try.underlying25 hf
    match xs, hlen with
    | [y0, y1, y2, y3, y4], _ =>
      simp only [Prod.mk.injEq] at hx
      have g0 := hg 0 _ rfl
      have g1 := hg 1 _ rfl
      have g2 := hg 2 _ rfl
      have g3 := hg 3 _ rfl
      have g4 := hg 4 _ rfl
      simp [Value.cells, k0, k1, k3, k4] at g0 g1 g2 g3 g4
      obtain ⟨b, e0, rfl⟩ := DataW.trod_bool Try.underlying4 g0
      obtain ⟨K, hK, bK⟩ := open_textsT g1
      obtain ⟨V, hV, bV⟩ := open_textsT g2
      obtain ⟨D, hD, bD⟩ := open_intsT g3
      obtain ⟨z, e4, rfl, _⟩ := DataW.trod_int Try.underlying3 g4
      simp only [List.cons.injEq, and_true] at e0 e4
      subst e0 e4
      rw [hx.1] at hb
      simp only [List.map_cons, List.map_nil, Rows.uptoBulk, Rows.uptoBulkAll] at hb
      have s1 := sum_len K
      have s2 := sum_len V
      exact ⟨⟨b, K, V, D, z⟩, c1, c2, c3, rfl, ⟨hK, hV, hD⟩, ⟨by show K.length ≤ _; omega, by show V.length ≤ _; omega, by show D.length ≤ _; omega, fun l hl => by have := sum_mem K l hl; omega, fun l hl => by have := sum_mem V l hl; omega⟩, by show K.length + 1 ≤ _; omega, by show V.length + 1 ≤ _; omega⟩

end Go.Proofs.Ytfbblgcdggpehaa

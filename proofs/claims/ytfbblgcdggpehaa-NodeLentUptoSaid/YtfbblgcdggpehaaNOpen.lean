/- A node as an argument, opened. Conditions: the second form's bound. -/
import Derived.Test.YtfbblgcdggpehaaFrame
import Derived.Test.YtfbblgcdggpehaaNLawK
namespace Go.Proofs.Ytfbblgcdggpehaa
set_option linter.unusedSimpArgs false
set_option linter.unusedVariables false
open Go.ChangeShapes Go.WideShapes Go.ChangeAt Go.RowKit Go.Deep Go.Joins

section
variable {H : Type} {enc : TypeId × Value → H} {w : World} {held : Bool}

theorem open_bytesT {fuel : Nat} {v : Value} {x : DataW H × List MemPlace} (hf : DataW.trod enc Try.prog w 0 (fun _ => true) held fuel 28 [v] = some x) :
    ∃ L : List UInt8, Reads 1 w v L.length (L.map B) ∧ L.length + 1 ≤ Rows.uptoBulk x.1 := by
  rcases open_ints Try.underlying28 Try.underlying5 (by kernel_rfl) hf with ⟨hcs, hx⟩ | ⟨a, len, cap', zs, hcs, _, hl, hm, hz, hx, hcell, hwz⟩
  · simp only [List.cons.injEq, and_true] at hcs
    subst hcs hx
    exact ⟨[], Reads.empty, by simp [Rows.uptoBulk]⟩
  · simp only [List.cons.injEq, and_true] at hcs
    subst hcs
    simp only [if_true] at hz
    have hlen : ((zs.take len).map (fun z => UInt8.ofNat z.toNat)).length = len := by simp; omega
    refine ⟨(zs.take len).map (fun z => UInt8.ofNat z.toNat), ?_, ?_⟩
    · rw [hlen]
      refine ⟨some a, cap', rfl, by simp; omega, hl, fun hn => ?_⟩
      have hc0 := hcell 0 (by omega)
      obtain ⟨b, off, spot⟩ := a
      have hsp : spot = none := by
        have := World.cell?_spot hc0
        simpa [Addr.add] using this
      subst hsp
      have hc0' := hc0
      simp only [Addr.add_lit, Nat.add_zero] at hc0'
      refine ⟨b, off, rfl, World.block_lt_of_cell? w _ hc0', fun j u hu => ?_⟩
      rw [List.map_map, List.getElem?_map] at hu
      cases hj : (zs.take len)[j]? with
      | none => rw [hj] at hu; cases hu
      | some z =>
        rw [hj] at hu
        have hjn : j < len ∧ zs[j]? = some z := by
          rw [List.getElem?_take] at hj
          split at hj
          · exact ⟨by assumption, hj⟩
          · cases hj
        have hz' : z ∈ zs := List.mem_of_getElem? hjn.2
        simp only [Option.map_some, Function.comp_apply, Option.some.injEq] at hu
        rw [byte_of (hwz z hz')] at hu
        have := hcell j (by omega)
        rw [Addr.add_lit] at this
        rw [this, ← hu, List.getD_eq_getElem?_getD, hjn.2]
        rfl
    · rw [hlen, hx]
      simp only [Rows.uptoBulk]
      have := bulk_length (lits (H := H) .u8 (zs.take len))
      have hl2 : (lits (H := H) .u8 (zs.take len)).length = len := by simp only [lits, List.length_map, List.length_take]; omega
      omega

theorem open_intsT {fuel : Nat} {v : Value} {x : DataW H × List MemPlace} (hf : DataW.trod enc Try.prog w 0 (fun _ => true) held fuel 23 [v] = some x) :
    ∃ L : List Int, Reads 1 w v L.length (L.map I) ∧ L.length + 1 ≤ Rows.uptoBulk x.1 := by
  rcases open_ints Try.underlying23 Try.underlying3 (by kernel_rfl) hf with ⟨hcs, hx⟩ | ⟨a, len, cap', zs, hcs, _, hl, hm, hz, hx, hcell, hwz⟩
  · simp only [List.cons.injEq, and_true] at hcs
    subst hcs hx
    exact ⟨[], Reads.empty, by simp [Rows.uptoBulk]⟩
  · simp only [List.cons.injEq, and_true] at hcs
    subst hcs
    simp only [if_true] at hz
    have hlen : (zs.take len).length = len := by simp; omega
    refine ⟨zs.take len, ?_, ?_⟩
    · rw [hlen]
      refine ⟨some a, cap', rfl, by simp; omega, hl, fun hn => ?_⟩
      have hc0 := hcell 0 (by omega)
      obtain ⟨b, off, spot⟩ := a
      have hsp : spot = none := by
        have := World.cell?_spot hc0
        simpa [Addr.add] using this
      subst hsp
      have hc0' := hc0
      simp only [Addr.add_lit, Nat.add_zero] at hc0'
      refine ⟨b, off, rfl, World.block_lt_of_cell? w _ hc0', fun j u hu => ?_⟩
      rw [List.getElem?_map] at hu
      cases hj : (zs.take len)[j]? with
      | none => rw [hj] at hu; cases hu
      | some z =>
        rw [hj] at hu
        have hjn : j < len ∧ zs[j]? = some z := by
          rw [List.getElem?_take] at hj
          split at hj
          · exact ⟨by assumption, hj⟩
          · cases hj
        simp only [Option.map_some, Option.some.injEq] at hu
        have := hcell j (by omega)
        rw [Addr.add_lit] at this
        rw [this, ← hu, List.getD_eq_getElem?_getD, hjn.2]
        rfl
    · rw [hlen, hx]
      simp only [Rows.uptoBulk]
      have := bulk_length (lits (H := H) .i64 (zs.take len))
      have hl2 : (lits (H := H) .i64 (zs.take len)).length = len := by simp only [lits, List.length_map, List.length_take]; omega
      omega

theorem open_textsT {fuel : Nat} {v : Value} {x : DataW H × List MemPlace} (hf : DataW.trod enc Try.prog w 0 (fun _ => true) held fuel 22 [v] = some x) :
    ∃ L : List (List UInt8), Texts w v L ∧ (L.map (fun l => l.length + 1)).sum + 1 ≤ Rows.uptoBulk x.1 := by
  have hC : Try.prog.cellsOf 28 = 1 := by kernel_rfl
  rcases open_slice Try.underlying22 hf with ⟨hcs, hx⟩ | ⟨a, len, cap, m, n, D, Pl, hcs, hb, hl, hm, hmm, hx, hi⟩
  · simp only [List.cons.injEq, and_true] at hcs
    subst hcs hx
    exact ⟨[], ⟨[], Reads.empty, TextsAt.nil⟩, by simp [Rows.uptoBulk]⟩
  · simp only [List.cons.injEq, and_true] at hcs
    subst hcs
    simp only [if_true] at hmm
    subst hmm
    have one : ∀ i, i < len → ∃ q : Value × List UInt8, w.cell? (a.add i) = some q.1 ∧ Reads 1 w q.1 q.2.length (q.2.map B) ∧ q.2.length + 1 ≤ Rows.uptoBulk (D i) := by
      intro i hin
      obtain ⟨cs', hc, ht'⟩ := hi i (by omega)
      rw [hC, Nat.mul_one] at hc
      obtain ⟨_, hcl, hat⟩ := World.cells?_some hc
      have h0 := hat 0 (by omega)
      match cs', hcl with
      | [u], _ =>
        obtain ⟨L, h1, h2⟩ := open_bytesT ht'
        refine ⟨(u, L), ?_, h1, h2⟩
        simpa [Addr.add] using h0
    have inh : Inhabited (Value × List UInt8) := ⟨(undef, [])⟩
    obtain ⟨X, hX⟩ := choose_lt one
    have hlL : ((List.range len).map (fun i => (X i).2)).length = len := by simp
    refine ⟨(List.range len).map (fun i => (X i).2), ⟨(List.range len).map (fun i => (X i).1), ?_, ?_⟩, ?_⟩
    · rw [hlL]
      refine ⟨some a, _, rfl, by simp, hl, fun hn => ?_⟩
      have hc0 := (hX 0 hn).1
      obtain ⟨b, off, spot⟩ := a
      have hsp : spot = none := by
        have := World.cell?_spot hc0
        simpa [Addr.add] using this
      subst hsp
      refine ⟨b, off, rfl, World.block_lt_of_cell? w _ hc0, fun j u hu => ?_⟩
      rw [List.getElem?_map] at hu
      cases hj : (List.range len)[j]? with
      | none => rw [hj] at hu; cases hu
      | some z =>
        have hjl : j < len := by have := (List.getElem?_eq_some_iff.1 hj).1; simpa using this
        rw [List.getElem?_range hjl] at hu
        simp only [Option.map_some, Option.some.injEq] at hu
        subst hu
        have := (hX j hjl).1
        rw [Addr.add_lit] at this
        exact this
    · refine ⟨by simp, fun i s l h1 h2 => ?_⟩
      have hil : i < len := by have := (List.getElem?_eq_some_iff.1 h1).1; simpa using this
      rw [List.getElem?_map, List.getElem?_range hil] at h1 h2
      simp only [Option.map_some, Option.some.injEq] at h1 h2
      subst h1 h2
      exact (hX i hil).2.1
    · rw [hx]
      simp only [Rows.uptoBulk]
      rw [bulk_map, List.map_map]
      have : ∀ k, k ≤ len → ((List.range k).map ((fun l : List UInt8 => l.length + 1) ∘ fun i => (X i).2)).sum ≤ ((List.range k).map (fun i => Rows.uptoBulk (D i))).sum := by
        intro k
        induction k with
        | zero => intro _; simp
        | succ k ih =>
          intro hk
          have h1 := ih (by omega)
          have h2 := (hX k (by omega)).2.2
          simp only [List.range_succ, List.map_append, List.sum_append, List.map_cons, List.map_nil, List.sum_cons, List.sum_nil, Function.comp_apply]
          omega
      have := this len (Nat.le_refl _)
      omega
end

theorem sum_mem (L : List (List UInt8)) (l : List UInt8) (h : l ∈ L) : l.length + 1 ≤ (L.map (fun l => l.length + 1)).sum := by
  induction L with
  | nil => cases h
  | cons a L ih =>
    rcases List.mem_cons.1 h with rfl | h
    · simp
    · have := ih h; simp; omega
theorem sum_len (L : List (List UInt8)) : L.length ≤ (L.map (fun l => l.length + 1)).sum := by
  induction L with
  | nil => simp
  | cons a L ih => simp; omega

theorem open_node {H : Type} {enc : TypeId × Value → H} {w : World} {held : Bool} {r : Reach} {b0 : Nat} {v : Value} {d : DataW H} {p : List MemPlace}
    (hv : Value.okWide Try.prog w r b0 25 v) (h : DataW.Trod enc Try.prog w 0 (fun _ => true) held 25 v d p) (hb : Rows.uptoBulk d ≤ 1048576) :
    ∃ (x : Nd) (ks vs ds : Value), v = .agg #[.bool x.leaf, ks, vs, ds, .int .i64 x.next] ∧ NodeAt w ks vs ds x ∧ x.small := by
  have k0 : Try.prog.cellsOf 4 = 1 := by kernel_rfl
  have k1 : Try.prog.cellsOf 22 = 1 := by kernel_rfl
  have k3 : Try.prog.cellsOf 23 = 1 := by kernel_rfl
  have k4 : Try.prog.cellsOf 3 = 1 := by kernel_rfl
  have hC : Try.prog.cellsOf 25 = 5 := by kernel_rfl
  obtain ⟨cs, rfl, hsz⟩ := okWide_struct Try.underlying25 hv
  obtain ⟨l⟩ := cs
  match l, hsz.trans hC with
  | [c0, c1, c2, c3, c4], _ =>
    obtain ⟨fuel, hf⟩ := h
    obtain ⟨xs, n, _, hx, _, hlen, hg⟩ := DataW.trod_struct Try.underlying25 hf
    match xs, hlen with
    | [y0, y1, y2, y3, y4], _ =>
      simp only [Prod.mk.injEq] at hx
      have g0 := hg 0 _ rfl
      have g1 := hg 1 _ rfl
      have g2 := hg 2 _ rfl
      have g3 := hg 3 _ rfl
      have g4 := hg 4 _ rfl
      simp [Value.cells, k0, k1, k3, k4] at g0 g1 g2 g3 g4
      obtain ⟨b, e0, rfl⟩ := DataW.trod_bool Try.underlying4 g0
      obtain ⟨K, hK, bK⟩ := open_textsT g1
      obtain ⟨V, hV, bV⟩ := open_textsT g2
      obtain ⟨D, hD, bD⟩ := open_intsT g3
      obtain ⟨z, e4, rfl, _⟩ := DataW.trod_int Try.underlying3 g4
      simp only [List.cons.injEq, and_true] at e0 e4
      subst e0 e4
      rw [hx.1] at hb
      simp only [List.map_cons, List.map_nil, Rows.uptoBulk, Rows.uptoBulkAll] at hb
      have s1 := sum_len K
      have s2 := sum_len V
      exact ⟨⟨b, K, V, D, z⟩, c1, c2, c3, rfl, ⟨hK, hV, hD⟩, ⟨by show K.length ≤ _; omega, by show V.length ≤ _; omega, by show D.length ≤ _; omega, fun l hl => by have := sum_mem K l hl; omega, fun l hl => by have := sum_mem V l hl; omega⟩⟩

end Go.Proofs.Ytfbblgcdggpehaa

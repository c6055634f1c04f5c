/- Wants and scripts as arguments, opened. Conditions: none. -/
import Derived.Test.YtoghmllkaafckaaLkModes
namespace Go.Proofs.Ytoghmllkaafckaa
set_option linter.unusedSimpArgs false
set_option linter.unusedVariables false
open Go.ChangeShapes Go.WideShapes Go.ChangeAt Go.RowKit Go.Deep Go.Joins

theorem bulk_agg2 {H : Type} (ys : List (DataW H × List MemPlace)) (h : ys.length = 2) : 3 ≤ Rows.uptoBulk (DataW.agg (ys.map (·.1))) := by
  have := bulk_length (ys.map (·.1))
  rw [List.length_map, h] at this
  simp only [Rows.uptoBulk]
  omega
theorem sum_le_bulk {H : Type} (n : Nat) (D : Nat → DataW H) (f : Nat → Nat) (h : ∀ i, i < n → f i ≤ Rows.uptoBulk (D i)) : ((List.range n).map f).sum ≤ Rows.uptoBulkAll ((List.range n).map D) := by
  rw [bulk_map]
  induction n with
  | zero => simp
  | succ n ih =>
    rw [List.range_succ, List.map_append, List.map_append, List.sum_append, List.sum_append]
    have h1 := ih (fun i hi => h i (by omega))
    have h2 := h n (by omega)
    simp
    omega

theorem wants_trod {H : Type} {enc : TypeId × Value → H} {w : World} {held : Bool} {v : Value} {fuel : Nat} {x : DataW H × List MemPlace}
    (hf : DataW.trod enc Try.prog w 0 (fun _ => true) held fuel 30 [v] = some x) :
    ∃ (l : List Wn), Reads 2 w v l.length (wcells l) ∧ 3 * l.length ≤ Rows.uptoBulk x.1 := by
  rcases open_slice_fields (fs := _) Try.underlying30 Try.underlying40 (by kernel_rfl) (by kernel_rfl) hf with ⟨hcs, hx⟩ | ⟨a, len, cap', m, D, Pl, hcs, _, hl, hm, hmm, hx, hi⟩
  · simp only [List.cons.injEq, and_true] at hcs
    subst hcs
    exact ⟨[], ⟨none, 0, rfl, rfl, Nat.le_refl _, fun h => absurd h (by simp)⟩, by simp⟩
  · simp only [List.cons.injEq, and_true] at hcs
    subst hcs
    simp only [if_true] at hmm
    subst hmm
    have one : ∀ i, i < len → ∃ x : Wn, w.cell? (a.add (i * 2)) = some (.string x.1) ∧ w.cell? (a.add (i * 2 + 1)) = some (.int .i64 x.2) := by
      intro i hin
      obtain ⟨ys, k, hD, _, hlen, hff⟩ := hi i (by omega)
      obtain ⟨v0, y0, hc0, hy0, ht0⟩ := hff 0 _ rfl
      obtain ⟨v1, y1, hc1, hy1, ht1⟩ := hff 1 _ rfl
      obtain ⟨a0, e0, rfl, _⟩ := DataW.trod_string Try.underlying9 ht0
      obtain ⟨a1, e1, rfl, wf1⟩ := DataW.trod_int Try.underlying3 ht1
      simp only [List.cons.injEq, and_true] at e0 e1
      subst e0 e1
      exact ⟨(a0, a1), hc0, hc1⟩
    have hbulk : ∀ i, i < len → 3 ≤ Rows.uptoBulk (D i) := by
      intro i hin
      obtain ⟨ys, k, hD, _, hlen, _⟩ := hi i (by omega)
      rw [hD]
      exact bulk_agg2 ys hlen
    have inh : Inhabited Wn := ⟨(ByteArray.empty, 0)⟩
    obtain ⟨X, hX⟩ := choose_lt one
    refine ⟨(List.range len).map X, ?_, ?_⟩
    · simp only [List.length_map, List.length_range]
      refine ⟨some a, _, rfl, by rw [wcells_length]; simp, hl, fun hn => ?_⟩
      obtain ⟨hc0, _⟩ := hX 0 hn
      obtain ⟨b, off, spot⟩ := a
      have hsp : spot = none := by
        have := World.cell?_spot hc0
        simpa [Addr.add] using this
      subst hsp
      refine ⟨b, off, rfl, World.block_lt_of_cell? w _ hc0, fun j u hu => ?_⟩
      have hj : j < len * 2 := by
        have := (List.getElem?_eq_some_iff.1 hu).1
        rw [wcells_length] at this
        simpa using this
      have hq : j / 2 < len := by omega
      have hat := wcells_at ((List.range len).map X) (j / 2) (X (j / 2)) (by simp [hq])
      obtain ⟨hx1, hx2⟩ := hX (j / 2) hq
      simp only [Addr.add_lit] at hx1 hx2
      by_cases hpar : j % 2 = 0
      · have e : j / 2 * 2 = j := by omega
        rw [e] at hat hx1
        rw [hat.1] at hu
        obtain rfl := Option.some.inj hu
        exact hx1
      · have e : j / 2 * 2 + 1 = j := by omega
        rw [e] at hat hx2
        rw [hat.2] at hu
        obtain rfl := Option.some.inj hu
        exact hx2
    · have h1 := sum_le_bulk len D (fun _ => 3) hbulk
      have h2 : ∀ k, ((List.range k).map (fun _ => 3)).sum = 3 * k := by
        intro k
        induction k with
        | zero => rfl
        | succ k ih => rw [List.range_succ, List.map_append, List.sum_append, ih]; simp; omega
      rw [h2] at h1
      rw [hx]
      simp only [Rows.uptoBulk, List.length_map, List.length_range]
      omega

theorem open_wants {H : Type} {enc : TypeId × Value → H} {w : World} {held : Bool} {v : Value} {d : DataW H} {p : List MemPlace} {ao : Option Addr} {n cap : Nat} (hv : v = .slice ao n cap)
    (h : DataW.Trod enc Try.prog w 0 (fun _ => true) held 30 v d p) :
    ∃ l : List Wn, l.length = n ∧ 3 * n ≤ Rows.uptoBulk d ∧ Reads 2 w v n (wcells l) := by
  subst hv
  obtain ⟨fuel, hf⟩ := h
  obtain ⟨l, hr, hb⟩ := wants_trod hf
  have hl : l.length = n := by
    obtain ⟨_, _, e, _⟩ := hr
    injection e with _ e _
    exact e.symm
  rw [hl] at hr hb
  exact ⟨l, hl, hb, hr⟩

/-- a call of a script: what, who, the wants' slice, the wants -/
abbrev Sc := Int × Int × Value × List Wn
def ocells (l : List Sc) : List Value := l.flatMap fun o => [.int .i64 o.1, .int .i64 o.2.1, o.2.2.1]
theorem ocells_length (l : List Sc) : (ocells l).length = l.length * 3 := by
  induction l with
  | nil => rfl
  | cons x r ih => simp only [ocells, List.flatMap_cons, List.length_append, List.length_cons, List.length_nil] at *; omega
theorem ocells_at (l : List Sc) (k : Nat) (e : Sc) (h : l[k]? = some e) : (ocells l)[k * 3]? = some (.int .i64 e.1) ∧ (ocells l)[k * 3 + 1]? = some (.int .i64 e.2.1) ∧ (ocells l)[k * 3 + 2]? = some e.2.2.1 := by
  induction l generalizing k with
  | nil => simp at h
  | cons x r ih =>
    cases k with
    | zero => simp at h; subst h; simp [ocells]
    | succ k =>
      simp only [List.getElem?_cons_succ] at h
      obtain ⟨h1, h2, h3⟩ := ih k h
      have e1 : (k + 1) * 3 = k * 3 + 1 + 1 + 1 := by omega
      rw [e1]
      simp only [ocells, List.flatMap_cons, List.cons_append, List.nil_append, List.getElem?_cons_succ] at *
      exact ⟨h1, h2, h3⟩
/-- how many wants a script has -/
def scW (l : List Sc) : Nat := (l.map fun o => o.2.2.2.length).sum

theorem open_ops {H : Type} {enc : TypeId × Value → H} {w : World} {held : Bool} {v : Value} {d : DataW H} {p : List MemPlace} {ao : Option Addr} {n cap : Nat} (hv : v = .slice ao n cap)
    (h : DataW.Trod enc Try.prog w 0 (fun _ => true) held 26 v d p) :
    ∃ l : List Sc, l.length = n ∧ n ≤ maxLen ∧ 3 * scW l ≤ Rows.uptoBulk d ∧ Reads 3 w v n (ocells l) ∧ ∀ o ∈ l, Reads 2 w o.2.2.1 o.2.2.2.length (wcells o.2.2.2) := by
  subst hv
  obtain ⟨fuel, hf⟩ := h
  simp only [Value.cells] at hf
  rcases open_slice_fields (fs := _) Try.underlying26 Try.underlying32 (by kernel_rfl) (by kernel_rfl) hf with ⟨hcs, hx⟩ | ⟨a, len, cap', m, D, Pl, hcs, _, hl, hm, hmm, hx, hi⟩
  · simp only [Array.toList, List.cons.injEq, and_true] at hcs
    injection hcs with e1 e2 e3
    subst e1 e2 e3
    exact ⟨[], rfl, Nat.zero_le _, by simp [scW], ⟨none, 0, rfl, rfl, Nat.le_refl _, fun h => absurd h (by omega)⟩, fun o ho => by cases ho⟩
  · simp only [Array.toList, List.cons.injEq, and_true] at hcs
    injection hcs with e1 e2 e3
    subst e1 e2 e3
    simp only [if_true] at hmm
    subst hmm
    have one : ∀ i, i < n → ∃ x : Sc, w.cell? (a.add (i * 3)) = some (.int .i64 x.1) ∧ w.cell? (a.add (i * 3 + 1)) = some (.int .i64 x.2.1) ∧ w.cell? (a.add (i * 3 + 2)) = some x.2.2.1 ∧ Reads 2 w x.2.2.1 x.2.2.2.length (wcells x.2.2.2) ∧ 3 * x.2.2.2.length ≤ Rows.uptoBulk (D i) := by
      intro i hin
      obtain ⟨ys, k, hD, _, hlen, hff⟩ := hi i (by omega)
      obtain ⟨v0, y0, hc0, hy0, ht0⟩ := hff 0 _ rfl
      obtain ⟨v1, y1, hc1, hy1, ht1⟩ := hff 1 _ rfl
      obtain ⟨v2, y2, hc2, hy2, ht2⟩ := hff 2 _ rfl
      obtain ⟨a0, e0, rfl, _⟩ := DataW.trod_int Try.underlying3 ht0
      obtain ⟨a1, e1, rfl, wf1⟩ := DataW.trod_int Try.underlying3 ht1
      simp only [List.cons.injEq, and_true] at e0 e1
      subst e0 e1
      obtain ⟨lw, hr, hb⟩ := wants_trod ht2
      refine ⟨(a0, a1, v2, lw), hc0, hc1, hc2, hr, Nat.le_trans hb ?_⟩
      rw [hD]
      simp only [Rows.uptoBulk]
      have hmem : y2.1 ∈ ys.map (·.1) := List.mem_map.2 ⟨y2, List.mem_of_getElem? hy2, rfl⟩
      have key : ∀ (L : List (DataW H)) (y : DataW H), y ∈ L → Rows.uptoBulk y ≤ Rows.uptoBulkAll L := by
        intro L
        induction L with
        | nil => intro y hy; cases hy
        | cons z r ih =>
          intro y hy
          rcases List.mem_cons.1 hy with rfl | hy
          · simp only [Rows.uptoBulkAll]; omega
          · have := ih y hy; simp only [Rows.uptoBulkAll]; omega
      have := key _ _ hmem
      omega
    have inh : Inhabited Sc := ⟨(0, 0, undef, [])⟩
    obtain ⟨X, hX⟩ := choose_lt one
    refine ⟨(List.range n).map X, by simp, by omega, ?_, ⟨some a, _, rfl, by rw [ocells_length]; simp, hl, fun hn => ?_⟩, ?_⟩
    · have h1 := sum_le_bulk n D (fun i => 3 * (X i).2.2.2.length) (fun i hi => (hX i hi).2.2.2.2)
      have h2 : ∀ k, ((List.range k).map (fun i => 3 * (X i).2.2.2.length)).sum = 3 * scW ((List.range k).map X) := by
        intro k
        induction k with
        | zero => rfl
        | succ k ih =>
          rw [List.range_succ, List.map_append, List.sum_append, ih]
          simp only [scW, List.map_append, List.sum_append, List.map_cons, List.map_nil, List.sum_cons, List.sum_nil]
          omega
      rw [h2] at h1
      injection hx with hx1 hx2
      rw [hx1]
      simp only [Rows.uptoBulk]
      omega
    · obtain ⟨hc0, _⟩ := hX 0 hn
      obtain ⟨b, off, spot⟩ := a
      have hsp : spot = none := by
        have := World.cell?_spot hc0
        simpa [Addr.add] using this
      subst hsp
      refine ⟨b, off, rfl, World.block_lt_of_cell? w _ hc0, fun j u hu => ?_⟩
      have hj : j < n * 3 := by
        have := (List.getElem?_eq_some_iff.1 hu).1
        rw [ocells_length] at this
        simpa using this
      have hq : j / 3 < n := by omega
      obtain ⟨g1, g2, g3⟩ := ocells_at ((List.range n).map X) (j / 3) (X (j / 3)) (by simp [hq])
      obtain ⟨hx1, hx2, hx3, _⟩ := hX (j / 3) hq
      simp only [Addr.add_lit] at hx1 hx2 hx3
      have h3 : j % 3 = 0 ∨ j % 3 = 1 ∨ j % 3 = 2 := by omega
      rcases h3 with h3 | h3 | h3
      · have e : j / 3 * 3 = j := by omega
        rw [e] at g1 hx1
        rw [g1] at hu
        obtain rfl := Option.some.inj hu
        exact hx1
      · have e : j / 3 * 3 + 1 = j := by omega
        rw [e] at g2 hx2
        rw [g2] at hu
        obtain rfl := Option.some.inj hu
        exact hx2
      · have e : j / 3 * 3 + 2 = j := by omega
        rw [e] at g3 hx3
        rw [g3] at hu
        obtain rfl := Option.some.inj hu
        exact hx3
    · intro o ho
      obtain ⟨i, hi2, rfl⟩ := List.mem_map.1 ho
      exact (hX i (List.mem_range.1 hi2)).2.2.2.1
end Go.Proofs.Ytoghmllkaafckaa

/- A value and a list of values as arguments, opened. Conditions: none. -/
import Derived.Test.YtblpmbbodajjeaaFrame
import Derived.Test.YtblpmbbodajjeaaKPlain
namespace Go.Proofs.Ytblpmbbodajjeaa
set_option linter.unusedSimpArgs false
set_option linter.unusedVariables false
open Go.ChangeShapes Go.WideShapes Go.ChangeAt Go.RowKit Go.Deep Go.Joins
open K (Val cellsOf)

def bulkV (x : Val) : Nat := x.txt.size + 5
def numOk (x : Val) : Prop := -9223372036854775808 ≤ x.num ∧ x.num ≤ 9223372036854775807

theorem ul_len (s : ByteArray) : s.data.toList.length = s.size := by rw [Array.length_toList]; rfl

theorem open_val {H : Type} {enc : TypeId × Value → H} {w : World} {base : Nat} {spare : Nat → Bool} {held : Bool} {r : Reach} {b0 : Nat} {v : Value} {d : DataW H} {p : List MemPlace}
    (hv : Value.okWide Try.prog w r b0 23 v) (h : DataW.Trod enc Try.prog w base spare held 23 v d p) :
    ∃ x : Val, v = x.v ∧ numOk x ∧ Rows.uptoBulk d = bulkV x := by
  obtain ⟨v0, v1, v2, v3, y0, y1, y2, y3, n, rfl, rfl, rfl, h0, h1, h2, h3⟩ := open_agg4 Try.underlying23 (by kernel_rfl) (by kernel_rfl) hv h
  obtain ⟨a0, e0, rfl, _⟩ := DataW.trod_int Try.underlying3 h0
  obtain ⟨a1, e1, rfl, wf1⟩ := DataW.trod_int Try.underlying3 h1
  obtain ⟨s, e2, rfl, _⟩ := DataW.trod_string Try.underlying9 h2
  obtain ⟨b, e3, rfl⟩ := DataW.trod_bool Try.underlying4 h3
  simp only [List.cons.injEq, and_true] at e0 e1 e2 e3
  subst e0 e1 e2 e3
  refine ⟨⟨a0, a1, s, b⟩, rfl, wf_i64 wf1, ?_⟩
  simp [Rows.uptoBulk, Rows.uptoBulkAll, bulkV]
  omega

theorem open_vals {H : Type} {enc : TypeId × Value → H} {w : World} {held : Bool} {v : Value} {d : DataW H} {p : List MemPlace} {ao : Option Addr} {n cap : Nat} (hv : v = .slice ao n cap)
    (h : DataW.Trod enc Try.prog w 0 (fun _ => true) held 24 v d p) :
    ∃ l : List Val, Reads 4 w v n (cellsOf l) ∧ (∀ x ∈ l, numOk x) ∧ (l.map bulkV).sum ≤ Rows.uptoBulk d := by
  subst hv
  obtain ⟨fuel, hf⟩ := h
  simp only [Value.cells] at hf
  rcases open_slice_fields (fs := _) Try.underlying24 Try.underlying23 (by kernel_rfl) (by kernel_rfl) hf with ⟨hcs, hx⟩ | ⟨a, len, cap', m, D, Pl, hcs, _, hl, hm, hmm, hx, hi⟩
  · simp only [Array.toList, List.cons.injEq, and_true] at hcs
    injection hcs with e1 e2 e3
    subst e1 e2 e3
    exact ⟨[], ⟨none, 0, rfl, rfl, Nat.le_refl _, fun h => absurd h (by omega)⟩, by simp, by simp⟩
  · simp only [Array.toList, List.cons.injEq, and_true] at hcs
    injection hcs with e1 e2 e3
    subst e1 e2 e3
    simp only [if_true] at hmm
    subst hmm
    have one : ∀ i, i < n → ∃ x : Val, (∀ j u, x.cells[j]? = some u → w.cell? (a.add (i * 4 + j)) = some u) ∧ numOk x ∧ Rows.uptoBulk (D i) = bulkV x := by
      intro i hin
      obtain ⟨ys, k, hD, _, hlen, hff⟩ := hi i (by omega)
      obtain ⟨v0, y0, hc0, hy0, ht0⟩ := hff 0 _ rfl
      obtain ⟨v1, y1, hc1, hy1, ht1⟩ := hff 1 _ rfl
      obtain ⟨v2, y2, hc2, hy2, ht2⟩ := hff 2 _ rfl
      obtain ⟨v3, y3, hc3, hy3, ht3⟩ := hff 3 _ rfl
      obtain ⟨a0, e0, rfl, _⟩ := DataW.trod_int Try.underlying3 ht0
      obtain ⟨a1, e1, rfl, wf1⟩ := DataW.trod_int Try.underlying3 ht1
      obtain ⟨s, e2, rfl, _⟩ := DataW.trod_string Try.underlying9 ht2
      obtain ⟨b, e3, rfl⟩ := DataW.trod_bool Try.underlying4 ht3
      simp only [List.cons.injEq, and_true] at e0 e1 e2 e3
      subst e0 e1 e2 e3
      refine ⟨⟨a0, a1, s, b⟩, ?_, wf_i64 wf1, ?_⟩
      · intro j u hu
        match j, hu with
        | 0, hu => simp [Val.cells] at hu; subst hu; exact hc0
        | 1, hu => simp [Val.cells] at hu; subst hu; exact hc1
        | 2, hu => simp [Val.cells] at hu; subst hu; exact hc2
        | 3, hu => simp [Val.cells] at hu; subst hu; exact hc3
        | j + 4, hu => simp [Val.cells] at hu
      · have hys : ys = [(DataW.lit (.int .i64 a0), []), (DataW.lit (.int .i64 a1), []), (DataW.lit (.string s.data.toList), []), (DataW.lit (.bool b), [])] := by
          match ys, hlen with
          | [z0, z1, z2, z3], _ =>
            simp at hy0 hy1 hy2 hy3
            rw [hy0, hy1, hy2, hy3]
        rw [hD, hys]
        simp [Rows.uptoBulk, Rows.uptoBulkAll, bulkV]
        omega
    have inh : Inhabited Val := ⟨⟨0, 0, ⟨#[]⟩, false⟩⟩
    obtain ⟨X, hX⟩ := choose_lt one
    refine ⟨(List.range n).map X, ⟨some a, _, rfl, by rw [K.cellsOf_length]; simp, hl, fun hn => ?_⟩, ?_, ?_⟩
    · obtain ⟨hc, _, _⟩ := hX 0 hn
      have hc0 := hc 0 _ rfl
      obtain ⟨b, off, spot⟩ := a
      have hsp : spot = none := by
        have := World.cell?_spot hc0
        simpa [Addr.add] using this
      subst hsp
      refine ⟨b, off, rfl, World.block_lt_of_cell? w _ hc0, fun j u hu => ?_⟩
      have hj : j < n * 4 := by
        have := (List.getElem?_eq_some_iff.1 hu).1
        rw [K.cellsOf_length] at this
        simpa using this
      have hq : j / 4 < n := by omega
      have := K.cellsOf_at ((List.range n).map X) (j / 4) (j % 4) (by simpa using hq) (by omega)
      rw [show j / 4 * 4 + j % 4 = j by omega, hu] at this
      simp at this
      have h2 := (hX (j / 4) hq).1 (j % 4) u this.symm
      rw [show j / 4 * 4 + j % 4 = j by omega, Addr.add_lit] at h2
      exact h2
    · intro x hx
      obtain ⟨i, hi, rfl⟩ := List.mem_map.1 hx
      exact (hX i (List.mem_range.1 hi)).2.1
    · simp only [Prod.mk.injEq] at hx
      rw [hx.1]
      simp only [Rows.uptoBulk]
      rw [bulk_map]
      have : ((List.range n).map X).map bulkV = (List.range n).map (fun i => Rows.uptoBulk (D i)) := by
        rw [List.map_map]
        exact List.map_congr_left (fun i hi => ((hX i (List.mem_range.1 hi)).2.2).symm)
      rw [this]
      omega

theorem bulk_mem (l : List Val) (x : Val) (h : x ∈ l) : bulkV x ≤ (l.map bulkV).sum := by
  induction l with
  | nil => cases h
  | cons y l ih =>
    simp only [List.map_cons, List.sum_cons]
    rcases List.mem_cons.1 h with rfl | h
    · omega
    · have := ih h; omega

theorem bulk_len (l : List Val) : l.length ≤ (l.map bulkV).sum := by
  induction l with
  | nil => simp
  | cons y l ih => simp only [List.map_cons, List.sum_cons, List.length_cons, bulkV]; omega

theorem enc_bulk (x : Val) : (K.enc x).length ≤ 2 * bulkV x := by
  unfold K.enc bulkV
  split
  · simp [K.be8]; omega
  split
  · have := (K.esc_length x.txt.data.toList).2
    rw [ul_len] at this
    simp; omega
  split <;> simp <;> omega

theorem clean_bulk (x : Val) : bulkV (K.clean x) ≤ bulkV x := by
  unfold K.clean bulkV
  split
  · show 0 + 5 ≤ _; omega
  split
  · exact Nat.le_refl _
  split
  · show 0 + 5 ≤ _; omega
  · show 0 + 5 ≤ _; omega

theorem join_bulk (l : List Val) : (K.join l).length ≤ 2 * (l.map bulkV).sum := by
  induction l with
  | nil => simp [K.join]
  | cons x l ih =>
    have := enc_bulk x
    simp only [K.join, List.flatMap_cons, List.length_append, List.map_cons, List.sum_cons] at ih ⊢
    omega

theorem join_clean_bulk (l : List Val) : (K.join (l.map K.clean)).length ≤ 2 * (l.map bulkV).sum := by
  have h1 := join_bulk (l.map K.clean)
  have h2 : ((l.map K.clean).map bulkV).sum ≤ (l.map bulkV).sum := by
    induction l with
    | nil => simp
    | cons x l ih =>
      have := clean_bulk x
      have h3 := join_bulk (l.map K.clean)
      simp only [List.map_cons, List.sum_cons] at ih ⊢
      have := ih h3
      omega
  omega

end Go.Proofs.Ytblpmbbodajjeaa

/- Which edges are left when no round is: plain mathematics. Conditions: none. -/
import Derived.Test.YtjakekfalooebaaWEdge
import Derived.Test.YtjakekfalooebaaWPlain
namespace Go.Proofs.Ytjakekfalooebaa
set_option linter.unusedVariables false
namespace W

/-- the youngest of those that wait in rounds is gone, again and again -/
inductive FreeTo : List (Int × Int) → List (Int × Int) → Prop
  | done {l : List (Int × Int)} : (∀ e ∈ l, ¬ Rch l e.1 e.1) → FreeTo l l
  | step {l f : List (Int × Int)} {v : Int} : Rch l v v → (∀ e ∈ l, Rch l e.1 e.1 → e.1 ≤ v) → FreeTo (wout l v) f → FreeTo l f

theorem Rch.src {l : List (Int × Int)} {a b : Int} (h : Rch l a b) : ∃ e ∈ l, e.1 = a := by
  have := h.source
  rw [List.mem_map] at this
  exact this

theorem FreeTo.eq {l f g : List (Int × Int)} (h : FreeTo l f) (k : FreeTo l g) : f = g := by
  induction h generalizing g with
  | done hn =>
    cases k with
    | done _ => rfl
    | step hv _ _ =>
      obtain ⟨e, he, rfl⟩ := hv.src
      exact absurd hv (hn e he)
  | @step l f v hv hm _ ih =>
    cases k with
    | done hn =>
      obtain ⟨e, he, rfl⟩ := hv.src
      exact absurd hv (hn e he)
    | @step _ _ u hu hk k =>
      obtain ⟨e, he, e1⟩ := hv.src
      obtain ⟨e', he', e2⟩ := hu.src
      have h1 := hk e he (by rw [e1]; exact hv)
      have h2 := hm e' he' (by rw [e2]; exact hu)
      have : u = v := by omega
      subst this
      exact ih k

theorem wout_sub {l : List (Int × Int)} {v : Int} : ∀ e, e ∈ wout l v → e ∈ l := fun _ h => (List.mem_filter.1 h).1
theorem mem_wout {l : List (Int × Int)} {v : Int} {e : Int × Int} : e ∈ wout l v ↔ e ∈ l ∧ e.1 ≠ v ∧ e.2 ≠ v := by
  unfold wout
  rw [List.mem_filter, decide_eq_true_eq]

theorem wout_lt {l : List (Int × Int)} {v : Int} (h : Rch l v v) : (wout l v).length < l.length := by
  obtain ⟨e, he, rfl⟩ := h.src
  apply Classical.byContradiction
  intro hc
  have hle := wout_length l e.1
  have hs : List.Sublist (wout l e.1) l := List.filter_sublist
  have heq : wout l e.1 = l := hs.eq_of_length_le (by omega)
  have := (mem_wout.1 (heq.symm ▸ he : e ∈ wout l e.1)).2.1
  exact this rfl

theorem FreeTo.none {l f : List (Int × Int)} (h : FreeTo l f) : ∀ e ∈ f, ¬ Rch f e.1 e.1 := by
  induction h with
  | done hn => exact hn
  | step _ _ _ ih => exact ih
theorem FreeTo.sub {l f : List (Int × Int)} (h : FreeTo l f) : ∀ e ∈ f, e ∈ l := by
  induction h with
  | done hn => exact fun _ h => h
  | step _ _ _ ih => exact fun e he => wout_sub e (ih e he)
theorem FreeTo.length {l f : List (Int × Int)} (h : FreeTo l f) : f.length ≤ l.length := by
  induction h with
  | done hn => exact Nat.le_refl _
  | @step l f v _ _ _ ih => exact Nat.le_trans ih (wout_length l v)

/-- amid the search for the youngest: the first k edges are asked -/
structure Best (l : List (Int × Int)) (k : Nat) (v : Int) (some : Bool) : Prop where
  no : some = false → ∀ e ∈ l.take k, ¬ Rch l e.1 e.1
  yes : some = true → Rch l v v ∧ ∀ e ∈ l.take k, Rch l e.1 e.1 → e.1 ≤ v
theorem Best.start (l : List (Int × Int)) (v : Int) : Best l 0 v false := ⟨by simp, (by intro h; cases h)⟩
theorem Best.skip {l : List (Int × Int)} {k : Nat} {v : Int} {s : Bool} (h : Best l k v s) {e : Int × Int} (he : l[k]? = Option.some e) (hn : Rch l e.1 e.1 → s = true ∧ e.1 ≤ v) : Best l (k + 1) v s := by
  refine ⟨fun hs x hx => ?_, fun hs => ⟨(h.yes hs).1, fun x hx hr => ?_⟩⟩
  · rw [take_snoc _ _ _ he, List.mem_append, List.mem_singleton] at hx
    rcases hx with hx | rfl
    · exact h.no hs x hx
    · intro hr; have := (hn hr).1; rw [hs] at this; cases this
  · rw [take_snoc _ _ _ he, List.mem_append, List.mem_singleton] at hx
    rcases hx with hx | rfl
    · exact (h.yes hs).2 x hx hr
    · exact (hn hr).2
theorem Best.take {l : List (Int × Int)} {k : Nat} {v : Int} {s : Bool} (h : Best l k v s) {e : Int × Int} (he : l[k]? = Option.some e) (hr : Rch l e.1 e.1) (hv : s = true → v < e.1) : Best l (k + 1) e.1 true := by
  refine ⟨(by intro h; cases h), fun _ => ⟨hr, fun x hx hx2 => ?_⟩⟩
  rw [take_snoc _ _ _ he, List.mem_append, List.mem_singleton] at hx
  rcases hx with hx | rfl
  · cases s with
    | true => have := (h.yes rfl).2 x hx hx2; have := hv rfl; omega
    | false => exact absurd hx2 (h.no rfl x hx)
  · exact Int.le_refl _
end W
end Go.Proofs.Ytjakekfalooebaa

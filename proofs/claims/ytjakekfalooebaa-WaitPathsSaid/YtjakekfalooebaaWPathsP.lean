/- Edges from younger to older, and one edge back: plain mathematics. Conditions: none. -/
import Derived.Test.YtjakekfalooebaaWFreeP
namespace Go.Proofs.Ytjakekfalooebaa
set_option linter.unusedVariables false
namespace W

def down (l : List (Int × Int)) : List (Int × Int) := l.filter fun e => decide (e.2 < e.1)
theorem down_snoc_yes (l : List (Int × Int)) (e : Int × Int) (h : e.2 < e.1) : down (l ++ [e]) = down l ++ [e] := by simp [down, h]
theorem down_snoc_no (l : List (Int × Int)) (e : Int × Int) (h : ¬ e.2 < e.1) : down (l ++ [e]) = down l := by simp [down, h]
theorem down_length (l : List (Int × Int)) : (down l).length ≤ l.length := List.length_filter_le _ _
theorem down_edge {l : List (Int × Int)} {a b : Int} (h : (a, b) ∈ down l) : b < a := by
  simp only [down, List.mem_filter, decide_eq_true_eq] at h
  exact h.2
theorem down_rch {l : List (Int × Int)} {a b : Int} (h : Rch (down l) a b) : b < a := by
  induction h with
  | one e => exact down_edge e
  | snoc _ e ih => have := down_edge e; omega
theorem down_free {l f : List (Int × Int)} (h : FreeTo (down l) f) : f = down l :=
  h.eq (.done (fun e _ hr => by have := down_rch hr; omega))
theorem down_vic {l : List (Int × Int)} {x v : Int} {ok : Bool} (h : IsVic (down l) x v ok) : ok = false := by
  cases ok with
  | false => rfl
  | true =>
    obtain ⟨⟨h1, h2⟩, _⟩ := h.yes rfl
    have := down_rch (h1.trans h2); omega

/-- one edge back from p to q, p < q -/
def backL (l : List (Int × Int)) (p q : Int) : List (Int × Int) := down l ++ [(p, q)]
theorem back_edge {l : List (Int × Int)} {p q a b : Int} (h : (a, b) ∈ backL l p q) : b < a ∨ (a = p ∧ b = q) := by
  unfold backL at h
  rw [List.mem_append, List.mem_singleton, Prod.mk.injEq] at h
  rcases h with h | h
  · exact .inl (down_edge h)
  · exact .inr h
theorem back_mem (l : List (Int × Int)) (p q : Int) : (p, q) ∈ backL l p q := List.mem_append_right _ (List.mem_singleton.2 rfl)

theorem back_to {l : List (Int × Int)} {p q a : Int} (h : Rch (backL l p q) a p) : p ≤ a := by
  have key : ∀ {a b : Int}, Rch (backL l p q) a b → p ≤ b → p ≤ a := by
    intro a b h
    induction h with
    | one e => intro hb; rcases back_edge e with h | ⟨rfl, _⟩ <;> omega
    | snoc _ e ih => intro hb; exact ih (by rcases back_edge e with h | ⟨rfl, _⟩ <;> omega)
  exact key h (Int.le_refl _)
theorem back_from {l : List (Int × Int)} {p q a b : Int} (h : Rch (backL l p q) a b) (ha : a ≤ q) (hpq : p < q) : b ≤ q := by
  induction h with
  | one e => rcases back_edge e with h | ⟨_, rfl⟩ <;> omega
  | snoc _ e ih => have := ih; rcases back_edge e with h | ⟨_, rfl⟩ <;> omega
theorem back_or {l : List (Int × Int)} {p q a b : Int} (h : Rch (backL l p q) a b) : Rch (down l) a b ∨ ((a = p ∨ Rch (backL l p q) a p) ∧ (b = q ∨ Rch (backL l p q) q b)) := by
  have step : ∀ {x y : Int}, (x, y) ∈ backL l p q → (x, y) ∈ down l ∨ (x = p ∧ y = q) := by
    intro x y h
    unfold backL at h
    rw [List.mem_append, List.mem_singleton, Prod.mk.injEq] at h
    exact h
  induction h with
  | one e =>
    rcases step e with h | ⟨rfl, rfl⟩
    · exact .inl (.one h)
    · exact .inr ⟨.inl rfl, .inl rfl⟩
  | @snoc b c h0 e ih =>
    rcases step e with h | ⟨rfl, rfl⟩
    · rcases ih with h1 | ⟨h1, h2⟩
      · exact .inl (.snoc h1 h)
      · refine .inr ⟨h1, .inr ?_⟩
        rcases h2 with rfl | h2
        · exact .one e
        · exact .snoc h2 e
    · exact .inr ⟨.inr h0, .inl rfl⟩

/-- when a round is, both ends of the edge back lie on it -/
theorem back_round {l : List (Int × Int)} {p q x : Int} (hpq : p < q) (h : Rch (backL l p q) x x) : Rch (backL l p q) q p := by
  rcases back_or h with h1 | ⟨h1, h2⟩
  · have := down_rch h1; omega
  · rcases h1 with rfl | h1 <;> rcases h2 with h2 | h2
    · omega
    · exact h2
    · rw [h2] at h1; exact h1
    · exact h2.trans h1
theorem back_close {l : List (Int × Int)} {p q : Int} (h : Rch (backL l p q) q p) : Rch (backL l p q) p p ∧ Rch (backL l p q) q q ∧ Rch (backL l p q) p q := by
  have e : Rch (backL l p q) p q := .one (back_mem l p q)
  exact ⟨e.trans h, h.trans e, e⟩
theorem back_no {l : List (Int × Int)} {p q v : Int} (hpq : p < q) (h : IsVic (backL l p q) q v false) : ∀ x, ¬ Rch (backL l p q) x x :=
  fun x hx => (h.no rfl).2 (back_close (back_round hpq hx)).2.1
theorem back_yes {l : List (Int × Int)} {p q v : Int} (hpq : p < q) (h : IsVic (backL l p q) q v true) : v = q ∧ Rch (backL l p q) q p := by
  obtain ⟨⟨h1, h2⟩, h3⟩ := h.yes rfl
  have hq := h1.trans h2
  have := h3 q hq hq
  have := back_from h1 (Int.le_refl _) hpq
  exact ⟨by omega, back_round hpq hq⟩
theorem back_cyc {l : List (Int × Int)} {p q : Int} (hpq : p < q) (hr : Rch (backL l p q) q p) {c : List Int} (h : IsCyc (backL l p q) p c) :
    1 < c.length ∧ c[0]? = some p ∧ ∀ x ∈ c, p ≤ x ∧ x ≤ q := by
  obtain ⟨h1, h2, h3⟩ := back_close hr
  have hp : p ∈ c := (h.iff p).2 ⟨h1, h1⟩
  have hq : q ∈ c := (h.iff q).2 ⟨h3, hr⟩
  have hb : ∀ x ∈ c, p ≤ x ∧ x ≤ q := fun x hx => ⟨back_to ((h.iff x).1 hx).2, back_from ((h.iff x).1 hx).1 (by omega) hpq⟩
  match c, h.ord, hp, hq, hb with
  | [], _, hp, _, _ => cases hp
  | [x], _, hp, hq, _ => simp at hp hq; omega
  | x :: y :: r, ho, hp, hq, hb =>
    refine ⟨by simp, ?_, hb⟩
    rw [List.mem_cons] at hp
    rcases hp with rfl | hp
    · rfl
    · rw [List.pairwise_cons] at ho
      have h1 := ho.1 p hp
      have h2 := (hb x (by simp)).1
      omega
theorem back_cyc_no {l : List (Int × Int)} {p q v : Int} (hpq : p < q) (h : IsVic (backL l p q) q v false) {c : List Int} (hc : IsCyc (backL l p q) p c) : c = [] := hc.nil (back_no hpq h p)
theorem back_free {l f : List (Int × Int)} {p q v : Int} (hpq : p < q) (h : IsVic (backL l p q) q v false) (hf : FreeTo (backL l p q) f) : f = backL l p q :=
  hf.eq (.done (fun e _ hr => back_no hpq h e.1 hr))
end W
end Go.Proofs.Ytjakekfalooebaa

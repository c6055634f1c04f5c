/- A round with other edges beside it: plain mathematics. Conditions: none. -/
import Derived.Test.YtjakekfalooebaaWFreeP
namespace Go.Proofs.Ytjakekfalooebaa
set_option linter.unusedVariables false
namespace W

def nxt (n : Nat) (i : Nat) : Int := if i + 1 = n then 1 else (i : Int) + 1 + 1
def ringL (n : Nat) : List (Int × Int) := (List.range n).map fun (i : Nat) => ((i : Int) + 1, nxt n i)
def moreF (n : Nat) (m : List (Int × Int)) : List (Int × Int) := m.filter fun e => decide ((n : Int) < e.2)

theorem ringL_length (n : Nat) : (ringL n).length = n := by simp [ringL]
theorem ringL_at (n i : Nat) (h : i < n) : (ringL n)[i]? = some ((i : Int) + 1, nxt n i) := by simp [ringL, h]
theorem ringL_take (n i : Nat) (h : i < n) : (ringL n).take (i + 1) = (ringL n).take i ++ [((i : Int) + 1, nxt n i)] := take_snoc _ _ _ (ringL_at n i h)
theorem mem_ringL {n : Nat} {a b : Int} : (a, b) ∈ ringL n ↔ ∃ i, i < n ∧ a = (i : Int) + 1 ∧ b = nxt n i := by
  simp only [ringL, List.mem_map, List.mem_range, Prod.mk.injEq]
  constructor
  · rintro ⟨i, h, e1, e2⟩; exact ⟨i, h, e1.symm, e2.symm⟩
  · rintro ⟨i, h, e1, e2⟩; exact ⟨i, h, e1.symm, e2.symm⟩
theorem nxt_range {n i : Nat} (h : i < n) : 1 ≤ nxt n i ∧ nxt n i ≤ n := by unfold nxt; split <;> omega
theorem moreF_snoc_yes (n : Nat) (m : List (Int × Int)) (e : Int × Int) (h : (n : Int) < e.2) : moreF n (m ++ [e]) = moreF n m ++ [e] := by simp [moreF, h]
theorem moreF_snoc_no (n : Nat) (m : List (Int × Int)) (e : Int × Int) (h : ¬ (n : Int) < e.2) : moreF n (m ++ [e]) = moreF n m := by simp [moreF, h]
theorem moreF_length (n : Nat) (m : List (Int × Int)) : (moreF n m).length ≤ m.length := List.length_filter_le _ _

def G (n : Nat) (m : List (Int × Int)) : List (Int × Int) := ringL n ++ moreF n m
theorem G_edge {n : Nat} {m : List (Int × Int)} {a b : Int} (h : (a, b) ∈ G n m) : (∃ i, i < n ∧ a = (i : Int) + 1 ∧ b = nxt n i) ∨ (n : Int) < b := by
  unfold G at h
  rw [List.mem_append] at h
  rcases h with h | h
  · exact .inl (mem_ringL.1 h)
  · right
    simp only [moreF, List.mem_filter, decide_eq_true_eq] at h
    exact h.2
theorem G_low {n : Nat} {m : List (Int × Int)} {a b : Int} (h : Rch (G n m) a b) (hb : b ≤ n) : 1 ≤ a ∧ a ≤ n := by
  induction h with
  | one e =>
    rcases G_edge e with ⟨i, h1, h2, h3⟩ | h
    · omega
    · omega
  | snoc _ e ih =>
    rcases G_edge e with ⟨i, h1, h2, h3⟩ | h
    · exact ih (by omega)
    · omega
theorem G_ring {n : Nat} {m : List (Int × Int)} {i : Nat} (h : i < n) : ((i : Int) + 1, nxt n i) ∈ G n m := List.mem_append_left _ (mem_ringL.2 ⟨i, h, rfl, rfl⟩)
theorem G_step {n : Nat} {m : List (Int × Int)} (i j : Nat) (h : i + j + 1 < n) : Rch (G n m) ((i : Int) + 1) ((i : Int) + j + 1 + 1) := by
  induction j with
  | zero =>
    have := G_ring (m := m) (i := i) (n := n) (by omega)
    unfold nxt at this
    rw [if_neg (by omega)] at this
    exact .one (by simpa using this)
  | succ j ih =>
    have h1 := ih (by omega)
    have := G_ring (m := m) (i := i + j + 1) (n := n) (by omega)
    unfold nxt at this
    rw [if_neg (by omega)] at this
    have e : (((i + j + 1 : Nat) : Int) + 1, ((i + j + 1 : Nat) : Int) + 1 + 1) = ((i : Int) + j + 1 + 1, (i : Int) + ((j + 1 : Nat) : Int) + 1 + 1) := by
      rw [Prod.mk.injEq]; constructor <;> omega
    rw [e] at this
    exact .snoc h1 this
theorem G_last {n : Nat} {m : List (Int × Int)} (h : 0 < n) : ((n : Int), 1) ∈ G n m := by
  have := G_ring (m := m) (i := n - 1) (n := n) (by omega)
  unfold nxt at this
  rw [if_pos (by omega)] at this
  have e : (((n - 1 : Nat) : Int) + 1) = n := by omega
  rwa [e] at this
theorem G_to1 {n : Nat} {m : List (Int × Int)} {x : Int} (h1 : 1 ≤ x) (h2 : x ≤ n) : Rch (G n m) x 1 := by
  obtain ⟨i, rfl⟩ : ∃ i : Nat, x = (i : Int) + 1 := ⟨(x - 1).toNat, by omega⟩
  by_cases he : i + 1 = n
  · have := G_last (m := m) (n := n) (by omega)
    have e : ((i : Int) + 1) = n := by omega
    rw [e]
    exact .one this
  · have h := G_step (m := m) (n := n) i (n - 2 - i) (by omega)
    have e : (i : Int) + ((n - 2 - i : Nat) : Int) + 1 + 1 = n := by omega
    rw [e] at h
    exact .snoc h (G_last (by omega))
theorem G_from1 {n : Nat} {m : List (Int × Int)} {x : Int} (h1 : 1 ≤ x) (h2 : x ≤ n) : Rch (G n m) 1 x := by
  by_cases he : x = 1
  · subst he; exact G_to1 h1 h2
  · obtain ⟨j, rfl⟩ : ∃ j : Nat, x = (0 : Int) + j + 1 + 1 := ⟨(x - 2).toNat, by omega⟩
    have h := G_step (m := m) (n := n) 0 j (by omega)
    simpa using h
theorem G_cyc {n : Nat} {m : List (Int × Int)} (hn : 1 ≤ n) {c : List Int} (h : IsCyc (G n m) 1 c) : c.length = n := by
  have k : IsCyc (G n m) 1 ((List.range n).map fun (i : Nat) => (i : Int) + 1) := by
    refine ⟨?_, fun x => ?_⟩
    · rw [List.pairwise_map]
      exact List.pairwise_lt_range.imp (fun h => by omega)
    · rw [List.mem_map]
      constructor
      · rintro ⟨i, hi, rfl⟩
        rw [List.mem_range] at hi
        exact ⟨G_from1 (by omega) (by omega), G_to1 (by omega) (by omega)⟩
      · rintro ⟨_, hr⟩
        have := G_low hr (by omega)
        exact ⟨(x - 1).toNat, by rw [List.mem_range]; omega, by omega⟩
  rw [h.eq k]; simp
theorem G_vic {n : Nat} {m : List (Int × Int)} (hn : 1 ≤ n) {v : Int} {ok : Bool} (h : IsVic (G n m) n v ok) : v = n ∧ ok = true := by
  refine h.eq ⟨fun _ => ⟨?_, fun x _ hx => (G_low hx (Int.le_refl _)).2⟩, (by intro h; cases h)⟩
  have h1 : Rch (G n m) n n := (G_to1 (by omega) (Int.le_refl _)).trans (G_from1 (by omega) (Int.le_refl _))
  exact ⟨h1, h1⟩
theorem G_cut {n : Nat} {m : List (Int × Int)} (hn : 1 ≤ n) : ¬ Rch (wout (G n m) n) 1 1 := by
  intro h
  have key : ∀ a : Int, (a, (1 : Int)) ∈ wout (G n m) n → False := by
    intro a ha
    obtain ⟨h1, h2, h3⟩ := mem_wout.1 ha
    rcases G_edge h1 with ⟨i, hi, e1, e2⟩ | hb
    · unfold nxt at e2
      split at e2
      · exact h2 (by show a = _; omega)
      · omega
    · omega
  cases h with
  | one e => exact key _ e
  | snoc _ e => exact key _ e

theorem nxt_mod {n i : Nat} (h : i < n) : ((i : Int) + 1) % (n : Int) + 1 = nxt n i := by
  unfold nxt
  split
  · rename_i he
    have e : ((i : Int) + 1) = (n : Int) := by omega
    rw [e, Int.emod_self]; rfl
  · rw [Int.emod_eq_of_lt (by omega) (by omega)]

end W
end Go.Proofs.Ytjakekfalooebaa

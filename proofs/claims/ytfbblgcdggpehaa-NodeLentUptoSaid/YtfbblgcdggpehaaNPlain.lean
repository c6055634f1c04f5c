/- Plain mathematics of layer 12: bytes in order. Conditions: none. -/
import Derived.Test.YtfbblgcdggpehaaKit
namespace Go.Proofs.Ytfbblgcdggpehaa
set_option linter.unusedSimpArgs false
set_option linter.unusedVariables false

def lessB (a b : List UInt8) : Bool := Op.bytesLess a b

theorem less_irr : ∀ a : List UInt8, lessB a a = false
  | [] => rfl
  | c :: a => by
    have := less_irr a
    simp only [lessB] at this
    simp [lessB, Op.bytesLess, this]

theorem less_total : ∀ a b : List UInt8, lessB a b = false → a ≠ b → lessB b a = true
  | [], [], _, h => absurd rfl h
  | [], _ :: _, h, _ => by simp [lessB, Op.bytesLess] at h
  | _ :: _, [], _, _ => by simp [lessB, Op.bytesLess]
  | c :: a, d :: b, h, hne => by
    simp only [lessB, Op.bytesLess, Bool.or_eq_false_iff, decide_eq_false_iff_not, Bool.and_eq_false_iff] at h ⊢
    obtain ⟨h1, h2⟩ := h
    by_cases e : c = d
    · subst e
      have h3 : Op.bytesLess a b = false := by
        rcases h2 with h2 | h2
        · simp at h2
        · exact h2
      have := less_total a b h3 (fun e => hne (by rw [e]))
      simp only [lessB] at this
      simp [this]
    · have : d < c := by
        rw [UInt8.lt_iff_toNat_lt] at h1 ⊢
        have : c.toNat ≠ d.toNat := fun e2 => e (UInt8.toNat_inj.1 e2)
        omega
      simp [this]

theorem less_trans : ∀ a b c : List UInt8, lessB a b = true → lessB b c = true → lessB a c = true
  | [], [], _, h, _ => by simp [lessB, Op.bytesLess] at h
  | _ :: _, [], _, h, _ => by simp [lessB, Op.bytesLess] at h
  | _, _ :: _, [], _, h => by simp [lessB, Op.bytesLess] at h
  | [], _ :: _, _ :: _, _, _ => by simp [lessB, Op.bytesLess]
  | x :: a, y :: b, z :: c, h1, h2 => by
    simp only [lessB, Op.bytesLess, Bool.or_eq_true, decide_eq_true_eq, Bool.and_eq_true, beq_iff_eq] at h1 h2 ⊢
    rcases h1 with h1 | ⟨rfl, h1⟩
    · rcases h2 with h2 | ⟨rfl, h2⟩
      · left; rw [UInt8.lt_iff_toNat_lt] at *; omega
      · left; exact h1
    · rcases h2 with h2 | ⟨rfl, h2⟩
      · left; exact h2
      · right; exact ⟨rfl, less_trans a b c h1 h2⟩

theorem less_asymm (a b : List UInt8) (h : lessB a b = true) : lessB b a = false := by
  cases h2 : lessB b a with
  | false => rfl
  | true => rw [← less_irr a, less_trans a b a h h2]

/-- 'a ≤ b' -/
theorem leq_iff (a b : List UInt8) : (Op.bytesLess a b || a == b) = !lessB b a := by
  by_cases e : a = b
  · subst e; simp [less_irr]
  · cases h : lessB a b with
    | true => rw [less_asymm a b h]; simp only [lessB] at h; simp [h]
    | false => rw [less_total a b h e]; simp only [lessB] at h; simp [h, e]

def keysOk (K : List (List UInt8)) : Prop := (∀ (i : Nat) (l : List UInt8), K[i]? = some l → l.length ≤ 100) ∧ (∀ (i : Nat) (a b : List UInt8), K[i]? = some a → K[i + 1]? = some b → lessB a b = true)
def KeysTo (K : List (List UInt8)) (k : Nat) : Prop := (∀ (i : Nat) (l : List UInt8), i < k → K[i]? = some l → l.length ≤ 100) ∧ (∀ (i : Nat) (a b : List UInt8), i + 1 < k → K[i]? = some a → K[i + 1]? = some b → lessB a b = true)
theorem KeysTo.zero (K : List (List UInt8)) : KeysTo K 0 := ⟨fun i l h => absurd h (Nat.not_lt_zero _), fun i a b h => absurd h (Nat.not_lt_zero _)⟩
theorem KeysTo.step {K : List (List UInt8)} {k : Nat} {l : List UInt8} (h : KeysTo K k) (hu : K[k]? = some l) (hl : l.length ≤ 100) (hp : k = 0 ∨ ∃ l2, K[k - 1]? = some l2 ∧ lessB l2 l = true) : KeysTo K (k + 1) := by
  refine ⟨fun i m hi hm => ?_, fun i a b hi ha hb => ?_⟩
  · by_cases e : i = k
    · subst e; rw [hu] at hm; obtain rfl := Option.some.inj hm; exact hl
    · exact h.1 i m (by omega) hm
  · by_cases e : i + 1 = k
    · subst e
      rw [hu] at hb
      obtain rfl := Option.some.inj hb
      rcases hp with hp | ⟨l2, h2, h3⟩
      · omega
      · rw [Nat.add_sub_cancel, ha] at h2
        obtain rfl := Option.some.inj h2
        exact h3
    · exact h.2 i a b (by omega) ha hb
theorem KeysTo.all {K : List (List UInt8)} {k : Nat} (h : KeysTo K k) (hk : K.length = k) : keysOk K := by
  subst hk
  exact ⟨fun i l hl => h.1 i l (List.getElem?_eq_some_iff.1 hl).1 hl, fun i a b ha hb => h.2 i a b (List.getElem?_eq_some_iff.1 hb).1 ha hb⟩

/-- all of the first k -/
def AllTo {α : Type} (p : α → Prop) (L : List α) (k : Nat) : Prop := ∀ (i : Nat) (l : α), i < k → L[i]? = some l → p l
theorem AllTo.zero {α : Type} (p : α → Prop) (L : List α) : AllTo p L 0 := fun i l h => absurd h (Nat.not_lt_zero _)
theorem AllTo.step {α : Type} {p : α → Prop} {L : List α} {k : Nat} {l : α} (h : AllTo p L k) (hu : L[k]? = some l) (hl : p l) : AllTo p L (k + 1) := by
  intro i m hi hm
  by_cases e : i = k
  · subst e; rw [hu] at hm; obtain rfl := Option.some.inj hm; exact hl
  · exact h i m (by omega) hm
theorem AllTo.all {α : Type} {p : α → Prop} {L : List α} {k : Nat} (h : AllTo p L k) (hk : L.length = k) : ∀ (i : Nat) (l : α), L[i]? = some l → p l := by
  subst hk
  exact fun i l hl => h i l (List.getElem?_eq_some_iff.1 hl).1 hl

end Go.Proofs.Ytfbblgcdggpehaa

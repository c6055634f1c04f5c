/- The plain law of reading back: what is written is read as it was, alone and in lists. Conditions: the numbers are int64. -/
import Derived.Test.YtblpmbbodajjeaaKLaw
namespace Go.Proofs.Ytblpmbbodajjeaa.K
set_option linter.unusedSimpArgs false
set_option linter.unusedVariables false

theorem dec_pos (L : List UInt8) (p : Val × Nat) (h : dec L = some p) : 1 ≤ p.2 ∧ p.2 ≤ L.length := by
  cases L with
  | nil => cases h
  | cons c l =>
    simp only [dec] at h
    split at h
    · cases h; simp
    split at h
    · split at h
      · cases h; simp; omega
      · cases h
    split at h
    · cases ht : txt l with
      | none => rw [ht] at h; cases h
      | some q =>
        rw [ht] at h
        cases h
        have := (txt_le _ l q (Nat.le_refl _) ht).1
        simp; omega
    split at h
    · split at h
      · cases h; simp; omega
      · cases h
    · cases h

/-- the values that bytes say, with so many tries -/
def splitF : Nat → List UInt8 → Option (List Val)
  | 0, L => if L = [] then some [] else none
  | n + 1, L => if L = [] then some [] else
    match dec L with
    | none => none
    | some p => (splitF n (L.drop p.2)).map (p.1 :: ·)

def split (L : List UInt8) : Option (List Val) := splitF L.length L

theorem splitF_enough : ∀ (n m : Nat) (L : List UInt8), L.length ≤ n → L.length ≤ m → splitF n L = splitF m L := by
  intro n
  induction n with
  | zero =>
    intro m L hn hm
    have : L = [] := List.eq_nil_of_length_eq_zero (by omega)
    subst this
    cases m <;> simp [splitF]
  | succ n ih =>
    intro m L hn hm
    by_cases hL : L = []
    · subst hL; cases m <;> simp [splitF]
    · have hpos : 0 < L.length := List.length_pos_iff.2 hL
      match m, hm with
      | 0, hm => omega
      | m + 1, hm =>
        simp only [splitF, if_neg hL]
        cases hd : dec L with
        | none => rfl
        | some p =>
          have := dec_pos L p hd
          simp only
          rw [ih m (L.drop p.2) (by simp; omega) (by simp; omega)]

theorem split_nil : split [] = some [] := by simp [split, splitF]
theorem split_none (L : List UInt8) (hL : L ≠ []) (h : dec L = none) : split L = none := by
  have hpos : 0 < L.length := List.length_pos_iff.2 hL
  obtain ⟨n, hn⟩ : ∃ n, L.length = n + 1 := ⟨L.length - 1, by omega⟩
  simp [split, hn, splitF, hL, h]
theorem split_some (L : List UInt8) (p : Val × Nat) (h : dec L = some p) : split L = (split (L.drop p.2)).map (p.1 :: ·) := by
  have hL : L ≠ [] := fun e => by subst e; cases h
  have hpos : 0 < L.length := List.length_pos_iff.2 hL
  obtain ⟨n, hn⟩ : ∃ n, L.length = n + 1 := ⟨L.length - 1, by omega⟩
  have := dec_pos L p h
  unfold split
  rw [hn]
  simp only [splitF, if_neg hL, h]
  rw [splitF_enough n _ (L.drop p.2) (by simp; omega) (Nat.le_refl _)]

theorem split_len : ∀ (n : Nat) (L : List UInt8) (l : List Val), L.length ≤ n → split L = some l → l.length ≤ L.length := by
  intro n
  induction n with
  | zero =>
    intro L l hn h
    have : L = [] := List.eq_nil_of_length_eq_zero (by omega)
    subst this
    rw [split_nil] at h; cases h; simp
  | succ n ih =>
    intro L l hn h
    by_cases hL : L = []
    · subst hL; rw [split_nil] at h; cases h; simp
    · cases hd : dec L with
      | none => rw [split_none L hL hd] at h; cases h
      | some p =>
        have hp := dec_pos L p hd
        rw [split_some L p hd] at h
        cases hs : split (L.drop p.2) with
        | none => rw [hs] at h; cases h
        | some r =>
          rw [hs] at h
          cases h
          have := ih (L.drop p.2) r (by simp; omega) hs
          simp at this ⊢; omega

theorem txt_esc (a t : List UInt8) : txt (esc a ++ 0 :: 0 :: t) = some (a, (esc a).length + 2) := by
  induction a with
  | nil => simp [esc, txt_z2]
  | cons c a ih =>
    by_cases hc : c = 0
    · subst hc
      simp only [esc, if_true, List.cons_append]
      rw [txt_z2, if_pos rfl, ih]
      simp
    · simp only [esc, if_neg hc, List.cons_append]
      rw [txt_ne _ _ hc, ih]
      simp

theorem byteArray_back (s : ByteArray) : (⟨s.data.toList.toArray⟩ : ByteArray) = s := rfl

/-- what is written is read as it was, whatever comes behind -/
theorem dec_enc (x : Val) (hx : Clean x) (t : List UInt8) : dec (enc x ++ t) = some (x, (enc x).length) := by
  have tx : x.ty = 0 ∨ x.ty = 1 ∨ x.ty = 2 ∨ x.ty = 3 := by have := clean_ty x; rw [← hx.1] at this; exact this
  obtain ⟨ty, num, s, b⟩ := x
  have hcl := hx.1
  have hn := hx.2
  simp only at tx hn
  rcases tx with rfl | rfl | rfl | rfl
  · simp only [clean] at hcl
    simp at hcl
    obtain ⟨rfl, rfl, rfl⟩ := hcl
    simp [enc, dec]
  · simp only [clean] at hcl
    simp at hcl
    obtain ⟨rfl, rfl⟩ := hcl
    have e : enc ⟨1, num, ⟨#[]⟩, false⟩ = 1 :: be8 (num + 9223372036854775808).toNat := by simp [enc]
    rw [e, List.cons_append]
    have hlen : 8 ≤ (be8 (num + 9223372036854775808).toNat ++ t).length := by simp [be8]
    have htake : (be8 (num + 9223372036854775808).toNat ++ t).take 8 = be8 (num + 9223372036854775808).toNat := by
      rw [List.take_append_of_le_length (by simp [be8])]; simp [be8]
    simp only [dec]
    rw [if_neg (by decide), if_pos trivial, if_pos hlen, htake, un_be8 _ (by omega)]
    simp only [Option.some.injEq, Prod.mk.injEq, Val.mk.injEq, true_and, and_true]
    refine ⟨by omega, by simp [be8]⟩
  · simp only [clean] at hcl
    simp at hcl
    obtain ⟨rfl, rfl⟩ := hcl
    have e : enc ⟨2, 0, s, false⟩ = 2 :: (esc s.data.toList ++ [0, 0]) := by simp [enc]
    rw [e, List.cons_append, List.append_assoc]
    simp only [dec]
    rw [if_neg (by decide), if_neg (by decide), if_pos trivial]
    have := txt_esc s.data.toList t
    simp only [List.cons_append, List.nil_append] at this ⊢
    rw [this]
    simp
  · simp only [clean] at hcl
    simp at hcl
    obtain ⟨rfl, rfl⟩ := hcl
    cases b <;> simp [enc, dec]

theorem split_join (l : List Val) (h : ∀ x ∈ l, Clean x) : split (join l) = some l := by
  induction l with
  | nil => exact split_nil
  | cons x l ih =>
    have e : join (x :: l) = enc x ++ join l := rfl
    rw [e, split_some _ _ (dec_enc x (h x (by simp)) (join l))]
    simp only
    rw [List.drop_left, ih (fun y hy => h y (by simp [hy]))]
    rfl

end Go.Proofs.Ytblpmbbodajjeaa.K

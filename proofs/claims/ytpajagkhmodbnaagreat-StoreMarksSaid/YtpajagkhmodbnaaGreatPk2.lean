/- Pk: texts of the store seat laid together by program: NKit. Conditions: each theorem names its own. -/
import Derived.Test.YtpajagkhmodbnaaGreatPk1
import Derived.ArgAppend
namespace Go.Proofs.YtpajagkhmodbnaaGreat
set_option linter.unusedSimpArgs false
set_option linter.unusedVariables false
section
open Go.RowKit
def Kept (X : Nat → Prop) (w : World) (p : World → Prop) : Prop := ∀ w', GrowX X w w' → p w'
theorem Kept.now {X : Nat → Prop} {w : World} {p : World → Prop} (h : Kept X w p) : p w := h w (GrowX.refl w)
theorem Kept.grow {X : Nat → Prop} {w w' : World} {p : World → Prop} (h : Kept X w p) (hg : GrowX X w w') : Kept X w' p := fun w'' h' => h w'' (hg.trans h')
theorem Kept.mono {X Y : Nat → Prop} {w : World} {p : World → Prop} (h : Kept X w p) (hY : ∀ k, k < w.heap.size → Y k → X k) : Kept Y w p :=
 fun w' hg => h w' ⟨hg.os, hg.tape, hg.output, hg.size, fun k hk hx => hg.block k hk (fun hy => hx (hY k hk hy))⟩
theorem Kept.imp {X : Nat → Prop} {w : World} {p q : World → Prop} (h : Kept X w p) (k : ∀ w, p w → q w) : Kept X w q := fun w' hg => k w' (h w' hg)
theorem own_kept {w : World} {base e K n : Nat} {v : Value} {xs : List Value} (h : w.ownsRow base e K v n xs) : Kept (fun k => k < base) w (fun w' => Reads K w' v n xs) := by
 intro w' hg
 refine Reads.of_own (base := base) (e := e) ⟨h.1, ?_⟩
 rcases h.2 with h' | ⟨g, cap, cur, rfl, hb, hc, r⟩
 ·exact .inl h'
 ·refine .inr ⟨g, cap, cur, rfl, hb, ?_, r⟩
  rw [hg.block g (Array.getElem?_eq_some_iff.1 hc).1 (by omega)]
  exact hc
theorem own_growx {X : Nat → Prop} {w w' : World} {base e K n : Nat} {v : Value} {xs : List Value} (h : w.ownsRow base e K v n xs) (hg : GrowX X w w') (hX : ∀ g, v.ownBlock = some g → ¬ X g) : w'.ownsRow base e K v n xs := by
 refine ⟨h.1, ?_⟩
 rcases h.2 with h' | ⟨g, cap, cur, rfl, hb, hc, r⟩
 ·exact .inl h'
 ·refine .inr ⟨g, cap, cur, rfl, hb, ?_, r⟩
  rw [hg.block g (Array.getElem?_eq_some_iff.1 hc).1 (hX g rfl)]
  exact hc
def TextsAt (w : World) (xs : List Value) (L : List (List UInt8)) : Prop :=
 xs.length = L.length ∧ ∀ (i : Nat) s l, xs[i]? = some s → L[i]? = some l → Reads 1 w s l.length (l.map B)
theorem TextsAt.below {w w' : World} {xs : List Value} {L : List (List UInt8)} {B0 : Nat} (h : TextsAt w xs L) (hb : Below B0 w w') (hB : w.heap.size ≤ B0) : TextsAt w' xs L :=
 ⟨h.1, fun i s l h1 h2 => (h.2 i s l h1 h2).below hb hB⟩
theorem TextsAt.nil {w : World} : TextsAt w [] [] := ⟨rfl, fun i s l h _ => by simp at h⟩
theorem TextsAt.append {w : World} {xs ys : List Value} {L M : List (List UInt8)} (h : TextsAt w xs L) (k : TextsAt w ys M) : TextsAt w (xs ++ ys) (L ++ M) := by
 refine ⟨by simp [h.1, k.1], fun i s l h1 h2 => ?_⟩
 by_cases hi : i < xs.length
 ·rw [List.getElem?_append_left hi] at h1
  rw [List.getElem?_append_left (by rw [← h.1]; exact hi)] at h2
  exact h.2 i s l h1 h2
 ·rw [List.getElem?_append_right (by omega)] at h1
  rw [List.getElem?_append_right (by rw [← h.1]; omega), ← h.1] at h2
  exact k.2 _ s l h1 h2
theorem TextsAt.take {w : World} {xs : List Value} {L : List (List UInt8)} (h : TextsAt w xs L) (n : Nat) : TextsAt w (xs.take n) (L.take n) := by
 refine ⟨by simp [h.1], fun i s l h1 h2 => ?_⟩
 rw [List.getElem?_take] at h1 h2
 split at h1
 ·rename_i hi
  rw [if_pos hi] at h2
  exact h.2 i s l h1 h2
 ·cases h1
theorem TextsAt.drop {w : World} {xs : List Value} {L : List (List UInt8)} (h : TextsAt w xs L) (n : Nat) : TextsAt w (xs.drop n) (L.drop n) := by
 refine ⟨by simp [h.1], fun i s l h1 h2 => ?_⟩
 rw [List.getElem?_drop] at h1 h2
 exact h.2 _ s l h1 h2
theorem TextsAt.one {w : World} {s : Value} {l : List UInt8} (h : Reads 1 w s l.length (l.map B)) : TextsAt w [s] [l] := by
 refine ⟨rfl, fun i s' l' h1 h2 => ?_⟩
 cases i with
 | zero => simp at h1 h2; subst h1 h2; exact h
 | succ i => simp at h1
def Texts (w : World) (v : Value) (L : List (List UInt8)) : Prop := ∃ xs, Reads 1 w v L.length xs ∧ TextsAt w xs L
theorem Texts.below {w w' : World} {v : Value} {L : List (List UInt8)} {B0 : Nat} (h : Texts w v L) (hb : Below B0 w w') (hB : w.heap.size ≤ B0) : Texts w' v L := by
 obtain ⟨xs, h1, h2⟩ := h
 exact ⟨xs, h1.below hb hB, h2.below hb hB⟩
end
end Go.Proofs.YtpajagkhmodbnaaGreat

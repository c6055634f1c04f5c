/- What both Decodes answer, in plain Lean. Conditions: none. -/
import Derived.Test.YtfbblgcdggpehaaNRl
namespace Go.Proofs.Ytfbblgcdggpehaa
set_option linter.unusedSimpArgs false
set_option linter.unusedVariables false
open Go.RowKit

/-- what a Decode has read so far -/
structure DSt where
  K : List (List UInt8)
  V : List (List UInt8)
  D : List Int
  r : Rd
def dstep (L : List UInt8) (lf : Bool) (s : DSt) : DSt :=
  if lf then ⟨s.K ++ [(rlong L s.r).1], s.V ++ [(rlong L (rlong L s.r).2).1], s.D, (rlong L (rlong L s.r).2).2⟩
  else ⟨s.K ++ [(rlong L s.r).1], s.V, s.D ++ [(((rnum L (rlong L s.r).2 4).1 : Nat) : Int)], (rnum L (rlong L s.r).2 4).2⟩
def drun (L : List UInt8) (lf : Bool) : Nat → DSt → DSt
  | 0, s => s
  | c + 1, s => if s.r.bad then s else drun L lf c (dstep L lf s)
/-- the first fields -/
def dcnt (L : List UInt8) : Nat × Rd := rnum L ⟨1, false⟩ 2
def dnext (L : List UInt8) : Nat × Rd := rnum L (dcnt L).2 4
def dini (L : List UInt8) (lf : Bool) : DSt :=
  if lf then ⟨[], [], [], (dnext L).2⟩ else ⟨[], [], [(((rnum L (dnext L).2 4).1 : Nat) : Int)], (rnum L (dnext L).2 4).2⟩
def dend (L : List UInt8) (lf : Bool) : DSt := drun L lf (dcnt L).1 (dini L lf)
def dnode (L : List UInt8) (lf : Bool) : Nd := ⟨lf, (dend L lf).K, (dend L lf).V, (dend L lf).D, ((dnext L).1 : Nat)⟩
/-- a page that holds a node -/
def DOk (L : List UInt8) (lf : Bool) : Prop := (dend L lf).r.bad = false ∧ (dnode L lf).Fit ∧ rsize (dnode L lf) (dnode L lf).keys.length ≤ 504 ∧ page (dnode L lf) = L

/-- what is read so far is small -/
structure DSt.Sm (L : List UInt8) (n : Nat) (s : DSt) : Prop where
  k : s.K.length ≤ n
  v : s.V.length ≤ n
  d : s.D.length ≤ n + 1
  kt : ∀ l ∈ s.K, l.length ≤ L.length
  vt : ∀ l ∈ s.V, l.length ≤ L.length

theorem rlong_len (L : List UInt8) (r : Rd) : (rlong L r).1.length ≤ L.length := rtake_len _ _ _
theorem rlong_le {L : List UInt8} {r : Rd} (h : r.i ≤ L.length) : (rlong L r).2.i ≤ L.length := rtake_le (rnum_le h 2) _

theorem DSt.Sm.step {L : List UInt8} {n : Nat} {s : DSt} (h : s.Sm L n) (lf : Bool) : (dstep L lf s).Sm L (n + 1) := by
  obtain ⟨h1, h2, h3, h4, h5⟩ := h
  have app : ∀ {K : List (List UInt8)} {l : List UInt8}, (∀ l ∈ K, l.length ≤ L.length) → l.length ≤ L.length → ∀ l' ∈ K ++ [l], l'.length ≤ L.length := by
    intro K l hK hl l' hm
    rcases List.mem_append.1 hm with h | h
    · exact hK _ h
    · rw [List.mem_singleton.1 h]; exact hl
  unfold dstep
  split
  · exact ⟨by simp; omega, by simp; omega, by simp only; omega, app h4 (rlong_len _ _), app h5 (rlong_len _ _)⟩
  · exact ⟨by simp; omega, by simp only; omega, by simp; omega, app h4 (rlong_len _ _), h5⟩

theorem drun_sm (L : List UInt8) (lf : Bool) : ∀ (c n : Nat) (s : DSt), s.Sm L n → (drun L lf c s).Sm L (n + c)
  | 0, n, s, h => h
  | c + 1, n, s, h => by
    unfold drun
    split
    · exact ⟨Nat.le_trans h.k (by omega), Nat.le_trans h.v (by omega), Nat.le_trans h.d (by omega), h.kt, h.vt⟩
    · have := drun_sm L lf c (n + 1) _ (h.step lf)
      rwa [show n + 1 + c = n + (c + 1) by omega] at this

theorem dini_sm (L : List UInt8) (lf : Bool) : (dini L lf).Sm L 0 := by
  unfold dini
  split
  · exact ⟨Nat.le_refl _, Nat.le_refl _, by simp, fun l h => absurd h List.not_mem_nil, fun l h => absurd h List.not_mem_nil⟩
  · exact ⟨Nat.le_refl _, Nat.le_refl _, by simp, fun l h => absurd h List.not_mem_nil, fun l h => absurd h List.not_mem_nil⟩

theorem dcnt_lt (L : List UInt8) : (dcnt L).1 < 65536 := rnum_lt L _ 2

theorem dnode_small {L : List UInt8} (hL : L.length ≤ 1048576) (lf : Bool) : (dnode L lf).small := by
  have h := drun_sm L lf (dcnt L).1 0 _ (dini_sm L lf)
  have hc := dcnt_lt L
  exact ⟨Nat.le_trans h.k (by omega), Nat.le_trans h.v (by omega), Nat.le_trans h.d (by omega), fun l hl => Nat.le_trans (h.kt l hl) hL, fun l hl => Nat.le_trans (h.vt l hl) hL⟩

end Go.Proofs.Ytfbblgcdggpehaa

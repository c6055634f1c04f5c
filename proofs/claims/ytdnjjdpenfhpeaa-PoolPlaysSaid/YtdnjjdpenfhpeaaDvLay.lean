/- The device: what is waiting is laid into what lasts. Conditions: none. -/
import Derived.Test.YtdnjjdpenfhpeaaDvWrite
namespace Go.Proofs.Ytdnjjdpenfhpeaa
set_option linter.unusedSimpArgs false
set_option linter.unusedVariables false
open Go.RowKit

theorem growX_setCell (w : World) (g i : Nat) (v : Value) : GrowX (fun k => k = g) w (w.setCell ⟨g, i, none⟩ v) :=
  ⟨rfl, rfl, rfl, by simp [World.setCell], fun k hk hx => Below.heap_setCell _ _ _ _ (fun e => hx e)⟩
theorem own_set {w : World} {base e K n : Nat} {v : Value} {xs : List Value} {g cap : Nat} (h : w.ownsRow base e K v n xs) (hv : v = .slice (some ⟨g, 0, none⟩) n cap) (j : Nat) (hj : j < n * K) (u : Value) :
    (w.setCell ⟨g, j, none⟩ u).ownsRow base e K v n (xs.set j u) := by
  subst hv
  obtain ⟨hl, h⟩ := h
  refine ⟨by simpa using hl, .inr ?_⟩
  rcases h with ⟨h0, _⟩ | ⟨g', cap', cur, e0, hb, hg, hn, hc, hs, ht⟩
  · simp at h0
  · injection e0 with e1 e2 e3
    injection e1 with e1
    injection e1 with e1
    subst e1 e3
    refine ⟨g, cap, cur.setIfInBounds j u, rfl, hb, setCell_row hg u, hn, hc, by simpa using hs, ?_⟩
    rw [← ht]
    simp [List.take_set]
theorem DvAt.lset {w : World} {G d : Nat} {D : Dv} {vl vc : Value} {EL : List Se} {EC : List Ce} {K : Nat → Prop} (h : DvAt w G d D vl vc EL EC K) {gl cl : Nat} (hv : vl = .slice (some ⟨gl, 0, none⟩) EL.length cl) (i : Nat) (hi : i < EL.length) (e : Ce) (he : e ∈ EC) :
    DvAt (w.setCell ⟨gl, i, none⟩ e.2.2) G d { D with l := D.l.set i e.2.1 } vl vc (EL.set i (e.2.1, e.2.2)) EC K := by
  have hg := growX_setCell w gl i e.2.2
  have ho : vl.ownBlock = some gl := by rw [hv]; rfl
  obtain ⟨n1, n2, n3⟩ := h.kl gl ho
  have hlen : e.2.1.length = 128 := (h.ok.c (e.1, e.2.1) (by rw [h.cis]; exact List.mem_map_of_mem (f := fun e : Ce => (e.1, e.2.1)) he)).2
  refine ⟨h.box.growx hg (fun e => n2 e.symm), ?_, own_growx h.crow hg (fun q e1 e2 => n3 (by rw [e1, e2])), ?_, h.cis, ?_, fun x hx => (h.ctx x hx).grow hg (fun k hk e => n1 (e ▸ hk)),
    fun k hk => ⟨(h.kin k hk).1, Nat.lt_of_lt_of_le (h.kin k hk).2 hg.size⟩, h.kd, h.kl, h.kc, ?_⟩
  · have := own_set h.lrow hv i (by omega) e.2.2
    rw [List.length_set, List.map_set]
    exact this
  · show D.l.set i e.2.1 = _
    rw [h.lis, List.map_set]
  · intro x hx
    rcases List.mem_or_eq_of_mem_set hx with hx | rfl
    · exact (h.ltx x hx).grow hg (fun k hk e => n1 (e ▸ hk))
    · exact (h.ctx e he).grow hg (fun k hk e => n1 (e ▸ hk))
  · refine ⟨fun s hs => ?_, fun x hx => ?_, ?_, h.ok.f1, h.ok.f2⟩
    · rcases List.mem_or_eq_of_mem_set hs with hs | rfl
      · exact h.ok.l s hs
      · exact .inr hlen
    · have := h.ok.c x hx
      exact ⟨by show x.1 < (D.l.set i e.2.1).length; rw [List.length_set]; exact this.1, this.2⟩
    · show (D.l.set i e.2.1).length ≤ 8192
      rw [List.length_set]; exact h.ok.n
/-- what lasts, when all that waits is laid into it -/
def setAll (l : List (List UInt8)) (c : List (Nat × List UInt8)) : List (List UInt8) := c.foldl (fun l x => l.set x.1 x.2) l
theorem setAll_length (l : List (List UInt8)) (c : List (Nat × List UInt8)) : (setAll l c).length = l.length := by
  induction c generalizing l with
  | nil => rfl
  | cons x r ih => show (setAll (l.set x.1 x.2) r).length = _; rw [ih, List.length_set]
theorem setAll_snoc (l : List (List UInt8)) (c : List (Nat × List UInt8)) (x : Nat × List UInt8) : setAll l (c ++ [x]) = (setAll l c).set x.1 x.2 := by simp [setAll, List.foldl_append]
def Dv.sync (D : Dv) : Dv := if D.burn.1 then { D.burn.2 with l := setAll D.burn.2.l D.burn.2.c, c := [] } else D.burn.2
theorem padS_id {s : List UInt8} (h : s.length = 128) : padS s = s := by
  unfold padS
  rw [if_neg (fun e => by rw [e] at h; cases h)]
/-- a sector reads after Sync as it read ahead of it -/
theorem setAll_sec (l : List (List UInt8)) (c : List (Nat × List UInt8)) (hc : ∀ x ∈ c, x.1 < l.length ∧ x.2.length = 128) (i : Nat) : padS ((setAll l c).getD i []) = overC i c (padS (l.getD i [])) := by
  induction c generalizing l with
  | nil => rfl
  | cons x r ih =>
    obtain ⟨h1, h2⟩ := hc x (List.mem_cons_self ..)
    show padS ((setAll (l.set x.1 x.2) r).getD i []) = overC i r (if x.1 = i then x.2 else padS (l.getD i []))
    rw [ih (l.set x.1 x.2) (fun y hy => by rw [List.length_set]; exact hc y (List.mem_cons_of_mem _ hy))]
    congr 1
    rw [List.getD_eq_getElem?_getD, List.getElem?_set]
    by_cases hx : x.1 = i
    · subst hx
      rw [if_pos rfl, if_pos rfl, if_pos h1]
      exact padS_id h2
    · rw [if_neg hx, if_neg hx, List.getD_eq_getElem?_getD]
end Go.Proofs.Ytdnjjdpenfhpeaa

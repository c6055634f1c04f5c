/- A struct in memory as a list of cells. Conditions: none. -/
import Derived.Test.YtdnjjdpenfhpeaaPartsC
import Derived.Test.YtdnjjdpenfhpeaaNKit
namespace Go.Proofs.Ytdnjjdpenfhpeaa
set_option linter.unusedSimpArgs false
set_option linter.unusedVariables false
open Go.RowKit

/-- a walk from here on, at whatever world of which the facts hold -/
theorem wp_world {c : Code} {P : Program} {Q : Exit → Act → World → Prop} {a : Act} {w : World} (F : World → Prop) (hf : F w) (h : ∀ w', F w' → c.wp P Q a w') : c.wp P Q a w := h w hf

/-- block g holds the cells vs, and may be written -/
structure Box (w : World) (g : Nat) (vs : List Value) : Prop where
  lt : g < w.heap.size
  cell : ∀ i v, vs[i]? = some v → w.cell? ⟨g, i, none⟩ = some v
  free : ∀ o, w.frozen? ⟨g, o, none⟩ = false

theorem Box.new (w : World) (arr : Array Value) (T : Nat) {g : Nat} (hg : g = w.heap.size) : Box (w.alloc (.cells arr T)) g arr.toList := by
  subst hg
  refine ⟨by simp, fun i v h => ?_, fun o => ?_⟩
  · rw [World.cell?_alloc_at _ _ _ _ rfl]; simpa using h
  · exact frozen_of_row' (heap_alloc_new w (.cells arr T)) o

theorem Box.alloc {w : World} {g : Nat} {vs : List Value} (h : Box w g vs) (o : Obj) : Box (w.alloc o) g vs := by
  have hb := (Below.refl (w.heap.size) w).alloc (Nat.le_refl _) o
  refine ⟨by have := h.lt; simp; omega, fun i v hi => ?_, fun o => ?_⟩
  · exact (hb.cell (p := ⟨g, i, none⟩) h.lt).trans (h.cell i v hi)
  · exact (hb.frozen (p := ⟨g, o, none⟩) h.lt).trans (h.free o)

theorem Box.below {w w' : World} {B g : Nat} {vs : List Value} (h : Box w g vs) (hb : Below B w w') (hB : w.heap.size ≤ B) : Box w' g vs := by
  have hl := h.lt
  refine ⟨by have := hb.size; omega, fun i v hi => ?_, fun o => ?_⟩
  · exact (hb.cell (p := ⟨g, i, none⟩) (by show g < B; omega)).trans (h.cell i v hi)
  · exact (hb.frozen (p := ⟨g, o, none⟩) (by show g < B; omega)).trans (h.free o)

theorem Box.below' {w w' : World} {B g : Nat} {vs : List Value} (h : Box w g vs) (hb : Below B w w') (hB : g < B) : Box w' g vs := by
  have hl := h.lt
  refine ⟨by have := hb.size; omega, fun i v hi => ?_, fun o => ?_⟩
  · exact (hb.cell (p := ⟨g, i, none⟩) hB).trans (h.cell i v hi)
  · exact (hb.frozen (p := ⟨g, o, none⟩) hB).trans (h.free o)

theorem Box.grow {w w' : World} {X : Nat → Nat → Prop} {g : Nat} {vs : List Value} (h : Box w g vs) (hg : GrowC X w w') (hX : ∀ i, i < vs.length → ¬ X g i) : Box w' g vs := by
  refine ⟨Nat.lt_of_lt_of_le h.lt hg.size, fun i v hi => ?_, fun o => ?_⟩
  · exact (hg.cell g i h.lt (hX i (List.getElem?_eq_some_iff.1 hi).1)).trans (h.cell i v hi)
  · exact (hg.frozen g o h.lt).trans (h.free o)

/-- some cells written meanwhile -/
theorem Box.upd {w w' : World} {X : Nat → Nat → Prop} {g : Nat} {vs us : List Value} (h : Box w g vs) (hg : GrowC X w w') (hX : ∀ i v, us[i]? = some v → w'.cell? ⟨g, i, none⟩ = some v ∨ (¬ X g i ∧ vs[i]? = some v)) : Box w' g us := by
  refine ⟨Nat.lt_of_lt_of_le h.lt hg.size, fun i v hi => ?_, fun o => (hg.frozen g o h.lt).trans (h.free o)⟩
  rcases hX i v hi with h1 | ⟨h1, h2⟩
  · exact h1
  · exact (hg.cell g i h.lt h1).trans (h.cell i v h2)

theorem Box.setCell {w : World} {g : Nat} {vs : List Value} (h : Box w g vs) (i : Nat) (v : Value) : Box (w.setCell ⟨g, i, none⟩ v) g (vs.set i v) := by
  refine ⟨by have := h.lt; simpa [World.setCell] using this, fun k u hk => ?_, fun o => ?_⟩
  · by_cases e : i = k
    · subst e
      rw [List.getElem?_set] at hk
      split at hk
      · rename_i hi
        split at hk
        · obtain rfl := Option.some.inj hk
          have hx := h.cell i _ (List.getElem?_eq_getElem (by assumption))
          exact World.cell?_setCell_same _ _ _ hx
        · cases hk
      · rename_i hi; exact absurd rfl hi
    · rw [List.getElem?_set_ne e] at hk
      rw [World.cell?_setCell_other _ _ _ _ (by intro he; injection he with _ e2; exact e e2)]
      exact h.cell k u hk
  · rw [World.frozen?_setCell]; exact h.free o

theorem Box.setCell_other {w : World} {g b : Nat} {vs : List Value} (h : Box w g vs) (hne : b ≠ g) (i : Nat) (v : Value) : Box (w.setCell ⟨b, i, none⟩ v) g vs := by
  refine ⟨by have := h.lt; simpa [World.setCell] using this, fun k u hk => ?_, fun o => ?_⟩
  · rw [World.cell?_setCell_other _ _ _ _ (by intro he; injection he with e1 _; exact hne e1)]
    exact h.cell k u hk
  · rw [World.frozen?_setCell]; exact h.free o

theorem Box.set1 {w : World} {g : Nat} {vs : List Value} (h : Box w g vs) (i : Nat) (v : Value) : Box (w.setCell ⟨g, i, none⟩ v) g (vs.set i v) ∧ GrowC (fun b o => b = g ∧ o = i) w (w.setCell ⟨g, i, none⟩ v) :=
  ⟨h.setCell i v, (GrowC.refl w).setCell ⟨rfl, rfl⟩ h.lt v⟩

theorem Box.set5 {w : World} {g : Nat} {a0 a1 a2 a3 a4 : Value} (h : Box w g [a0, a1, a2, a3, a4]) (v0 v1 v2 v3 v4 : Value) :
    Box (((((w.setCell ⟨g, 0, none⟩ v0).setCell ⟨g, 1, none⟩ v1).setCell ⟨g, 2, none⟩ v2).setCell ⟨g, 3, none⟩ v3).setCell ⟨g, 4, none⟩ v4) g [v0, v1, v2, v3, v4] ∧
    GrowC (fun b _ => b = g) w (((((w.setCell ⟨g, 0, none⟩ v0).setCell ⟨g, 1, none⟩ v1).setCell ⟨g, 2, none⟩ v2).setCell ⟨g, 3, none⟩ v3).setCell ⟨g, 4, none⟩ v4) :=
  ⟨((((h.setCell 0 v0).setCell 1 v1).setCell 2 v2).setCell 3 v3).setCell 4 v4,
   (((((GrowC.refl w).setCell (X := fun b _ => b = g) rfl h.lt v0).setCell (X := fun b _ => b = g) rfl h.lt v1).setCell (X := fun b _ => b = g) rfl h.lt v2).setCell (X := fun b _ => b = g) rfl h.lt v3).setCell (X := fun b _ => b = g) rfl h.lt v4⟩

theorem Box.set5c {w : World} {g : Nat} {a0 a1 a2 a3 a4 : Value} (h : Box w g [a0, a1, a2, a3, a4]) (v0 v1 v2 v3 v4 : Value) :
    Box (((((w.setCell ⟨g, 0, none⟩ v0).setCell ⟨g, 1, none⟩ v1).setCell ⟨g, 2, none⟩ v2).setCell ⟨g, 3, none⟩ v3).setCell ⟨g, 4, none⟩ v4) g [v0, v1, v2, v3, v4] ∧
    GrowC (fun b o => b = g ∧ o < 5) w (((((w.setCell ⟨g, 0, none⟩ v0).setCell ⟨g, 1, none⟩ v1).setCell ⟨g, 2, none⟩ v2).setCell ⟨g, 3, none⟩ v3).setCell ⟨g, 4, none⟩ v4) :=
  ⟨((((h.setCell 0 v0).setCell 1 v1).setCell 2 v2).setCell 3 v3).setCell 4 v4,
   (((((GrowC.refl w).setCell (X := fun b o => b = g ∧ o < 5) ⟨rfl, by decide⟩ h.lt v0).setCell (X := fun b o => b = g ∧ o < 5) ⟨rfl, by decide⟩ h.lt v1).setCell (X := fun b o => b = g ∧ o < 5) ⟨rfl, by decide⟩ h.lt v2).setCell (X := fun b o => b = g ∧ o < 5) ⟨rfl, by decide⟩ h.lt v3).setCell (X := fun b o => b = g ∧ o < 5) ⟨rfl, by decide⟩ h.lt v4⟩

theorem Box.set55 {w : World} {g h : Nat} {a0 a1 a2 a3 a4 b0 b1 b2 b3 b4 : Value} (hg : Box w g [a0, a1, a2, a3, a4]) (hh : Box w h [b0, b1, b2, b3, b4]) (hne : g ≠ h) (v0 v1 v2 v3 v4 u0 u1 u2 u3 u4 : Value) :
    Box ((((((((((w.setCell ⟨g, 0, none⟩ v0).setCell ⟨g, 1, none⟩ v1).setCell ⟨g, 2, none⟩ v2).setCell ⟨g, 3, none⟩ v3).setCell ⟨g, 4, none⟩ v4).setCell ⟨h, 0, none⟩ u0).setCell ⟨h, 1, none⟩ u1).setCell ⟨h, 2, none⟩ u2).setCell ⟨h, 3, none⟩ u3).setCell ⟨h, 4, none⟩ u4) g [v0, v1, v2, v3, v4] ∧
    Box ((((((((((w.setCell ⟨g, 0, none⟩ v0).setCell ⟨g, 1, none⟩ v1).setCell ⟨g, 2, none⟩ v2).setCell ⟨g, 3, none⟩ v3).setCell ⟨g, 4, none⟩ v4).setCell ⟨h, 0, none⟩ u0).setCell ⟨h, 1, none⟩ u1).setCell ⟨h, 2, none⟩ u2).setCell ⟨h, 3, none⟩ u3).setCell ⟨h, 4, none⟩ u4) h [u0, u1, u2, u3, u4] ∧
    GrowC (fun b _ => b = g ∨ b = h) w ((((((((((w.setCell ⟨g, 0, none⟩ v0).setCell ⟨g, 1, none⟩ v1).setCell ⟨g, 2, none⟩ v2).setCell ⟨g, 3, none⟩ v3).setCell ⟨g, 4, none⟩ v4).setCell ⟨h, 0, none⟩ u0).setCell ⟨h, 1, none⟩ u1).setCell ⟨h, 2, none⟩ u2).setCell ⟨h, 3, none⟩ u3).setCell ⟨h, 4, none⟩ u4) := by
  obtain ⟨k1, k2⟩ := hg.set5 v0 v1 v2 v3 v4
  have hh2 := hh.grow k2 (fun i _ e => hne e.symm)
  obtain ⟨k3, k4⟩ := hh2.set5 u0 u1 u2 u3 u4
  exact ⟨k1.grow k4 (fun i _ e => hne e), k3, (k2.mono (fun _ _ e => .inl e)).trans (k4.mono (fun _ _ e => .inr e))⟩

/-- a call from here on, at whatever world of which the facts hold -/
theorem calls_world {P : Program} {f : Nat} {args : Array Value} {w : World} {Q : Ending → World → Prop} (F : World → Prop) (hf : F w) (h : ∀ w', F w' → Calls P f args w' Q) : Calls P f args w Q := h w hf

theorem GrowX.of_growC {X : Nat → Nat → Prop} {Y : Nat → Prop} {w w' : World} (h : GrowC X w w') (hY : ∀ k o, X k o → Y k) : GrowX Y w w' :=
  ⟨h.os, h.tape, h.output, h.size, fun k hk hn => h.block k hk (fun o hx => hn (hY k o hx))⟩
theorem GrowX.of_below {Y : Nat → Prop} {B : Nat} {w w' : World} (h : Below B w w') (hY : ∀ k, k < w.heap.size → B ≤ k → Y k) : GrowX Y w w' :=
  ⟨h.os, h.tape, h.output, h.size, fun k hk hn => h.block k (by apply Classical.byContradiction; intro hc; exact hn (hY k hk (by omega)))⟩
theorem GrowX.mono {X Y : Nat → Prop} {w w' : World} (h : GrowX X w w') (hY : ∀ k, X k → Y k) : GrowX Y w w' :=
  ⟨h.os, h.tape, h.output, h.size, fun k hk hn => h.block k hk (fun hx => hn (hY k hx))⟩

/-- what is kept whatever becomes of the blocks of X lies elsewhere -/
theorem kept_above {X : Nat → Prop} {b o : Nat} {w : World} {p : World → Prop} (hk : Kept X w p) (hp : ∀ w2, p w2 → ∃ v, w2.cell? ⟨b, o, none⟩ = some v) : ¬ X b := by
  intro hlt
  have hg : GrowX X w { w with heap := w.heap.setIfInBounds b (.cells #[] 0 (0, 0)) } :=
    ⟨rfl, rfl, rfl, by simp, fun k hk hn => by
      have hne : b ≠ k := fun e => hn (e ▸ hlt)
      simp [Array.getElem?_setIfInBounds_ne hne]⟩
  obtain ⟨v, hv⟩ := hp _ (hk _ hg)
  by_cases hb : b < w.heap.size
  · simp [World.cell?, hb] at hv
  · simp [World.cell?, hb] at hv

end Go.Proofs.Ytdnjjdpenfhpeaa

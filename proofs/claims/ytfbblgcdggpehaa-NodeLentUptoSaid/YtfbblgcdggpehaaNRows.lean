/- Two rows that grow in turn, the first of texts. Conditions: none. -/
import Derived.Test.YtfbblgcdggpehaaNDecP
namespace Go.Proofs.Ytfbblgcdggpehaa
set_option linter.unusedSimpArgs false
set_option linter.unusedVariables false
open Go.RowKit

def XR (G : Nat) (va vb : Value) (q : Nat) : Prop := q < G ∨ va.ownBlock = some q ∨ vb.ownBlock = some q
structure DR (G : Nat) (ea eb : TypeId) (u : World) (va vb : Value) (xs : List Value) (A : List (List UInt8)) (nb : Nat) (zs : List Value) (Pb : World → Prop) : Prop where
  a : u.ownsRow G ea 1 va A.length xs
  t : Kept (XR G va vb) u (fun w => TextsAt w xs A)
  b : u.ownsRow G eb 1 vb nb zs
  p : Kept (XR G va vb) u Pb
  ne : ∀ q, va.ownBlock = some q → vb.ownBlock ≠ some q
  le : G ≤ u.heap.size

theorem DR.grow {G : Nat} {ea eb : TypeId} {u u' : World} {va vb : Value} {xs : List Value} {A : List (List UInt8)} {nb : Nat} {zs : List Value} {Pb : World → Prop}
    (h : DR G ea eb u va vb xs A nb zs Pb) (hg : GrowX (fun q => q < G) u u') : DR G ea eb u' va vb xs A nb zs Pb :=
  ⟨own_growx h.a hg (fun q e => by have := (h.a.lt q e).1; omega), h.t.grow (hg.mono (fun q hq => .inl hq)), own_growx h.b hg (fun q e => by have := (h.b.lt q e).1; omega), h.p.grow (hg.mono (fun q hq => .inl hq)), h.ne, Nat.le_trans h.le hg.size⟩

theorem growX_of_grownBy {u u' : World} {v : Value} (hgr : u.grownBy u' v.ownBlock) : GrowX (fun q => v.ownBlock = some q) u u' :=
  ⟨hgr.os, hgr.tape, hgr.output, hgr.size, fun b hb hx => hgr.block b hb (fun e => hx e.symm)⟩

theorem DR.addA {G : Nat} {ea eb : TypeId} {u u' : World} {va vb : Value} {xs : List Value} {A : List (List UInt8)} {nb : Nat} {zs : List Value} {Pb : World → Prop}
    (h : DR G ea eb u va vb xs A nb zs Pb) {g3 c3 : Nat} {x : Value} {l : List UInt8} (hgr : u.grownBy u' va.ownBlock) (hor : va.ownBlock = some g3 ∨ u.heap.size ≤ g3)
    (hown : u'.ownsRow G ea 1 (.slice (some ⟨g3, 0, none⟩) (A.length + 1) c3) (A.length + 1) (xs ++ [x]))
    {H : Nat} (hH : H ≤ u.heap.size) (hG : G ≤ H) (hva : ∀ q, va.ownBlock = some q → q < H) (hvb : ∀ q, vb.ownBlock = some q → q < H) (hx : Kept (fun q => q < H) u (fun w => Reads 1 w x l.length (l.map B))) :
    DR G ea eb u' (.slice (some ⟨g3, 0, none⟩) (A.length + 1) c3) vb (xs ++ [x]) (A ++ [l]) nb zs Pb := by
  have hX := growX_of_grownBy hgr
  have hob : ∀ q, (Value.slice (some ⟨g3, 0, none⟩) (A.length + 1) c3).ownBlock = some q → q = g3 := by
    intro q e; have : g3 = q := by simpa [Value.ownBlock] using e
    exact this.symm
  have hY : ∀ q, XR G (.slice (some ⟨g3, 0, none⟩) (A.length + 1) c3) vb q → XR G va vb q ∨ u.heap.size ≤ q := by
    intro q hq
    rcases hq with hq | hq | hq
    · exact .inl (.inl hq)
    · rcases hor with e | e
      · rw [hob q hq]; exact .inl (.inr (.inl e))
      · rw [hob q hq]; exact .inr e
    · exact .inl (.inr (.inr hq))
  have hX1 : GrowX (XR G va vb) u u' := hX.mono (fun q e => .inr (.inl e))
  have hX2 : GrowX (fun q => q < H) u u' := hX.mono hva
  have ht := h.t.turn hX1 hY
  have hx2 := hx.turn hX2 (Y := XR G (.slice (some ⟨g3, 0, none⟩) (A.length + 1) c3) vb) (fun q hq => by
    rcases hq with hq | hq | hq
    · exact .inl (by omega)
    · rcases hor with e | e
      · rw [hob q hq]; exact .inl (hva _ e)
      · rw [hob q hq]; exact .inr e
    · exact .inl (hvb _ hq))
  refine ⟨by simpa using hown, (ht.and hx2).imp (fun w hw => hw.1.append (TextsAt.one hw.2)), own_growx h.b hX (fun q e e2 => h.ne q e2 e), h.p.turn hX1 hY, ?_, Nat.le_trans h.le hX.size⟩
  intro q e1 e2
  rw [hob q e1] at e2
  rcases hor with e | e
  · exact h.ne _ e e2
  · have := hvb _ e2; omega

theorem DR.addB {G : Nat} {ea eb : TypeId} {u u' : World} {va vb : Value} {xs : List Value} {A : List (List UInt8)} {nb nb' : Nat} {zs zs' : List Value} {Pb Pb' : World → Prop}
    (h : DR G ea eb u va vb xs A nb zs Pb) {g3 n3 c3 : Nat} (hgr : u.grownBy u' vb.ownBlock) (hor : vb.ownBlock = some g3 ∨ u.heap.size ≤ g3)
    (hown : u'.ownsRow G eb 1 (.slice (some ⟨g3, 0, none⟩) n3 c3) nb' zs')
    {H : Nat} (hH : H ≤ u.heap.size) (hG : G ≤ H) (hva : ∀ q, va.ownBlock = some q → q < H) (hvb : ∀ q, vb.ownBlock = some q → q < H) {Px : World → Prop} (hx : Kept (fun q => q < H) u Px) (hP : ∀ w, Pb w → Px w → Pb' w) :
    DR G ea eb u' va (.slice (some ⟨g3, 0, none⟩) n3 c3) xs A nb' zs' Pb' := by
  have hX := growX_of_grownBy hgr
  have hob : ∀ q, (Value.slice (some ⟨g3, 0, none⟩) n3 c3).ownBlock = some q → q = g3 := by
    intro q e; have : g3 = q := by simpa [Value.ownBlock] using e
    exact this.symm
  have hY : ∀ q, XR G va (.slice (some ⟨g3, 0, none⟩) n3 c3) q → XR G va vb q ∨ u.heap.size ≤ q := by
    intro q hq
    rcases hq with hq | hq | hq
    · exact .inl (.inl hq)
    · exact .inl (.inr (.inl hq))
    · rcases hor with e | e
      · rw [hob q hq]; exact .inl (.inr (.inr e))
      · rw [hob q hq]; exact .inr e
  have hX1 : GrowX (XR G va vb) u u' := hX.mono (fun q e => .inr (.inr e))
  have hX2 : GrowX (fun q => q < H) u u' := hX.mono hvb
  have hx2 := hx.turn hX2 (Y := XR G va (.slice (some ⟨g3, 0, none⟩) n3 c3)) (fun q hq => by
    rcases hq with hq | hq | hq
    · exact .inl (by omega)
    · exact .inl (hva _ hq)
    · rcases hor with e | e
      · rw [hob q hq]; exact .inl (hvb _ e)
      · rw [hob q hq]; exact .inr e)
  refine ⟨own_growx h.a hX (fun q e e2 => h.ne q e e2), h.t.turn hX1 hY, hown, ((h.p.turn hX1 hY).and hx2).imp (fun w hw => hP w hw.1 hw.2), ?_, Nat.le_trans h.le hX.size⟩
  intro q e1 e2
  rw [hob q e2] at e1
  rcases hor with e | e
  · exact h.ne _ e1 e
  · have := hva _ e1; omega

end Go.Proofs.Ytfbblgcdggpehaa

/- The document's table with its blocks told; what both tables say of one set of locks. Conditions: none. -/
import Derived.Test.YtoghmllkaafckaaLkSafeL
import Derived.Test.YtoghmllkaafckaaLkTo
import Derived.Test.YtoghmllkaafckaaPartsK
namespace Go.Proofs.Ytoghmllkaafckaa
set_option linter.unusedSimpArgs false
set_option linter.unusedVariables false
open Go.RowKit

def LQ (W0 : World) (tb : Nat) (M : List Hd) (N : Nat) (S : Nat → Prop) (w : World) : Prop :=
  ∃ (v : Value) (n : Nat), TabQ w W0.heap.size tb v n M ∧ n ≤ N ∧ W0.heap.size ≤ tb ∧ Below W0.heap.size W0 w ∧ S = fun k => k = tb ∨ v.ownBlock = some k
theorem LQ.bel {W0 w : World} {tb N : Nat} {M : List Hd} {S : Nat → Prop} (h : LQ W0 tb M N S w) : Below W0.heap.size W0 w := by obtain ⟨_, _, _, _, _, h, _⟩ := h; exact h
theorem LQ.lt {W0 w : World} {tb N : Nat} {M : List Hd} {S : Nat → Prop} (h : LQ W0 tb M N S w) : ∀ k, S k → W0.heap.size ≤ k ∧ k < w.heap.size := by
  obtain ⟨v, n, h1, h2, h3, h4, rfl⟩ := h
  rintro k (rfl | h)
  · exact ⟨h3, h1.box.lt⟩
  · exact h1.own.lt k h
theorem LQ.grow {W0 w w' : World} {tb N : Nat} {M : List Hd} {S X : Nat → Prop} (h : LQ W0 tb M N S w) (hg : GrowX X w w') (hX : Disj S X) (hB : Below W0.heap.size W0 w') : LQ W0 tb M N S w' := by
  obtain ⟨v, n, h1, h2, h3, h4, rfl⟩ := h
  exact ⟨v, n, h1.grow hg (fun hx => hX tb (.inl rfl) hx) (fun q e hx => hX q (.inr e) hx), h2, h3, hB, rfl⟩
theorem LQ.below {W0 w w' : World} {tb N : Nat} {M : List Hd} {S : Nat → Prop} (h : LQ W0 tb M N S w) (hb : Below w.heap.size w w') : LQ W0 tb M N S w' :=
  h.grow (X := fun _ => False) (grow_below hb) (fun _ _ h => h) (h.bel.trans (hb.mono h.bel.size))
theorem LQ.more {W0 w : World} {tb N K : Nat} {M : List Hd} {S : Nat → Prop} (h : LQ W0 tb M N S w) (hM : N ≤ K) : LQ W0 tb M K S w := by
  obtain ⟨v, n, h1, h2, h3, h4, h5⟩ := h; exact ⟨v, n, h1, by omega, h3, h4, h5⟩
theorem LQ.read {W0 w : World} {tb N : Nat} {M : List Hd} {S : Nat → Prop} (h : LQ W0 tb M N S w) : ∃ n ao c, TabR w tb n c ao M ∧ n ≤ N := by
  obtain ⟨v, n, h1, h2, _⟩ := h
  obtain ⟨ao, c, _, h⟩ := h1.read
  exact ⟨n, ao, c, h, h2⟩
theorem LQ.step {W0 w w' : World} {tb N K : Nat} {M : List Hd} {P : List Hd → Prop} {v : Value} {n : Nat} (h1 : TabQ w W0.heap.size tb v n M) (h3 : W0.heap.size ≤ tb) (h4 : Below W0.heap.size W0 w) (hs : TabQStep W0.heap.size tb v P K w w') (hM : K ≤ N) :
    ∃ S' M', P M' ∧ LQ W0 tb M' N S' w' ∧ Foot (fun k => k = tb ∨ v.ownBlock = some k) S' w w' := by
  obtain ⟨v', n', M', hp, h5, h6, h7, h8⟩ := hs
  have hb : Below W0.heap.size w w' := h8.below (fun k hk => ⟨Nat.lt_of_lt_of_le hk h4.size, fun e => e.elim (fun e => by omega) (fun e => by have := (h1.own.lt k e).1; omega)⟩)
  exact ⟨_, M', hp, ⟨v', n', h5, by omega, h3, h4.trans hb, rfl⟩, h8, fun k hk => hk.elim (fun h => .inl (.inl h)) (fun h => (h7 k h).elim (fun h => .inl (.inr h)) (fun h => .inr h))⟩
theorem rtake_lq {W0 w : World} {tb N : Nat} {M : List Hd} {S : Nat → Prop} (h : LQ W0 tb M N S w) (hN : N ≤ 1048576) (hM : Uniq M) (id : Int) (l : List Wn) (vl : Value) (nl : Nat) (hl : l.length = nl) (hnl : nl ≤ 1048576) (hv : Reads 2 w vl nl (wcells l)) (hsl : ∀ b, vl.ownBlock = some b → b < w.heap.size ∧ ¬ S b) :
    Calls Try.prog 20 #[.pointer (some ⟨tb, 0, none⟩), .int .i64 id, vl] w fun e w' => ∃ (c : List Int) (S' : Nat → Prop) (M' : List Hd), IsAsk M id l c ∧ e = .returned (.bool (decide (c.length = 0))) ∧
      Uniq M' ∧ (∀ x, x ∈ M' ↔ x ∈ (if c.length = 0 then tookL M id l else M)) ∧ LQ W0 tb M' (N + nl) S' w' ∧ Foot S S' w w' := by
  obtain ⟨v, n, h1, h2, h3, h4, rfl⟩ := h
  refine (rtake_any M hM W0.heap.size tb n v (by omega) id l vl nl hl hnl w h4.size h1 hv (fun b hb => ⟨(hsl b hb).1, fun e => (hsl b hb).2 (.inl e), fun e => (hsl b hb).2 (.inr e)⟩)).mono ?_
  rintro e w' ⟨c, ha, rfl, hc⟩
  obtain ⟨S', M', ⟨p1, p2⟩, g1, g2⟩ := LQ.step h1 h3 h4 hc (by omega : n + nl ≤ N + nl)
  exact ⟨c, S', M', ha, rfl, p1, p2, g1, g2⟩
theorem rrelease_lq {W0 w : World} {tb N : Nat} {M : List Hd} {S : Nat → Prop} (h : LQ W0 tb M N S w) (hN : N ≤ 1048576) (id : Int) :
    Calls Try.prog 24 #[.pointer (some ⟨tb, 0, none⟩), .int .i64 id] w fun e w' => ∃ S' : Nat → Prop, e = .returned (.tuple #[]) ∧ LQ W0 tb (releaseL M id) N S' w' ∧ Foot S S' w w' := by
  obtain ⟨v, n, h1, h2, h3, h4, rfl⟩ := h
  refine (rrelease_any M W0.heap.size tb n v (by omega) id w h4.size h1).mono ?_
  rintro e w' ⟨rfl, hs⟩
  obtain ⟨S', M', rfl, g1, g2⟩ := LQ.step h1 h3 h4 hs h2
  exact ⟨S', rfl, g1, g2⟩
theorem rask_lq {W0 w : World} {tb N : Nat} {M : List Hd} {S : Nat → Prop} (h : LQ W0 tb M N S w) (hN : N ≤ 1048576) (id : Int) (l : List Wn) (vl : Value) (nl : Nat) (hl : l.length = nl) (hnl : nl ≤ 1048576) (hv : Reads 2 w vl nl (wcells l)) :
    Calls Try.prog 23 #[.pointer (some ⟨tb, 0, none⟩), .int .i64 id, vl] w fun e w' => ∃ (c : List Int) (ao : Option Addr) (m cp : Nat), e = .returned (.slice ao m cp) ∧ IsAsk M id l c ∧ c.length = m ∧ m ≤ 1099511627776 ∧ Reads 1 w' (.slice ao m cp) m (c.map (Value.int .i64)) ∧ Below w.heap.size w w' := by
  obtain ⟨n, ao, c, ht, hn⟩ := h.read
  exact rask_any M tb n c ao (by omega) id l vl nl hl hnl w ht hv
theorem rheld_lq {W0 w : World} {tb N : Nat} {M : List Hd} {S : Nat → Prop} (h : LQ W0 tb M N S w) (hN : N ≤ 1048576) (id : Int) :
    Calls Try.prog 25 #[.pointer (some ⟨tb, 0, none⟩), .int .i64 id] w fun e w' => ∃ (c : List Wn) (ao : Option Addr) (m cp : Nat), e = .returned (.slice ao m cp) ∧ IsHeld M id c ∧ c.length = m ∧ m ≤ N ∧ Reads 2 w' (.slice ao m cp) m (wcells c) ∧ Below w.heap.size w w' := by
  obtain ⟨n, ao, c, ht, hn⟩ := h.read
  refine (rheld_any M tb n c ao (by omega) id w ht).mono ?_
  rintro e w' ⟨c', a, m, cp, h1, h2, h3, h4, h5, h6⟩
  exact ⟨c', a, m, cp, h1, h2, h3, by omega, h5, h6⟩
theorem rholders_lq {W0 w : World} {tb N : Nat} {M : List Hd} {S : Nat → Prop} (h : LQ W0 tb M N S w) (hN : N ≤ 1048576) (nm : ByteArray) :
    Calls Try.prog 26 #[.pointer (some ⟨tb, 0, none⟩), .string nm] w fun e w' => ∃ (ao : Option Addr) (m cp : Nat), e = .returned (.slice ao m cp) ∧ (rholdL nm M).length = m ∧ m ≤ N ∧ Reads 1 w' (.slice ao m cp) m ((rholdL nm M).map (Value.int .i64)) ∧ Below w.heap.size w w' := by
  obtain ⟨n, ao, c, ht, hn⟩ := h.read
  refine (rholders_any M tb n c ao (by omega) nm w ht).mono ?_
  rintro e w' ⟨a, m, cp, h1, h3, h4, h5, h6⟩
  exact ⟨a, m, cp, h1, h3, by omega, h5, h6⟩

/-- sorted by name, names distinct: one order -/
theorem held_eq {T M : List Hd} {id : Int} {c d : List Wn} (hT : Uniq T) (hM : Uniq M) (hs : ∀ x, x ∈ T ↔ x ∈ M) (h : IsHeld T id c) (k : IsHeld M id d) : c = d := by
  have hp : c.Perm d := h.perm.trans ((heldRaw_perm (perm_of_same hT hM hs) id).trans k.perm.symm)
  have hu : ∀ x ∈ c, ∀ y ∈ c, x.1 = y.1 → x = y := by
    intro x hx y hy e
    have h1 := mem_heldRaw.1 (h.perm.mem_iff.1 hx)
    have h2 := mem_heldRaw.1 (h.perm.mem_iff.1 hy)
    have h3 := hT.eq h1 h2 rfl e
    injection h3
  exact hp.eq_of_pairwise (le := fun a b => nmLt b.1 a.1 = false) (fun a b ha hb h1 h2 => hu a ha b (hp.mem_iff.2 hb) (nmLt_antisymm h2 h1)) h.ord k.ord
theorem holdRaw_nodup {T : List Hd} (hT : Uniq T) (nm : ByteArray) : (holdRaw nm T).Nodup := by
  unfold holdRaw List.Nodup
  rw [List.pairwise_map]
  refine List.Pairwise.imp_of_mem (fun ha hb h e => h ⟨e, ?_⟩) (List.Pairwise.filter (fun h : Hd => decide (h.2.1 = nm)) hT)
  rw [of_decide_eq_true (List.mem_filter.1 ha).2, of_decide_eq_true (List.mem_filter.1 hb).2]
theorem hold_eq {T M : List Hd} {nm : ByteArray} {c : List Int} (hT : Uniq T) (hM : Uniq M) (hs : ∀ x, x ∈ T ↔ x ∈ M) (h : IsHold T nm c) : c = rholdL nm M := by
  obtain ⟨k1, k2, _⟩ := rholdL_spec nm M
  have hd : (holdRaw nm T).Nodup := holdRaw_nodup hT nm
  have hcd : c.Nodup := h.perm.nodup_iff.2 hd
  refine lt_ext (List.Pairwise.imp₂ (fun a b h1 h2 => by have h1 : a ≤ b := h1; have h2 : a ≠ b := h2; omega) h.ord hcd) k1 (fun x => ?_)
  rw [h.perm.mem_iff, k2]
  exact ((perm_of_same hT hM hs).filter _ |>.map _).mem_iff
end Go.Proofs.Ytoghmllkaafckaa

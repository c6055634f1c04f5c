/- The pool: its cells written. Conditions: none. -/
import Derived.Test.YtdnjjdpenfhpeaaPlFind
namespace Go.Proofs.Ytdnjjdpenfhpeaa
set_option linter.unusedSimpArgs false
set_option linter.unusedVariables false
open Go.RowKit

theorem Foot.inc {S S' B B' : Nat → Prop} {w w' : World} (h : Foot B B' w w') (h1 : ∀ k, B k → S k) (h2 : ∀ k, S' k → S k ∨ B' k) : Foot S S' w w' :=
  ⟨h.grow.mono h1, fun k hk => (h2 k hk).elim .inl (fun hb => (h.new k hb).imp (h1 k) id)⟩
theorem Foot.same {S B : Nat → Prop} {w w' : World} (h : GrowX B w w') (h1 : ∀ k, B k → S k) : Foot S S w w' := ⟨h.mono h1, fun k hk => .inl hk⟩
section
variable {w : World} {G g lb n f : Nat} {fv : Value} {E : List Fe} {hand wr : Nat} {K : Nat → Prop}
theorem PoolAt.setWr (h : PoolAt w G g lb n f fv E hand wr K) (wr' : Nat) : PoolAt (w.setCell ⟨g, 4, none⟩ (.int .i64 (wr' : Nat))) G g lb n f fv E hand wr' K ∧ GrowX (fun k => k = g) w (w.setCell ⟨g, 4, none⟩ (.int .i64 (wr' : Nat))) := by
  obtain ⟨k1, k2⟩ := Box.set1 h.box 4 (.int .i64 (wr' : Nat))
  have k3 : GrowX (fun k => k = g) w (w.setCell ⟨g, 4, none⟩ (.int .i64 (wr' : Nat))) := GrowX.of_growC k2 (fun k o h => h.1)
  exact ⟨⟨k1, own_growx h.row k3 (fun q e => by have e2 : lb = q := (by simpa [Value.ownBlock] using e); exact fun e => h.gl (e2 ▸ e.symm)), h.len, fun e he => (h.txt e he).grow k3 (fun k hk e => h.kg (e ▸ hk)), fun k hk => ⟨(h.kin k hk).1, Nat.lt_of_lt_of_le (h.kin k hk).2 k3.size⟩, h.kg, h.kl, h.gl⟩, k3⟩
theorem PoolAt.setHand (h : PoolAt w G g lb n f fv E hand wr K) (hand' : Nat) : PoolAt (w.setCell ⟨g, 3, none⟩ (.int .i64 (hand' : Nat))) G g lb n f fv E hand' wr K ∧ GrowX (fun k => k = g) w (w.setCell ⟨g, 3, none⟩ (.int .i64 (hand' : Nat))) := by
  obtain ⟨k1, k2⟩ := Box.set1 h.box 3 (.int .i64 (hand' : Nat))
  have k3 : GrowX (fun k => k = g) w (w.setCell ⟨g, 3, none⟩ (.int .i64 (hand' : Nat))) := GrowX.of_growC k2 (fun k o h => h.1)
  exact ⟨⟨k1, own_growx h.row k3 (fun q e => by have e2 : lb = q := (by simpa [Value.ownBlock] using e); exact fun e => h.gl (e2 ▸ e.symm)), h.len, fun e he => (h.txt e he).grow k3 (fun k hk e => h.kg (e ▸ hk)), fun k hk => ⟨(h.kin k hk).1, Nat.lt_of_lt_of_le (h.kin k hk).2 k3.size⟩, h.kg, h.kl, h.gl⟩, k3⟩
theorem PoolAt.setF (h : PoolAt w G g lb n f fv E hand wr K) (i : Nat) (e e' : Fe) (he : E[i]? = some e) (j : Nat) (hj : j < 6) (v : Value) (hv : encF e' = (encF e).set j v) (ht : SecAt w K e'.1.b e'.2) :
    PoolAt (w.setCell ⟨lb, i * 6 + j, none⟩ v) G g lb n f fv (E.set i e') hand wr K ∧ GrowX (fun k => k = lb) w (w.setCell ⟨lb, i * 6 + j, none⟩ v) := by
  have k3 : GrowX (fun k => k = lb) w (w.setCell ⟨lb, i * 6 + j, none⟩ v) := growX_setCell _ _ _ _
  have hi := (List.getElem?_eq_some_iff.1 he).1
  refine ⟨⟨h.box.growx k3 h.gl, ?_, by rw [List.length_set]; exact h.len, ?_, fun k hk => ⟨(h.kin k hk).1, Nat.lt_of_lt_of_le (h.kin k hk).2 k3.size⟩, h.kg, h.kl, h.gl⟩, k3⟩
  · rw [fcells_set E i e e' he j hj v hv]
    exact own_set h.row rfl _ (by have := h.len; omega) v
  · intro x hx
    refine SecAt.grow ?_ k3 (fun k hk e => h.kl (e ▸ hk))
    rcases List.mem_or_eq_of_mem_set hx with hx | rfl
    · exact h.txt x hx
    · exact ht
theorem PoolAt.put6 (h : PoolAt w G g lb n f fv E hand wr K) (i : Nat) (e : Fe) (he : E[i]? = some e) (pa : Int) (b' : List UInt8) (v' : Value) (di ma : Bool) (rc ls : Int) (ht : SecAt w K b' v') :
    PoolAt ((((((w.setCell ⟨lb, i * 6, none⟩ (.int .i64 pa)).setCell ⟨lb, i * 6 + 1, none⟩ v').setCell ⟨lb, i * 6 + 2, none⟩ (.bool di)).setCell ⟨lb, i * 6 + 3, none⟩ (.bool ma)).setCell ⟨lb, i * 6 + 4, none⟩ (.int .i64 rc)).setCell ⟨lb, i * 6 + 5, none⟩ (.int .i64 ls)) G g lb n f fv (E.set i (⟨pa, b', di, ma, rc, ls⟩, v')) hand wr K ∧
    GrowX (fun k => k = lb) w ((((((w.setCell ⟨lb, i * 6, none⟩ (.int .i64 pa)).setCell ⟨lb, i * 6 + 1, none⟩ v').setCell ⟨lb, i * 6 + 2, none⟩ (.bool di)).setCell ⟨lb, i * 6 + 3, none⟩ (.bool ma)).setCell ⟨lb, i * 6 + 4, none⟩ (.int .i64 rc)).setCell ⟨lb, i * 6 + 5, none⟩ (.int .i64 ls)) := by
  obtain ⟨⟨p0, b0, d0, m0, r0, l0⟩, v0⟩ := e
  have hi := (List.getElem?_eq_some_iff.1 he).1
  have hs : ∀ (y : Fe), (E.set i y)[i]? = some y := fun y => by rw [List.getElem?_set_self hi]
  have hK : ∀ k, K k → k ≠ lb := fun k hk e => h.kl (e ▸ hk)
  obtain ⟨a1, g1⟩ := h.setF i _ (⟨pa, b0, d0, m0, r0, l0⟩, v0) he 0 (by omega) (.int .i64 pa) rfl (h.txt (⟨p0, b0, d0, m0, r0, l0⟩, v0) (List.mem_of_getElem? he))
  rw [Nat.add_zero] at a1 g1
  obtain ⟨a2, g2⟩ := a1.setF i _ (⟨pa, b', d0, m0, r0, l0⟩, v') (hs _) 1 (by omega) v' rfl (ht.grow g1 hK)
  rw [List.set_set] at a2
  obtain ⟨a3, g3⟩ := a2.setF i _ (⟨pa, b', di, m0, r0, l0⟩, v') (hs _) 2 (by omega) (.bool di) rfl (a2.txt (⟨pa, b', d0, m0, r0, l0⟩, v') (List.mem_of_getElem? (hs _)))
  rw [List.set_set] at a3
  obtain ⟨a4, g4⟩ := a3.setF i _ (⟨pa, b', di, ma, r0, l0⟩, v') (hs _) 3 (by omega) (.bool ma) rfl (a3.txt (⟨pa, b', di, m0, r0, l0⟩, v') (List.mem_of_getElem? (hs _)))
  rw [List.set_set] at a4
  obtain ⟨a5, g5⟩ := a4.setF i _ (⟨pa, b', di, ma, rc, l0⟩, v') (hs _) 4 (by omega) (.int .i64 rc) rfl (a4.txt (⟨pa, b', di, ma, r0, l0⟩, v') (List.mem_of_getElem? (hs _)))
  rw [List.set_set] at a5
  obtain ⟨a6, g6⟩ := a5.setF i _ (⟨pa, b', di, ma, rc, ls⟩, v') (hs _) 5 (by omega) (.int .i64 ls) rfl (a5.txt (⟨pa, b', di, ma, rc, l0⟩, v') (List.mem_of_getElem? (hs _)))
  rw [List.set_set] at a6
  exact ⟨a6, g1.trans (g2.trans (g3.trans (g4.trans (g5.trans g6))))⟩
theorem SecAt.nil {w : World} {K : Nat → Prop} : SecAt w K [] (.slice none 0 0) := ⟨⟨none, 0, rfl, rfl, Nat.le_refl _, fun h => absurd h (Nat.lt_irrefl 0)⟩, fun q e => by cases e⟩
theorem PoolAt.addK (h : PoolAt w G g lb n f fv E hand wr K) (K' : Nat → Prop) (h1 : ∀ k, K k → K' k) (h2 : ∀ k, K' k → K k ∨ (G ≤ k ∧ k < w.heap.size ∧ k ≠ g ∧ k ≠ lb)) : PoolAt w G g lb n f fv E hand wr K' :=
  ⟨h.box, h.row, h.len, fun e he => (h.txt e he).mono h1, fun k hk => (h2 k hk).elim (h.kin k) (fun h => ⟨h.1, h.2.1⟩), fun hk => (h2 g hk).elim h.kg (fun h => h.2.2.1 rfl), fun hk => (h2 lb hk).elim h.kl (fun h => h.2.2.2 rfl), h.gl⟩
end
theorem Pl.ok.set {p : Pl} {pg n : Nat} (h : p.ok pg n) (i : Nat) (x : Fm) (hx : x.ok pg) : ∀ y ∈ p.F.set i x, y.ok pg := by
  intro y hy
  rcases List.mem_or_eq_of_mem_set hy with hy | rfl
  · exact h.fr y hy
  · exact hx
theorem map_set_fst (E : List Fe) (i : Nat) (x : Fm) (v : Value) : (E.set i (x, v)).map (·.1) = (E.map (·.1)).set i x := by rw [List.map_set]
end Go.Proofs.Ytdnjjdpenfhpeaa

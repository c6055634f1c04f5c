/- The document's pool: its blocks, written and read. Conditions: none. -/
import Derived.Test.YtdnjjdpenfhpeaaPlKeepsP
namespace Go.Proofs.Ytdnjjdpenfhpeaa
set_option linter.unusedSimpArgs false
set_option linter.unusedVariables false
open Go.RowKit

def S8 (b : List UInt8) : Value := .string ⟨b.toArray⟩
def encR (x : Fm) : List Value := [.int .i64 x.page, S8 x.b, .bool x.dirty, .bool x.marked, .int .i64 x.lsn, .int .i64 x.rc]
def rcells (F : List Fm) : List Value := F.flatMap encR
theorem rcells_length (F : List Fm) : (rcells F).length = F.length * 6 := by
  induction F with
  | nil => rfl
  | cons a r ih => simp only [rcells, List.flatMap_cons, List.length_append, List.length_cons, encR, List.length_nil] at *; omega
theorem rcells_at (F : List Fm) (i : Nat) (x : Fm) (h : F[i]? = some x) (j : Nat) (v : Value) (hv : (encR x)[j]? = some v) : (rcells F)[i * 6 + j]? = some v := by
  obtain ⟨hi, he⟩ := List.getElem?_eq_some_iff.1 h
  exact flat_at encR 6 (fun _ => rfl) F i hi j v (by rw [getElem!_pos F i hi, he]; exact hv)
theorem rcells_set (F : List Fm) (i : Nat) (x x' : Fm) (h : F[i]? = some x) (j : Nat) (hj : j < 6) (v : Value) (hv : encR x' = (encR x).set j v) : rcells (F.set i x') = (rcells F).set (i * 6 + j) v := by
  induction F generalizing i with
  | nil => simp at h
  | cons y r ih =>
    cases i with
    | zero =>
      simp at h
      subst h
      simp only [rcells, List.set_cons_zero, List.flatMap_cons, hv, Nat.zero_mul, Nat.zero_add]
      rw [List.set_append_left _ _ (by simp [encR]; exact hj)]
    | succ i =>
      simp only [List.set_cons_succ]
      have := ih i (by simpa using h)
      simp only [rcells, List.flatMap_cons] at *
      rw [List.set_append_right _ _ (by simp [encR]; omega), this]
      congr 2
      simp [encR]; omega
theorem rcells_append (F G : List Fm) : rcells (F ++ G) = rcells F ++ rcells G := by simp [rcells]
def pcells (P : Nat → List UInt8) (n : Nat) : List Value := (List.range n).map fun q => S8 (P q)
theorem pcells_at (P : Nat → List UInt8) {n q : Nat} (h : q < n) : (pcells P n)[q]? = some (S8 (P q)) := by unfold pcells; rw [List.getElem?_map, List.getElem?_range h]; rfl
theorem pcells_set (P : Nat → List UInt8) {n q : Nat} (h : q < n) (b : List UInt8) : (pcells P n).set q (S8 b) = pcells (putP P q b) n := by
  unfold pcells
  apply List.ext_getElem?
  intro j
  rw [List.getElem?_set]
  by_cases e : q = j
  · subst e
    rw [if_pos rfl, if_pos (by simpa using h), List.getElem?_map, List.getElem?_range h]
    simp [putP]
  · rw [if_neg e, List.getElem?_map, List.getElem?_map]
    by_cases hj : j < n
    · rw [List.getElem?_range hj]
      have : ¬ j = q := fun e2 => e e2.symm
      simp [putP, this]
    · rw [List.getElem?_eq_none (by simpa using hj)]; rfl
/-- the document's pool at r -/
structure RefAt (w : World) (G r db cd fb cf : Nat) (vo : Value) (pg n : Nat) (p : Pl) (fo : List Int) (bad er : Int) : Prop where
  box : Box w r [.slice (some ⟨db, 0, none⟩) pg cd, .slice (some ⟨fb, 0, none⟩) n cf, .int .i64 (p.hand : Nat), .int .i64 bad, .int .i64 er, vo, .int .i64 (p.wr : Nat)]
  drow : w.ownsRow G 9 1 (.slice (some ⟨db, 0, none⟩) pg cd) pg (pcells p.P pg)
  frow : w.ownsRow G 63 6 (.slice (some ⟨fb, 0, none⟩) n cf) n (rcells p.F)
  orow : w.ownsRow G 3 1 vo fo.length (fo.map (Value.int .i64))
  rd : r ≠ db
  rf : r ≠ fb
  df : db ≠ fb
  vo1 : ∀ q, vo.ownBlock = some q → q ≠ r ∧ q ≠ db ∧ q ≠ fb
def ownR (r db fb : Nat) (vo : Value) : Nat → Prop := fun k => k = r ∨ k = db ∨ k = fb ∨ vo.ownBlock = some k
section
variable {w w' : World} {G r db cd fb cf : Nat} {vo : Value} {pg n : Nat} {p : Pl} {fo : List Int} {bad er : Int}
theorem own_keep {X : Nat → Prop} {base e K n c g : Nat} {xs : List Value} (h : w.ownsRow base e K (.slice (some ⟨g, 0, none⟩) n c) n xs) (hg : GrowX X w w') (hX : ¬ X g) : w'.ownsRow base e K (.slice (some ⟨g, 0, none⟩) n c) n xs :=
  own_growx h hg (fun q e => by have e2 : g = q := (by simpa [Value.ownBlock] using e); exact e2 ▸ hX)
theorem RefAt.dl (h : RefAt w G r db cd fb cf vo pg n p fo bad er) : G ≤ db ∧ db < w.heap.size := h.drow.lt db rfl
theorem RefAt.fl (h : RefAt w G r db cd fb cf vo pg n p fo bad er) : G ≤ fb ∧ fb < w.heap.size := h.frow.lt fb rfl
theorem RefAt.grow {X : Nat → Prop} (h : RefAt w G r db cd fb cf vo pg n p fo bad er) (hg : GrowX X w w') (hX : ∀ k, ownR r db fb vo k → ¬ X k) : RefAt w' G r db cd fb cf vo pg n p fo bad er :=
  ⟨h.box.growx hg (hX r (.inl rfl)), own_keep h.drow hg (hX db (.inr (.inl rfl))), own_keep h.frow hg (hX fb (.inr (.inr (.inl rfl)))), own_growx h.orow hg (fun q e => hX q (.inr (.inr (.inr e)))), h.rd, h.rf, h.df, h.vo1⟩
theorem Reads.own_at {base e K n c g : Nat} {xs : List Value} (h : w.ownsRow base e K (.slice (some ⟨g, 0, none⟩) n c) n xs) (hn : 0 < n) (j : Nat) (u : Value) (hu : xs[j]? = some u) : w.cell? ⟨g, j, none⟩ = some u := by
  obtain ⟨a0, c0, e0, _, _, hr⟩ := Reads.of_own h
  obtain ⟨b1, o1, e1, h1, h2⟩ := hr hn
  injection e0 with e2 e3 e4
  rw [e1] at e2
  injection e2 with e5
  injection e5 with e6 e7
  subst e6 e7
  have := h2 _ _ hu
  rwa [Nat.zero_add] at this
theorem RefAt.cell (h : RefAt w G r db cd fb cf vo pg n p fo bad er) (hn : 0 < n) (i : Nat) (x : Fm) (hx : p.F[i]? = some x) (j : Nat) (v : Value) (hv : (encR x)[j]? = some v) : w.cell? ⟨fb, i * 6 + j, none⟩ = some v := Reads.own_at h.frow hn _ _ (rcells_at p.F i x hx j v hv)
theorem RefAt.dcell (h : RefAt w G r db cd fb cf vo pg n p fo bad er) (q : Nat) (hq : q < pg) : w.cell? ⟨db, q, none⟩ = some (S8 (p.P q)) := Reads.own_at h.drow (by omega) _ _ (pcells_at p.P hq)
theorem RefAt.ffz (h : RefAt w G r db cd fb cf vo pg n p fo bad er) (o : Nat) : w.frozen? ⟨fb, o, none⟩ = false := own_free h.frow rfl o
theorem RefAt.dfz (h : RefAt w G r db cd fb cf vo pg n p fo bad er) (o : Nat) : w.frozen? ⟨db, o, none⟩ = false := own_free h.drow rfl o
theorem RefAt.setF (h : RefAt w G r db cd fb cf vo pg n p fo bad er) (hl : p.F.length = n) (i : Nat) (x x' : Fm) (hx : p.F[i]? = some x) (j : Nat) (hj : j < 6) (v : Value) (hv : encR x' = (encR x).set j v) :
    RefAt (w.setCell ⟨fb, i * 6 + j, none⟩ v) G r db cd fb cf vo pg n { p with F := p.F.set i x' } fo bad er ∧ GrowX (fun k => k = fb) w (w.setCell ⟨fb, i * 6 + j, none⟩ v) := by
  have k3 : GrowX (fun k => k = fb) w (w.setCell ⟨fb, i * 6 + j, none⟩ v) := growX_setCell _ _ _ _
  have hi := (List.getElem?_eq_some_iff.1 hx).1
  refine ⟨⟨h.box.growx k3 h.rf, own_keep h.drow k3 h.df, ?_, own_growx h.orow k3 (fun q e => (h.vo1 q e).2.2), h.rd, h.rf, h.df, h.vo1⟩, k3⟩
  show World.ownsRow _ _ _ _ _ _ (rcells (p.F.set i x'))
  rw [rcells_set p.F i x x' hx j hj v hv]
  exact own_set h.frow rfl _ (by omega) v
theorem RefAt.setD (h : RefAt w G r db cd fb cf vo pg n p fo bad er) (q : Nat) (hq : q < pg) (b : List UInt8) :
    RefAt (w.setCell ⟨db, q, none⟩ (S8 b)) G r db cd fb cf vo pg n { p with P := putP p.P q b } fo bad er ∧ GrowX (fun k => k = db) w (w.setCell ⟨db, q, none⟩ (S8 b)) := by
  have k3 : GrowX (fun k => k = db) w (w.setCell ⟨db, q, none⟩ (S8 b)) := growX_setCell _ _ _ _
  refine ⟨⟨h.box.growx k3 h.rd, ?_, own_keep h.frow k3 (fun e => h.df e.symm), own_growx h.orow k3 (fun q e => (h.vo1 q e).2.1), h.rd, h.rf, h.df, h.vo1⟩, k3⟩
  show World.ownsRow _ _ _ _ _ _ (pcells (putP p.P q b) pg)
  rw [← pcells_set p.P hq b]
  exact own_set h.drow rfl _ (by omega) _
theorem RefAt.setHand (h : RefAt w G r db cd fb cf vo pg n p fo bad er) (x : Nat) :
    RefAt (w.setCell ⟨r, 2, none⟩ (.int .i64 (x : Nat))) G r db cd fb cf vo pg n { p with hand := x } fo bad er ∧ GrowX (fun k => k = r) w (w.setCell ⟨r, 2, none⟩ (.int .i64 (x : Nat))) := by
  have k3 : GrowX (fun k => k = r) w (w.setCell ⟨r, 2, none⟩ (.int .i64 (x : Nat))) := growX_setCell _ _ _ _
  exact ⟨⟨h.box.setCell 2 _, own_keep h.drow k3 (fun e => h.rd e.symm), own_keep h.frow k3 (fun e => h.rf e.symm), own_growx h.orow k3 (fun q e => (h.vo1 q e).1), h.rd, h.rf, h.df, h.vo1⟩, k3⟩
theorem RefAt.setWr (h : RefAt w G r db cd fb cf vo pg n p fo bad er) (x : Nat) :
    RefAt (w.setCell ⟨r, 6, none⟩ (.int .i64 (x : Nat))) G r db cd fb cf vo pg n { p with wr := x } fo bad er ∧ GrowX (fun k => k = r) w (w.setCell ⟨r, 6, none⟩ (.int .i64 (x : Nat))) := by
  have k3 : GrowX (fun k => k = r) w (w.setCell ⟨r, 6, none⟩ (.int .i64 (x : Nat))) := growX_setCell _ _ _ _
  exact ⟨⟨h.box.setCell 6 _, own_keep h.drow k3 (fun e => h.rd e.symm), own_keep h.frow k3 (fun e => h.rf e.symm), own_growx h.orow k3 (fun q e => (h.vo1 q e).1), h.rd, h.rf, h.df, h.vo1⟩, k3⟩
theorem RefAt.setO {vo' : Value} {fo' : List Int} (h : RefAt w G r db cd fb cf vo pg n p fo bad er) (ho : w.ownsRow G 3 1 vo' fo'.length (fo'.map (Value.int .i64))) (hv : ∀ q, vo'.ownBlock = some q → q ≠ r ∧ q ≠ db ∧ q ≠ fb) :
    RefAt (w.setCell ⟨r, 5, none⟩ vo') G r db cd fb cf vo' pg n p fo' bad er ∧ GrowX (fun k => k = r) w (w.setCell ⟨r, 5, none⟩ vo') := by
  have k3 : GrowX (fun k => k = r) w (w.setCell ⟨r, 5, none⟩ vo') := growX_setCell _ _ _ _
  exact ⟨⟨h.box.setCell 5 _, own_keep h.drow k3 (fun e => h.rd e.symm), own_keep h.frow k3 (fun e => h.rf e.symm), own_growx ho k3 (fun q e => (hv q e).1), h.rd, h.rf, h.df, hv⟩, k3⟩
theorem RefAt.put6 (h : RefAt w G r db cd fb cf vo pg n p fo bad er) (hl : p.F.length = n) (i : Nat) (x x' : Fm) (hx : p.F[i]? = some x) :
    RefAt ((((((w.setCell ⟨fb, i * 6, none⟩ (.int .i64 x'.page)).setCell ⟨fb, i * 6 + 1, none⟩ (S8 x'.b)).setCell ⟨fb, i * 6 + 2, none⟩ (.bool x'.dirty)).setCell ⟨fb, i * 6 + 3, none⟩ (.bool x'.marked)).setCell ⟨fb, i * 6 + 4, none⟩ (.int .i64 x'.lsn)).setCell ⟨fb, i * 6 + 5, none⟩ (.int .i64 x'.rc)) G r db cd fb cf vo pg n { p with F := p.F.set i x' } fo bad er ∧
    GrowX (fun k => k = fb) w ((((((w.setCell ⟨fb, i * 6, none⟩ (.int .i64 x'.page)).setCell ⟨fb, i * 6 + 1, none⟩ (S8 x'.b)).setCell ⟨fb, i * 6 + 2, none⟩ (.bool x'.dirty)).setCell ⟨fb, i * 6 + 3, none⟩ (.bool x'.marked)).setCell ⟨fb, i * 6 + 4, none⟩ (.int .i64 x'.lsn)).setCell ⟨fb, i * 6 + 5, none⟩ (.int .i64 x'.rc)) := by
  obtain ⟨p0, b0, d0, m0, r0, l0⟩ := x
  obtain ⟨pa, b', di, ma, rc, ls⟩ := x'
  have hi := (List.getElem?_eq_some_iff.1 hx).1
  have hs : ∀ (y : Fm), (p.F.set i y)[i]? = some y := fun y => by rw [List.getElem?_set_self hi]
  have hll : ∀ (y : Fm), (p.F.set i y).length = n := fun y => by rw [List.length_set, hl]
  obtain ⟨a1, g1⟩ := h.setF hl i _ ⟨pa, b0, d0, m0, r0, l0⟩ hx 0 (by omega) (.int .i64 pa) rfl
  rw [Nat.add_zero] at a1 g1
  obtain ⟨a2, g2⟩ := a1.setF (hll _) i _ ⟨pa, b', d0, m0, r0, l0⟩ (hs _) 1 (by omega) (S8 b') rfl
  simp only [List.set_set] at a2
  obtain ⟨a3, g3⟩ := a2.setF (hll _) i _ ⟨pa, b', di, m0, r0, l0⟩ (hs _) 2 (by omega) (.bool di) rfl
  simp only [List.set_set] at a3
  obtain ⟨a4, g4⟩ := a3.setF (hll _) i _ ⟨pa, b', di, ma, r0, l0⟩ (hs _) 3 (by omega) (.bool ma) rfl
  simp only [List.set_set] at a4
  obtain ⟨a5, g5⟩ := a4.setF (hll _) i _ ⟨pa, b', di, ma, r0, ls⟩ (hs _) 4 (by omega) (.int .i64 ls) rfl
  simp only [List.set_set] at a5
  obtain ⟨a6, g6⟩ := a5.setF (hll _) i _ ⟨pa, b', di, ma, rc, ls⟩ (hs _) 5 (by omega) (.int .i64 rc) rfl
  simp only [List.set_set] at a6
  exact ⟨a6, g1.trans (g2.trans (g3.trans (g4.trans (g5.trans g6))))⟩
end
/-- the document's pool, newer than W0 -/
def RV (W0 : World) (r n pg : Nat) (bad er : Int) (p : Pl) (fo : List Int) (S : Nat → Prop) (w : World) : Prop :=
  ∃ db cd fb cf vo, RefAt w W0.heap.size r db cd fb cf vo pg n p fo bad er ∧ W0.heap.size ≤ r ∧ Below W0.heap.size W0 w ∧ p.ok pg n ∧ fo.length ≤ 1000000 ∧ S = ownR r db fb vo
section
variable {W0 w w' : World} {r n pg : Nat} {bad er : Int} {p : Pl} {fo : List Int} {S : Nat → Prop}
theorem RV.bel (h : RV W0 r n pg bad er p fo S w) : Below W0.heap.size W0 w := by obtain ⟨_, _, _, _, _, _, _, h, _⟩ := h; exact h
theorem RV.ok (h : RV W0 r n pg bad er p fo S w) : p.ok pg n := by obtain ⟨_, _, _, _, _, _, _, _, h, _⟩ := h; exact h
theorem RV.lt (h : RV W0 r n pg bad er p fo S w) : ∀ k, S k → W0.heap.size ≤ k ∧ k < w.heap.size := by
  obtain ⟨db, cd, fb, cf, vo, h1, h2, h3, h4, h5, rfl⟩ := h
  rintro k (rfl | rfl | rfl | e)
  · exact ⟨h2, h1.box.lt⟩
  · exact h1.dl
  · exact h1.fl
  · exact h1.orow.lt k e
theorem RV.grow {X : Nat → Prop} (h : RV W0 r n pg bad er p fo S w) (hg : GrowX X w w') (hX : Disj S X) (hB : Below W0.heap.size W0 w') : RV W0 r n pg bad er p fo S w' := by
  obtain ⟨db, cd, fb, cf, vo, h1, h2, h3, h4, h5, rfl⟩ := h
  exact ⟨db, cd, fb, cf, vo, h1.grow hg (fun k hk hx => hX k hk hx), h2, hB, h4, h5, rfl⟩
theorem RV.below (h : RV W0 r n pg bad er p fo S w) (hb : Below w.heap.size w w') : RV W0 r n pg bad er p fo S w' :=
  h.grow (X := fun _ => False) (grow_below hb) (fun _ _ h => h) (h.bel.trans (hb.mono h.bel.size))
end
end Go.Proofs.Ytdnjjdpenfhpeaa

/- Pk: texts of the store seat laid together by program: SpKit SpFind SpSet SpClean SpFree SpEvict SpGet SpPut. Conditions: each theorem names its own. -/
import Derived.Test.YtpajagkhmodbnaaGreatPk10
import Derived.Test.YtpajagkhmodbnaaGreatShelfI
import Derived.Deep.DeepCutAuto
import Derived.Deep.CutBlock
namespace Go.Proofs.YtpajagkhmodbnaaGreat
set_option linter.unusedSimpArgs false
set_option linter.unusedVariables false
section
open Go.RowKit
abbrev Fe := Fm × Value
def encF (e : Fe) : List Value := [.int .i64 e.1.page, e.2, .bool e.1.dirty, .bool e.1.marked, .int .i64 e.1.rc, .int .i64 e.1.lsn]
def fcells (E : List Fe) : List Value := E.flatMap encF
theorem fcells_length (E : List Fe) : (fcells E).length = E.length * 6 := by
 induction E with
 | nil => rfl
 | cons a r ih => simp only [fcells, List.flatMap_cons, List.length_append, List.length_cons, encF, List.length_nil] at *; omega
theorem flat_at {α : Type} [Inhabited α] (enc : α → List Value) (K : Nat) (hk : ∀ x, (enc x).length = K) (l : List α) (j : Nat) (hj : j < l.length) (i : Nat) (v : Value) (h : (enc l[j]!)[i]? = some v) : (l.flatMap enc)[j * K + i]? = some v := by
 induction l generalizing j with
 | nil => simp at hj
 | cons x r ih =>
  have hi : i < K := by rw [← hk (x :: r)[j]!]; exact (List.getElem?_eq_some_iff.1 h).1
  cases j with
  | zero =>
   simp only [List.flatMap_cons]
   rw [Nat.zero_mul, Nat.zero_add, List.getElem?_append_left (by rw [hk]; exact hi)]
   simpa using h
  | succ j =>
   simp only [List.flatMap_cons]
   rw [List.getElem?_append_right (by rw [hk, Nat.succ_mul]; omega), hk]
   have e : (j + 1) * K + i - K = j * K + i := by rw [Nat.succ_mul]; omega
   rw [e]
   exact ih j (by simpa using hj) (by simpa using h)
theorem fcells_at (E : List Fe) (i : Nat) (e : Fe) (h : E[i]? = some e) (j : Nat) (v : Value) (hv : (encF e)[j]? = some v) : (fcells E)[i * 6 + j]? = some v := by
 obtain ⟨hi, he⟩ := List.getElem?_eq_some_iff.1 h
 exact flat_at encF 6 (fun _ => rfl) E i hi j v (by rw [getElem!_pos E i hi, he]; exact hv)
theorem fcells_set (E : List Fe) (i : Nat) (e e' : Fe) (h : E[i]? = some e) (j : Nat) (hj : j < 6) (v : Value) (hv : encF e' = (encF e).set j v) : fcells (E.set i e') = (fcells E).set (i * 6 + j) v := by
 induction E generalizing i with
 | nil => simp at h
 | cons x r ih =>
  cases i with
  | zero =>
   simp at h
   subst h
   simp only [fcells, List.set_cons_zero, List.flatMap_cons, hv, Nat.zero_mul, Nat.zero_add]
   rw [List.set_append_left _ _ (by simp [encF]; exact hj)]
  | succ i =>
   simp only [List.set_cons_succ]
   have := ih i (by simpa using h)
   simp only [fcells, List.flatMap_cons] at *
   rw [List.set_append_right _ _ (by simp [encF]; omega), this]
   congr 2
   simp [encF]; omega
def Fm.ok (pg : Nat) (x : Fm) : Prop := (0 ≤ x.page → x.page < (pg : Int) ∧ x.b.length = 512) ∧ (x.dirty = true → 0 ≤ x.page)
structure Pq.ok (p : Pq) (pg n : Nat) : Prop where
 len : p.F.length = n
 n1 : 1 ≤ n
 n64 : n ≤ 64
 hand : p.hand < n
 fr : ∀ x ∈ p.F, x.ok pg
 wr : p.wr ≤ 1000000000
structure PoolAt (w : World) (G g lb n f : Nat) (fv : Value) (E : List Fe) (hand wr : Nat) (K : Nat → Prop) : Prop where
 box : Box w g [.pointer (some ⟨f, 0, none⟩), .slice (some ⟨lb, 0, none⟩) n n, fv, .int .i64 (hand : Nat), .int .i64 (wr : Nat)]
 row : w.ownsRow G 159 6 (.slice (some ⟨lb, 0, none⟩) n n) n (fcells E)
 len : E.length = n
 txt : ∀ e ∈ E, SecAt w K e.1.b e.2
 kin : ∀ k, K k → G ≤ k ∧ k < w.heap.size
 kg : ¬ K g
 kl : ¬ K lb
 gl : g ≠ lb
theorem PoolAt.ll {w : World} {G g lb n f : Nat} {fv : Value} {E : List Fe} {hand wr : Nat} {K : Nat → Prop} (h : PoolAt w G g lb n f fv E hand wr K) : G ≤ lb ∧ lb < w.heap.size := h.row.lt lb rfl
theorem PoolAt.grow {X : Nat → Prop} {w w' : World} {G g lb n f : Nat} {fv : Value} {E : List Fe} {hand wr : Nat} {K : Nat → Prop} (h : PoolAt w G g lb n f fv E hand wr K) (hg : GrowX X w w') (h1 : ¬ X g) (h2 : ¬ X lb) (h3 : ∀ k, K k → ¬ X k) : PoolAt w' G g lb n f fv E hand wr K :=
 ⟨h.box.growx hg h1, own_growx h.row hg (fun q e => by have e2 : lb = q := (by simpa [Value.ownBlock] using e); exact e2 ▸ h2), h.len, fun e he => (h.txt e he).grow hg h3, fun k hk => ⟨(h.kin k hk).1, Nat.lt_of_lt_of_le (h.kin k hk).2 hg.size⟩, h.kg, h.kl, h.gl⟩
theorem PoolAt.cell {w : World} {G g lb n f : Nat} {fv : Value} {E : List Fe} {hand wr : Nat} {K : Nat → Prop} (h : PoolAt w G g lb n f fv E hand wr K) (i : Nat) (e : Fe) (he : E[i]? = some e) (j : Nat) (v : Value) (hv : (encF e)[j]? = some v) : w.cell? ⟨lb, i * 6 + j, none⟩ = some v := by
 obtain ⟨a0, c0, e0, _, _, hr⟩ := Reads.of_own h.row
 have hi := (List.getElem?_eq_some_iff.1 he).1
 obtain ⟨b1, o1, e1, h1, h2⟩ := hr (by have := h.len; omega)
 injection e0 with e2 e3 e4
 rw [e1] at e2
 injection e2 with e5
 injection e5 with e6 e7
 subst e6 e7
 have := h2 _ _ (fcells_at E i e he j v hv)
 rwa [Nat.zero_add] at this
theorem PoolAt.fzl {w : World} {G g lb n f : Nat} {fv : Value} {E : List Fe} {hand wr : Nat} {K : Nat → Prop} (h : PoolAt w G g lb n f fv E hand wr K) (o : Nat) : w.frozen? ⟨lb, o, none⟩ = false := own_free h.row rfl o
def own3 (g lb : Nat) (K : Nat → Prop) : Nat → Prop := fun k => k = g ∨ k = lb ∨ K k
def DM (W0 : World) (S : Nat → Prop) (w : World) : Prop := Below W0.heap.size W0 w ∧ S = fun _ => False
theorem DM.bel {W0 w : World} {S : Nat → Prop} (h : DM W0 S w) : Below W0.heap.size W0 w := h.1
theorem DM.lt {W0 w : World} {S : Nat → Prop} (h : DM W0 S w) : ∀ k, S k → W0.heap.size ≤ k ∧ k < w.heap.size := by rw [h.2]; exact fun _ h => h.elim
theorem DM.grow {W0 w w' : World} {S X : Nat → Prop} (h : DM W0 S w) (_ : GrowX X w w') (_ : Disj S X) (hB : Below W0.heap.size W0 w') : DM W0 S w' := ⟨hB, h.2⟩
theorem DM.below {W0 w w' : World} {S : Nat → Prop} (h : DM W0 S w) (hb : Below w.heap.size w w') : DM W0 S w' := ⟨h.1.trans (hb.mono h.1.size), h.2⟩
structure IoOf (W0 : World) (f pg fn : Nat) (caps : Array Value) {T : Type} (Iw : T → (Nat → Prop) → World → Prop) (O : IoF T) : Prop where
 enter : ∀ args w, (callFunc fn args).run Tryz.prog w = .ok (.enter fn args) w
 ans : ∀ s S w l, Iw s S w → Calls Tryz.prog fn (#[.int .i64 l] ++ caps) w fun e w' => ∃ S', e = .returned (.int .i64 (O.step s l).1) ∧ Iw (O.step s l).2 S' w' ∧ Foot S S' w w'
 rd : ∀ s S w (q : Nat), Iw s S w → q < pg → Calls Tryz.prog 105 #[.pointer (some ⟨f, 0, none⟩), .int .i64 (q : Nat)] w fun e w' => ∃ v : Value, e = .returned (.tuple #[v, .int .i64 0]) ∧ w'.ownsRow w.heap.size 5 1 v 512 ((O.pgs s q).map B) ∧ Iw (O.rd s) S w' ∧ GrowX S w w'
 wrt : ∀ s S w (q : Nat) (b : List UInt8) (v : Value), Iw s S w → q < pg → b.length = 512 → Reads 1 w v 512 (b.map B) → (∀ k, v.ownBlock = some k → ¬ S k) → Calls Tryz.prog 135 #[.pointer (some ⟨f, 0, none⟩), .int .i64 (q : Nat), v] w fun e w' => ∃ S', e = .returned (.int .i64 0) ∧ Iw (O.wr s q b) S' w' ∧ Foot S S' w w'
 bad : ∀ s S w (m : Int), Iw s S w → (m < 0 ∨ (pg : Int) ≤ m) → Calls Tryz.prog 105 #[.pointer (some ⟨f, 0, none⟩), .int .i64 m] w fun e w' => e = .returned (.tuple #[.slice none 0 0, .int .i64 1]) ∧ w' = w
 pages : ∀ s S w, Iw s S w → Calls Tryz.prog 51 #[.pointer (some ⟨f, 0, none⟩)] w fun e w' => e = .returned (.int .i64 (pg : Nat)) ∧ w' = w
 len : ∀ s S w, Iw s S w → ∀ q, q < pg → (O.pgs s q).length = 512
 small : pg ≤ 8192
 grow : ∀ s S X w w', Iw s S w → GrowX X w w' → Disj S X → Below W0.heap.size W0 w' → Iw s S w'
 lt : ∀ s S w, Iw s S w → ∀ k, S k → W0.heap.size ≤ k ∧ k < w.heap.size
 bel : ∀ s S w, Iw s S w → Below W0.heap.size W0 w
def PV (W0 : World) (g n f pg : Nat) (fv : Value) {T : Type} (Iw : T → (Nat → Prop) → World → Prop) (p : Pq) (s : T) (S : Nat → Prop) (w : World) : Prop :=
 ∃ lb E K S1 S2, PoolAt w W0.heap.size g lb n f fv E p.hand p.wr K ∧ W0.heap.size ≤ g ∧ DM W0 S1 w ∧ Iw s S2 w ∧ E.map (·.1) = p.F ∧ p.ok pg n ∧ Disj (own3 g lb K) S1 ∧ Disj (own3 g lb K) S2 ∧ Disj S1 S2 ∧ S = fun k => own3 g lb K k ∨ S1 k ∨ S2 k
section
variable {W0 : World} {g n f pg : Nat} {fv : Value} {T : Type} {Iw : T → (Nat → Prop) → World → Prop} {p : Pq} {s : T} {S : Nat → Prop} {w : World} {fn : Nat} {caps : Array Value} {O : IoF T}
theorem PV.bel (h : PV W0 g n f pg fv Iw p s S w) : Below W0.heap.size W0 w := by
 obtain ⟨lb, E, K, S1, S2, h1, h2, h3, h4, h5, h6, h7, h8, h9, rfl⟩ := h
 exact h3.bel
theorem PV.ok (h : PV W0 g n f pg fv Iw p s S w) : p.ok pg n := by
 obtain ⟨lb, E, K, S1, S2, h1, h2, h3, h4, h5, h6, h7, h8, h9, rfl⟩ := h
 exact h6
theorem PV.lt (hF : IoOf W0 f pg fn caps Iw O) (h : PV W0 g n f pg fv Iw p s S w) : ∀ k, S k → W0.heap.size ≤ k ∧ k < w.heap.size := by
 obtain ⟨lb, E, K, S1, S2, h1, h2, h3, h4, h5, h6, h7, h8, h9, rfl⟩ := h
 rintro k ((rfl | rfl | hk) | hk | hk)
 ·exact ⟨h2, h1.box.lt⟩
 ·exact h1.ll
 ·exact h1.kin k hk
 ·exact h3.lt k hk
 ·exact hF.lt _ _ _ h4 k hk
theorem PV.grow {X : Nat → Prop} {w' : World} (hF : IoOf W0 f pg fn caps Iw O) (h : PV W0 g n f pg fv Iw p s S w) (hg : GrowX X w w') (hX : Disj S X) (hB : Below W0.heap.size W0 w') : PV W0 g n f pg fv Iw p s S w' := by
 obtain ⟨lb, E, K, S1, S2, h1, h2, h3, h4, h5, h6, h7, h8, h9, rfl⟩ := h
 exact ⟨lb, E, K, S1, S2, h1.grow hg (fun h => hX g (.inl (.inl rfl)) h) (fun h => hX lb (.inl (.inr (.inl rfl))) h) (fun k hk h => hX k (.inl (.inr (.inr hk))) h), h2,
  h3.grow hg (fun k hk h => hX k (.inr (.inl hk)) h) hB, hF.grow _ _ _ _ _ h4 hg (fun k hk h => hX k (.inr (.inr hk)) h) hB, h5, h6, h7, h8, h9, rfl⟩
theorem PV.below {w' : World} (hF : IoOf W0 f pg fn caps Iw O) (h : PV W0 g n f pg fv Iw p s S w) (hb : Below w.heap.size w w') : PV W0 g n f pg fv Iw p s S w' :=
 h.grow hF (X := fun _ => False) (grow_below hb) (fun _ _ h => h) (h.bel.trans (hb.mono h.bel.size))
end
end
section
open Go.RowKit
def atI (o : Option Nat) : Int := match o with | some i => (i : Int) | none => -1
theorem idx_findIdx {α : Type} [Inhabited α] (p : α → Bool) (l : List α) : Lib.idxBy (fun _ y => p y) l default = atI (l.findIdx? p) := by
 cases h : l.findIdx? p with
 | none =>
  have h1 := List.findIdx?_eq_none_iff.1 h
  exact (Lib.idxByFrom_miss _ _ l 0 (fun j hj => by rw [getElem!_pos l j hj]; exact h1 _ (List.getElem_mem hj)))
 | some k =>
  obtain ⟨hk, h1, h2⟩ := List.findIdx?_eq_some_iff_getElem.1 h
  have := Lib.idxByFrom_hit (fun _ y => p y) default l k 0 hk (by rw [getElem!_pos l k hk]; exact h1) (fun j hj => by rw [getElem!_pos l j (by omega)]; have := h2 j hj; simpa using this)
  unfold Lib.idxBy
  rw [this]
  simp [atI]
theorem aggFr (w : World) : (isAgg 159).run Tryz.prog w = .ok true w := by kernel_rfl
theorem sizeFr (w : World) : (Go.sizeOf 159).run Tryz.prog w = .ok 6 w := by kernel_rfl
theorem idxF_any (E : List Fe) (n : Nat) (lb : Nat) (fn : Nat) (caps : Array Value) (p : Fe → Bool) (F : World → Prop) (eg : ∀ args w, (callFunc fn args).run Tryz.prog w = .ok (.enter fn args) w)
  (hP : ∀ W (x : Fe), F W → Calls Tryz.prog fn (#[.agg #[.int .i64 x.1.page, x.2, .bool x.1.dirty, .bool x.1.marked, .int .i64 x.1.rc, .int .i64 x.1.lsn]] ++ caps) W fun e w' => e = .returned (.bool (p x)) ∧ Below W.heap.size W w')
  (hst : ∀ W W', F W → Below W.heap.size W W' → F W') (hl : E.length = n) (hn : n ≤ 1099511627776) (hpos : 0 < n) (w : World) (hF : F w) (hv : Reads 6 w (.slice (some ⟨lb, 0, none⟩) n n) n (fcells E)) :
  Calls Tryz.prog 132 #[.slice (some ⟨lb, 0, none⟩) n n, .func (.func fn) #[] caps] w fun e w' => e = .returned (.int .i64 (atI (E.findIdx? p))) ∧ Below w.heap.size w w' := by
 obtain ⟨_, _, b, o, e1, hbl, hc⟩ := hv.some_addr hpos
 injection e1 with e1
 injection e1 with e1 e2
 subst e1 e2
 have := AnyQ.slices_IndexFunc (α := Fe) Tryz.idxFr 6 aggFr sizeFr encF (fun _ => rfl) p fn caps eg lb 0 n n E w
  (fun W x hW => (hP W x (hst w W hF hW)).mono fun _ _ ⟨h1, h2⟩ => ⟨h1, hW.trans (h2.mono hW.size)⟩) (Nat.le_of_eq hl.symm) (by omega) hbl
  (fun j hj i v hi => by rw [Nat.add_assoc]; exact hc _ _ (flat_at encF 6 (fun _ => rfl) E j hj i v hi))
 rw [List.take_of_length_le (Nat.le_of_eq hl), idx_findIdx] at this
 exact this
theorem atI_map (E : List Fe) (q : Fm → Bool) : E.findIdx? (fun e => q e.1) = (E.map (·.1)).findIdx? q := by
 rw [List.findIdx?_map]; rfl
theorem fclos_any (g : Nat) (m : Int) (x : Fe) (w : World) (hb : Box w g [.int .i64 m]) :
  Calls Tryz.prog 133 #[.agg #[.int .i64 x.1.page, x.2, .bool x.1.dirty, .bool x.1.marked, .int .i64 x.1.rc, .int .i64 x.1.lsn], .pointer (some ⟨g, 0, none⟩)] w fun e w' => e = .returned (.bool (isP m x.1)) ∧ Below w.heap.size w w' := by
 have hc0 := hb.cell 0 _ rfl
 have hlt := hb.lt
 clear hb
 obtain ⟨⟨pg, b, di, ma, rc, ls⟩, v⟩ := x
 simp only
 by_cases h : pg = m
 ·have hb1 : (pg == m) = true := by simpa using h
  have hb1' : decide (pg = m) = true := by simpa using h
  by_cases h2 : 0 ≤ m
  ·have hb2 : decide (m ≥ 0) = true := by simpa using h2
   have hb2' : decide (0 ≤ m) = true := by simpa using h2
   have HB : Hid (isP m ⟨pg, b, di, ma, rc, ls⟩ = true) := Lib.hid (by simp [isP, h, h2])
   clear h h2
   go_enter Tryz.func133, Tryz.ntmps133
   go_wp2
   go_ret
   exact ⟨by rw [HB.out]; rfl, (Below.refl _ _).alloc (Nat.le_refl _) _⟩
  ·have hb2 : decide (m ≥ 0) = false := by simpa using h2
   have hb2' : decide (0 ≤ m) = false := by simpa using h2
   have HB : Hid (isP m ⟨pg, b, di, ma, rc, ls⟩ = false) := Lib.hid (by simp [isP, h, h2])
   clear h h2
   go_enter Tryz.func133, Tryz.ntmps133
   go_wp2
   go_ret
   exact ⟨by rw [HB.out]; rfl, (Below.refl _ _).alloc (Nat.le_refl _) _⟩
 ·have hb1 : (pg == m) = false := by simpa using h
  have hb1' : decide (pg = m) = false := by simpa using h
  have HB : Hid (isP m ⟨pg, b, di, ma, rc, ls⟩ = false) := Lib.hid (by simp [isP, h])
  clear h
  go_enter Tryz.func133, Tryz.ntmps133
  go_wp2
  go_ret
  exact ⟨by rw [HB.out]; rfl, (Below.refl _ _).alloc (Nat.le_refl _) _⟩
theorem eclos_any (x : Fe) (w : World) :
  Calls Tryz.prog 134 #[.agg #[.int .i64 x.1.page, x.2, .bool x.1.dirty, .bool x.1.marked, .int .i64 x.1.rc, .int .i64 x.1.lsn]] w fun e w' => e = .returned (.bool (isE x.1)) ∧ Below w.heap.size w w' := by
 obtain ⟨⟨pg, b, di, ma, rc, ls⟩, v⟩ := x
 simp only [isE]
 go_enter Tryz.func134, Tryz.ntmps134
 go_wp2
 go_ret
 exact ⟨rfl, (Below.refl _ _).alloc (Nat.le_refl _) _⟩
set_option maxRecDepth 100000 in
set_option maxHeartbeats 1600000 in
theorem find_at {w : World} {G g lb n f : Nat} {fv : Value} {E : List Fe} {hand wr : Nat} {K : Nat → Prop} (h : PoolAt w G g lb n f fv E hand wr K) (hn : 1 ≤ n) (hn2 : n ≤ 64) (m : Int) :
  Calls Tryz.prog 104 #[.pointer (some ⟨g, 0, none⟩), .int .i64 m] w fun e w' => e = .returned (.int .i64 (atI (findL (E.map (·.1)) m))) ∧ Below w.heap.size w w' := by
 have hal : Below w.heap.size w (w.alloc (.cells #[.int .i64 m] 3)) := (Below.refl _ _).alloc (Nat.le_refl _) _
 have hbx := Box.new w #[.int .i64 m] 3 rfl
 have h1 := h.grow (X := fun _ => False) (grow_below hal) (fun h => h) (fun h => h) (fun _ _ h => h)
 have eg : ∀ args w, (callFunc 133 args).run Tryz.prog w = .ok (.enter 133 args) w := enters_of Tryz.func133 (by kernel_rfl) rfl
 have hcall := idxF_any E n lb 133 #[.pointer (some ⟨w.heap.size, 0, none⟩)] (fun e => isP m e.1) (fun W => Box W w.heap.size [.int .i64 m]) eg (fun W x hW => fclos_any _ m x W hW) (fun W W' hW hB => hW.growx (X := fun _ => False) (grow_below hB) (fun h => h)) h1.len (by omega) (by omega) _ hbx (Reads.of_own h1.row)
 rw [atI_map] at hcall
 obtain ⟨r, hr⟩ : ∃ r, atI (findL (E.map (·.1)) m) = r := ⟨_, rfl⟩
 rw [show atI ((E.map (·.1)).findIdx? (isP m)) = r from hr] at hcall
 rw [hr]
 have hws := hal.size
 have c1 := h1.box.cell 1 _ rfl
 have hlt := h1.box.lt
 have HC := Lib.hid hcall
 have HA := Lib.hid hal
 clear hcall h1 h eg hbx hal hr
 go_enter Tryz.func104, Tryz.ntmps104
 go_wp2_with fail
 refine HC.out.mono ?_
 rintro e w2 ⟨rfl, hb⟩
 have HB := Lib.hid hb
 clear hb
 go_wp2_with fail
 go_ret
 exact ⟨rfl, HA.out.trans (HB.out.mono hws)⟩
section
variable {W0 : World} {g n f pg : Nat} {fv : Value} {T : Type} {Iw : T → (Nat → Prop) → World → Prop} {p : Pq} {s : T} {S : Nat → Prop} {w : World} {fn : Nat} {caps : Array Value} {O : IoF T}
theorem find_pv (hF : IoOf W0 f pg fn caps Iw O) (h : PV W0 g n f pg fv Iw p s S w) (m : Int) :
  Calls Tryz.prog 104 #[.pointer (some ⟨g, 0, none⟩), .int .i64 m] w fun e w' => e = .returned (.int .i64 (atI (findL p.F m))) ∧ PV W0 g n f pg fv Iw p s S w' ∧ Below w.heap.size w w' := by
 have h0 := h
 obtain ⟨lb, E, K, S1, S2, h1, h2, h3, h4, h5, h6, h7, h8, h9, rfl⟩ := h
 have := find_at h1 h6.n1 h6.n64 m
 rw [h5] at this
 exact this.mono fun e w' ⟨e1, e2⟩ => ⟨e1, h0.below hF e2, e2⟩
end
end
section
open Go.RowKit
theorem Foot.inc {S S' B B' : Nat → Prop} {w w' : World} (h : Foot B B' w w') (h1 : ∀ k, B k → S k) (h2 : ∀ k, S' k → S k ∨ B' k) : Foot S S' w w' :=
 ⟨h.grow.mono h1, fun k hk => (h2 k hk).elim .inl (fun hb => (h.new k hb).imp (h1 k) id)⟩
theorem Foot.same {S B : Nat → Prop} {w w' : World} (h : GrowX B w w') (h1 : ∀ k, B k → S k) : Foot S S w w' := ⟨h.mono h1, fun k hk => .inl hk⟩
section
variable {w : World} {G g lb n f : Nat} {fv : Value} {E : List Fe} {hand wr : Nat} {K : Nat → Prop}
theorem PoolAt.setWr (h : PoolAt w G g lb n f fv E hand wr K) (wr' : Nat) : PoolAt (w.setCell ⟨g, 4, none⟩ (.int .i64 (wr' : Nat))) G g lb n f fv E hand wr' K ∧ GrowX (fun k => k = g) w (w.setCell ⟨g, 4, none⟩ (.int .i64 (wr' : Nat))) := by
 obtain ⟨k1, k2⟩ := Box.set1 h.box 4 (.int .i64 (wr' : Nat))
 have k3 : GrowX (fun k => k = g) w (w.setCell ⟨g, 4, none⟩ (.int .i64 (wr' : Nat))) := GrowX.of_growC k2 (fun k o h => h.1)
 exact ⟨⟨k1, own_growx h.row k3 (fun q e => by have e2 : lb = q := (by simpa [Value.ownBlock] using e); exact fun e => h.gl (e2 ▸ e.symm)), h.len, fun e he => (h.txt e he).grow k3 (fun k hk e => h.kg (e ▸ hk)), fun k hk => ⟨(h.kin k hk).1, Nat.lt_of_lt_of_le (h.kin k hk).2 k3.size⟩, h.kg, h.kl, h.gl⟩, k3⟩
theorem PoolAt.setHand (h : PoolAt w G g lb n f fv E hand wr K) (hand' : Nat) : PoolAt (w.setCell ⟨g, 3, none⟩ (.int .i64 (hand' : Nat))) G g lb n f fv E hand' wr K ∧ GrowX (fun k => k = g) w (w.setCell ⟨g, 3, none⟩ (.int .i64 (hand' : Nat))) := by
 obtain ⟨k1, k2⟩ := Box.set1 h.box 3 (.int .i64 (hand' : Nat))
 have k3 : GrowX (fun k => k = g) w (w.setCell ⟨g, 3, none⟩ (.int .i64 (hand' : Nat))) := GrowX.of_growC k2 (fun k o h => h.1)
 exact ⟨⟨k1, own_growx h.row k3 (fun q e => by have e2 : lb = q := (by simpa [Value.ownBlock] using e); exact fun e => h.gl (e2 ▸ e.symm)), h.len, fun e he => (h.txt e he).grow k3 (fun k hk e => h.kg (e ▸ hk)), fun k hk => ⟨(h.kin k hk).1, Nat.lt_of_lt_of_le (h.kin k hk).2 k3.size⟩, h.kg, h.kl, h.gl⟩, k3⟩
theorem PoolAt.setF (h : PoolAt w G g lb n f fv E hand wr K) (i : Nat) (e e' : Fe) (he : E[i]? = some e) (j : Nat) (hj : j < 6) (v : Value) (hv : encF e' = (encF e).set j v) (ht : SecAt w K e'.1.b e'.2) :
  PoolAt (w.setCell ⟨lb, i * 6 + j, none⟩ v) G g lb n f fv (E.set i e') hand wr K ∧ GrowX (fun k => k = lb) w (w.setCell ⟨lb, i * 6 + j, none⟩ v) := by
 have k3 : GrowX (fun k => k = lb) w (w.setCell ⟨lb, i * 6 + j, none⟩ v) := growX_setCell _ _ _ _
 have hi := (List.getElem?_eq_some_iff.1 he).1
 refine ⟨⟨h.box.growx k3 h.gl, ?_, by rw [List.length_set]; exact h.len, ?_, fun k hk => ⟨(h.kin k hk).1, Nat.lt_of_lt_of_le (h.kin k hk).2 k3.size⟩, h.kg, h.kl, h.gl⟩, k3⟩
 ·rw [fcells_set E i e e' he j hj v hv]
  exact own_set h.row rfl _ (by have := h.len; omega) v
 ·intro x hx
  refine SecAt.grow ?_ k3 (fun k hk e => h.kl (e ▸ hk))
  rcases List.mem_or_eq_of_mem_set hx with hx | rfl
  ·exact h.txt x hx
  ·exact ht
theorem PoolAt.put6 (h : PoolAt w G g lb n f fv E hand wr K) (i : Nat) (e : Fe) (he : E[i]? = some e) (pa : Int) (b' : List UInt8) (v' : Value) (di ma : Bool) (rc ls : Int) (ht : SecAt w K b' v') :
  PoolAt ((((((w.setCell ⟨lb, i * 6, none⟩ (.int .i64 pa)).setCell ⟨lb, i * 6 + 1, none⟩ v').setCell ⟨lb, i * 6 + 2, none⟩ (.bool di)).setCell ⟨lb, i * 6 + 3, none⟩ (.bool ma)).setCell ⟨lb, i * 6 + 4, none⟩ (.int .i64 rc)).setCell ⟨lb, i * 6 + 5, none⟩ (.int .i64 ls)) G g lb n f fv (E.set i (⟨pa, b', di, ma, rc, ls⟩, v')) hand wr K ∧
  GrowX (fun k => k = lb) w ((((((w.setCell ⟨lb, i * 6, none⟩ (.int .i64 pa)).setCell ⟨lb, i * 6 + 1, none⟩ v').setCell ⟨lb, i * 6 + 2, none⟩ (.bool di)).setCell ⟨lb, i * 6 + 3, none⟩ (.bool ma)).setCell ⟨lb, i * 6 + 4, none⟩ (.int .i64 rc)).setCell ⟨lb, i * 6 + 5, none⟩ (.int .i64 ls)) := by
 obtain ⟨⟨p0, b0, d0, m0, r0, l0⟩, v0⟩ := e
 have hi := (List.getElem?_eq_some_iff.1 he).1
 have hs : ∀ (y : Fe), (E.set i y)[i]? = some y := fun y => by rw [List.getElem?_set_self hi]
 have hK : ∀ k, K k → k ≠ lb := fun k hk e => h.kl (e ▸ hk)
 obtain ⟨a1, g1⟩ := h.setF i _ (⟨pa, b0, d0, m0, r0, l0⟩, v0) he 0 (by omega) (.int .i64 pa) rfl (h.txt (⟨p0, b0, d0, m0, r0, l0⟩, v0) (List.mem_of_getElem? he))
 rw [Nat.add_zero] at a1 g1
 obtain ⟨a2, g2⟩ := a1.setF i _ (⟨pa, b', d0, m0, r0, l0⟩, v') (hs _) 1 (by omega) v' rfl (ht.grow g1 hK)
 rw [List.set_set] at a2
 obtain ⟨a3, g3⟩ := a2.setF i _ (⟨pa, b', di, m0, r0, l0⟩, v') (hs _) 2 (by omega) (.bool di) rfl (a2.txt (⟨pa, b', d0, m0, r0, l0⟩, v') (List.mem_of_getElem? (hs _)))
 rw [List.set_set] at a3
 obtain ⟨a4, g4⟩ := a3.setF i _ (⟨pa, b', di, ma, r0, l0⟩, v') (hs _) 3 (by omega) (.bool ma) rfl (a3.txt (⟨pa, b', di, m0, r0, l0⟩, v') (List.mem_of_getElem? (hs _)))
 rw [List.set_set] at a4
 obtain ⟨a5, g5⟩ := a4.setF i _ (⟨pa, b', di, ma, rc, l0⟩, v') (hs _) 4 (by omega) (.int .i64 rc) rfl (a4.txt (⟨pa, b', di, ma, r0, l0⟩, v') (List.mem_of_getElem? (hs _)))
 rw [List.set_set] at a5
 obtain ⟨a6, g6⟩ := a5.setF i _ (⟨pa, b', di, ma, rc, ls⟩, v') (hs _) 5 (by omega) (.int .i64 ls) rfl (a5.txt (⟨pa, b', di, ma, rc, l0⟩, v') (List.mem_of_getElem? (hs _)))
 rw [List.set_set] at a6
 exact ⟨a6, g1.trans (g2.trans (g3.trans (g4.trans (g5.trans g6))))⟩
theorem SecAt.nil {w : World} {K : Nat → Prop} : SecAt w K [] (.slice none 0 0) := ⟨⟨none, 0, rfl, rfl, Nat.le_refl _, fun h => absurd h (Nat.lt_irrefl 0)⟩, fun q e => by cases e⟩
theorem PoolAt.addK (h : PoolAt w G g lb n f fv E hand wr K) (K' : Nat → Prop) (h1 : ∀ k, K k → K' k) (h2 : ∀ k, K' k → K k ∨ (G ≤ k ∧ k < w.heap.size ∧ k ≠ g ∧ k ≠ lb)) : PoolAt w G g lb n f fv E hand wr K' :=
 ⟨h.box, h.row, h.len, fun e he => (h.txt e he).mono h1, fun k hk => (h2 k hk).elim (h.kin k) (fun h => ⟨h.1, h.2.1⟩), fun hk => (h2 g hk).elim h.kg (fun h => h.2.2.1 rfl), fun hk => (h2 lb hk).elim h.kl (fun h => h.2.2.2 rfl), h.gl⟩
end
theorem Pq.ok.set {p : Pq} {pg n : Nat} (h : p.ok pg n) (i : Nat) (x : Fm) (hx : x.ok pg) : ∀ y ∈ p.F.set i x, y.ok pg := by
 intro y hy
 rcases List.mem_or_eq_of_mem_set hy with hy | rfl
 ·exact h.fr y hy
 ·exact hx
theorem map_set_fst (E : List Fe) (i : Nat) (x : Fm) (v : Value) : (E.set i (x, v)).map (·.1) = (E.map (·.1)).set i x := by rw [List.map_set]
end
section
open Go.RowKit
theorem Pq.clean_no {T : Type} {O : IoF T} {p : Pq} {s : T} {i : Nat} (h : (p.F.getD i Fm.free).dirty = false) : p.clean O s i = (0, p, s) := by
 unfold Pq.clean; rw [if_neg (by rw [h]; decide)]
theorem Pq.clean_err {T : Type} {O : IoF T} {p : Pq} {s rs : T} {i : Nat} {x : Fm} {re : Int} (h0 : p.F.getD i Fm.free = x) (h : x.dirty = true) (h1 : O.step s x.lsn = (re, rs)) (h2 : ¬ re = 0) : p.clean O s i = (re, p, rs) := by
 unfold Pq.clean; rw [h0, if_pos h, h1, if_neg h2]
theorem Pq.clean_ok {T : Type} {O : IoF T} {p : Pq} {s rs : T} {i : Nat} {x : Fm} (h0 : p.F.getD i Fm.free = x) (h : x.dirty = true) (h1 : O.step s x.lsn = (0, rs)) : p.clean O s i = (0, { p with F := p.F.set i { x with dirty := false }, wr := p.wr + 1 }, O.wr rs x.page.toNat x.b) := by
 unfold Pq.clean; rw [h0, if_pos h, h1, if_pos rfl]
def WCl4 (g lb n f ix q fn : Nat) (caps : Array Value) (hdv wrv vb : Value) (ls : Int) (j b o : Nat) : Prop := False
def PCl4 (g lb n f ix q fn : Nat) (caps : Array Value) (hdv wrv vb : Value) (ls : Int) (i : Nat) (v : Value) (lo hi : Nat) (w : World) : Prop :=
 match i with
 | 0 => v = .pointer (some ⟨g, 0, none⟩)
 | 1 => v = .pointer (some ⟨g, 0, none⟩)
 | 2 => v = .pointer (some ⟨g, 2, none⟩)
 | 3 => v = .func (.func fn) #[] caps
 | 4 => v = .pointer (some ⟨lb, ix * 6, none⟩)
 | 5 => v = .pointer (some ⟨lb, ix * 6, none⟩)
 | 6 => v = .pointer (some ⟨lb, ix * 6 + 5, none⟩)
 | 7 => v = .int .i64 ls
 | _ => True
theorem PCl4_stable (g lb n f ix q fn : Nat) (caps : Array Value) (hdv wrv vb : Value) (ls : Int)  : ∀ i j, i < 8 → j < 8 → j ≠ i → j ∉ ([[], [0], [0, 1], [0, 1, 2], [], [4], [4, 5], [4, 5, 6]] : List (List Nat)).getD i [] → ∀ v lo hi w w', PCl4 g lb n f ix q fn caps hdv wrv vb ls i v lo hi w → GrowC (WCl4 g lb n f ix q fn caps hdv wrv vb ls j) w w' → PCl4 g lb n f ix q fn caps hdv wrv vb ls i v lo hi w' := by
 intro i j hi hj hne hbs v lo hj2 w w' h hg
 match i, hi with
 | 0, _ | 1, _ | 2, _ | 3, _ | 4, _ | 5, _ | 6, _ | 7, _ =>
  simp only [PCl4] at h ⊢
  exact h
 | (q + 8), hq => exact absurd hq (by omega)
def WCl7 (g lb n f ix q fn : Nat) (caps : Array Value) (hdv wrv vb : Value) (ls : Int) (j b o : Nat) : Prop := False
def PCl7 (g lb n f ix q fn : Nat) (caps : Array Value) (hdv wrv vb : Value) (ls : Int) (i : Nat) (v : Value) (lo hi : Nat) (w : World) : Prop :=
 match i with
 | 0 => v = .pointer (some ⟨g, 0, none⟩)
 | 1 => v = .pointer (some ⟨g, 0, none⟩)
 | 2 => v = .pointer (some ⟨g, 0, none⟩)
 | 3 => v = .pointer (some ⟨f, 0, none⟩)
 | 4 => v = .pointer (some ⟨lb, ix * 6, none⟩)
 | 5 => v = .pointer (some ⟨lb, ix * 6, none⟩)
 | 6 => v = .pointer (some ⟨lb, ix * 6, none⟩)
 | 7 => v = .int .i64 ((q : Nat) : Int)
 | 8 => v = .pointer (some ⟨lb, ix * 6, none⟩)
 | 9 => v = .pointer (some ⟨lb, ix * 6, none⟩)
 | 10 => v = .pointer (some ⟨lb, ix * 6 + 1, none⟩)
 | 11 => v = vb
 | _ => True
theorem PCl7_stable (g lb n f ix q fn : Nat) (caps : Array Value) (hdv wrv vb : Value) (ls : Int)  : ∀ i j, i < 12 → j < 12 → j ≠ i → j ∉ ([[], [0], [0, 1], [0, 1, 2], [], [4], [4, 5], [4, 5, 6], [], [8], [8, 9], [8, 9, 10]] : List (List Nat)).getD i [] → ∀ v lo hi w w', PCl7 g lb n f ix q fn caps hdv wrv vb ls i v lo hi w → GrowC (WCl7 g lb n f ix q fn caps hdv wrv vb ls j) w w' → PCl7 g lb n f ix q fn caps hdv wrv vb ls i v lo hi w' := by
 intro i j hi hj hne hbs v lo hj2 w w' h hg
 match i, hi with
 | 0, _ | 1, _ | 2, _ | 3, _ | 4, _ | 5, _ | 6, _ | 7, _ | 8, _ | 9, _ | 10, _ | 11, _ =>
  simp only [PCl7] at h ⊢
  exact h
 | (q + 12), hq => exact absurd hq (by omega)
section
variable {W0 : World} {g n f pg : Nat} {T : Type} {Iw : T → (Nat → Prop) → World → Prop} {p : Pq} {s : T} {S : Nat → Prop} {w : World} {fn : Nat} {caps : Array Value} {O : IoF T}
set_option maxRecDepth 100000 in
set_option maxHeartbeats 3200000 in
theorem clean_pv (hF : IoOf W0 f pg fn caps Iw O) (h : PV W0 g n f pg (.func (.func fn) #[] caps) Iw p s S w) (ix : Nat) (hi : ix < n) (hwr : p.wr + 1 ≤ 1000000000) :
  Calls Tryz.prog 109 #[.pointer (some ⟨g, 0, none⟩), .int .i64 (ix : Nat)] w fun e w' => ∃ S', e = .returned (.int .i64 (p.clean O s ix).1) ∧ PV W0 g n f pg (.func (.func fn) #[] caps) Iw (p.clean O s ix).2.1 (p.clean O s ix).2.2 S' w' ∧ Foot S S' w w' := by
 have h0 := h
 obtain ⟨lb, E, K, S1, S2, h1, h2, h3, h4, h5, h6, h7, h8, h9, rfl⟩ := h
 have hiE : ix < E.length := by rw [h1.len]; exact hi
 obtain ⟨e0, he0⟩ : ∃ e, E[ix]? = some e := ⟨_, List.getElem?_eq_getElem hiE⟩
 have hpF : p.F.getD ix Fm.free = e0.1 := by
  rw [← h5, List.getD_eq_getElem?_getD, List.getElem?_map, he0]; rfl
 have hxok : e0.1.ok pg := h6.fr _ (by rw [← h5]; exact List.mem_map_of_mem (f := fun e : Fe => e.1) (List.mem_of_getElem? he0))
 have hcell := h1.cell ix e0 he0
 have htx := h1.txt e0 (List.mem_of_getElem? he0)
 obtain ⟨⟨pgx, bx, di, ma, rc, ls⟩, vb⟩ := e0
 have k2 := hcell 2 _ rfl
 have c1 := h1.box.cell 1 _ rfl
 have hlg := h1.box.lt
 have hll := h1.ll.2
 have hn64 := h6.n64
 have H0 := Lib.hid h0
 have H1 := Lib.hid h1
 have hb1 : decide ((ix : Int) < 0) = false := by simp
 have hb2 : decide ((ix : Int) < (n : Int)) = true := by simp; omega
 have hb3 : decide (ix < n) = true := by simp; omega
 simp only at hpF hxok htx
 cases di with
 | false =>
  have HPF0 := Lib.hid hpF
  clear h0 h1 h2 h3 h4 h5 h6 h7 h8 h9 hcell htx hxok hF hpF he0
  go_enter Tryz.func109, Tryz.ntmps109
  go_wp2_with fail
  go_ret
  rw [Pq.clean_no (by rw [HPF0.out])]
  exact ⟨rfl, _, H0.out, Foot.same (B := fun _ => False) (GrowX.refl _) (fun _ h => h.elim)⟩
 | true =>
  obtain ⟨hx1, hx2⟩ := hxok
  obtain ⟨q, rfl⟩ := Int.eq_ofNat_of_zero_le (hx2 rfl)
  obtain ⟨hqp, hbx⟩ := hx1 (Int.natCast_nonneg q)
  simp only at hqp hbx htx k2
  have hqpg : q < pg := by omega
  obtain ⟨hdv, hhd⟩ : ∃ x, Value.int .i64 (p.hand : Nat) = x := ⟨_, rfl⟩
  obtain ⟨wrv, hwv⟩ : ∃ x, Value.int .i64 (p.wr : Nat) = x := ⟨_, rfl⟩
  have bg := h1.box
  rw [hhd, hwv] at bg
  have HE := Lib.hid he0
  have HF := Lib.hid hF
  have H3 := Lib.hid h3
  have H4 := Lib.hid h4
  have H5 := Lib.hid h5
  have H6 := Lib.hid h6
  have H7 := Lib.hid h7
  have H8 := Lib.hid h8
  have H9 := Lib.hid h9
  have HT := Lib.hid htx
  have HB := Lib.hid hbx
  have HPF := Lib.hid hpF
  have HHD := Lib.hid hhd
  have HWV := Lib.hid hwv
  have HEN := Lib.hid hF.enter
  have hb0 := h3.bel
  have hbs := hb0.size
  have H2G := Lib.hid h2
  have HLT := Lib.hid (h0.lt hF)
  clear h0 h1 h2 h3 h4 h5 h6 h7 h8 h9 hcell htx hF hpF he0 hx1 hx2 hqp hbx hhd hwv hb0
  obtain ⟨r, hr⟩ : ∃ r, O.step s ls = r := ⟨_, rfl⟩
  obtain ⟨re, rs⟩ := r
  have HR := Lib.hid hr
  clear hr
  go_enter Tryz.func109, Tryz.ntmps109
  go_upto_region 4 with (fail)
  clear c1 k2 hb1 hb2 hb3
  have hB : Below w.heap.size w w := Below.refl _ _
  refine wp_region_partsDC (WCl4 g lb n f ix q fn caps hdv wrv vb ls) 8 [[], [0], [0, 1], [0, 1, 2], [], [4], [4, 5], [4, 5, 6]] [some 19, some 20, some 21, some 22, some 23, some 24, some 25, some 26, some 27, some 6] (by kernel_rfl) (by kernel_rfl) rfl (PCl4 g lb n f ix q fn caps hdv wrv vb ls) (PCl4_stable g lb n f ix q fn caps hdv wrv vb ls ) ?pCl4 ?_
  case pCl4 =>
   intro i hi o ho vs lo hx_ w' hg hp
   match i, hi with
   | 0, _ | 4, _ =>
    obtain rfl := Option.some.inj ho
    clear ho
    simp only [actsD, Act.put, actL]
    have hsz := hg.size
    have hgB : Below w.heap.size w w' := hg.below (fun k hk => ⟨hk, fun o => by rintro ⟨j, _, _, _, hw⟩; exact False.elim hw⟩)
    go_wp2
    exact ⟨_, rfl, GrowC.refl _, rfl⟩
   | 1, _ =>
    obtain rfl := Option.some.inj ho
    clear ho
    simp only [actsD, Act.put, actL]
    obtain ⟨_, _, _, h0⟩ := hp 0 (by simp)
    simp only [PCl4] at h0
    have hsz := hg.size
    have hgB : Below w.heap.size w w' := hg.below (fun k hk => ⟨hk, fun o => by rintro ⟨j, _, _, _, hw⟩; exact False.elim hw⟩)
    rw [h0]
    go_wp2
    exact ⟨_, rfl, GrowC.refl _, rfl⟩
   | 2, _ =>
    obtain rfl := Option.some.inj ho
    clear ho
    simp only [actsD, Act.put, actL]
    obtain ⟨_, _, _, h1⟩ := hp 1 (by simp)
    simp only [PCl4] at h1
    have hsz := hg.size
    have hgB : Below w.heap.size w w' := hg.below (fun k hk => ⟨hk, fun o => by rintro ⟨j, _, _, _, hw⟩; exact False.elim hw⟩)
    rw [h1]
    go_wp2
    exact ⟨_, rfl, GrowC.refl _, rfl⟩
   | 3, _ =>
    obtain rfl := Option.some.inj ho
    clear ho
    simp only [actsD, Act.put, actL]
    obtain ⟨_, _, _, h2⟩ := hp 2 (by simp)
    simp only [PCl4] at h2
    have hsz := hg.size
    have hgB : Below w.heap.size w w' := hg.below (fun k hk => ⟨hk, fun o => by rintro ⟨j, _, _, _, hw⟩; exact False.elim hw⟩)
    rw [h2]
    have e0 := (hg.cell (g) 2 bg.lt (by rintro ⟨j, _, hne, hb, hw⟩; exact False.elim hw)).trans (bg.cell 2 _ rfl)
    go_wp2
    exact ⟨_, rfl, GrowC.refl _, rfl⟩
   | 5, _ =>
    obtain rfl := Option.some.inj ho
    clear ho
    simp only [actsD, Act.put, actL]
    obtain ⟨_, _, _, h4⟩ := hp 4 (by simp)
    simp only [PCl4] at h4
    have hsz := hg.size
    have hgB : Below w.heap.size w w' := hg.below (fun k hk => ⟨hk, fun o => by rintro ⟨j, _, _, _, hw⟩; exact False.elim hw⟩)
    rw [h4]
    go_wp2
    exact ⟨_, rfl, GrowC.refl _, rfl⟩
   | 6, _ =>
    obtain rfl := Option.some.inj ho
    clear ho
    simp only [actsD, Act.put, actL]
    obtain ⟨_, _, _, h5⟩ := hp 5 (by simp)
    simp only [PCl4] at h5
    have hsz := hg.size
    have hgB : Below w.heap.size w w' := hg.below (fun k hk => ⟨hk, fun o => by rintro ⟨j, _, _, _, hw⟩; exact False.elim hw⟩)
    rw [h5]
    go_wp2
    exact ⟨_, rfl, GrowC.refl _, rfl⟩
   | 7, _ =>
    obtain rfl := Option.some.inj ho
    clear ho
    simp only [actsD, Act.put, actL]
    obtain ⟨_, _, _, h6⟩ := hp 6 (by simp)
    simp only [PCl4] at h6
    have hsz := hg.size
    have hgB : Below w.heap.size w w' := hg.below (fun k hk => ⟨hk, fun o => by rintro ⟨j, _, _, _, hw⟩; exact False.elim hw⟩)
    rw [h6]
    have hgx : GrowX (fun _ => False) w w' := GrowX.of_growC hg (fun k o ⟨j, _, _, _, hw⟩ => hw)
    have e9 := (H1.out.grow hgx (fun h => h) (fun h => h) (fun _ _ h => h)).cell ix _ HE.out 5 _ rfl
    go_wp2
    exact ⟨_, rfl, GrowC.refl _, rfl⟩
   | (q + 8), hq => exact absurd hq (by omega)
  intro vS lo hi w4 hg hp hd
  obtain ⟨_, _, _, h0⟩ := hp 0 (by decide)
  obtain ⟨_, _, _, h1⟩ := hp 1 (by decide)
  obtain ⟨_, _, _, h2⟩ := hp 2 (by decide)
  obtain ⟨_, _, _, h3⟩ := hp 3 (by decide)
  obtain ⟨_, _, _, h4⟩ := hp 4 (by decide)
  obtain ⟨_, _, _, h5⟩ := hp 5 (by decide)
  obtain ⟨_, _, _, h6⟩ := hp 6 (by decide)
  obtain ⟨_, _, _, h7⟩ := hp 7 (by decide)
  simp only [PCl4] at h0 h1 h2 h3 h4 h5 h6 h7
  clear hp hd
  have hsz := hg.size
  replace bg := bg.grow hg (by intro i _; rintro ⟨j, _, hw⟩; exact False.elim hw)
  replace hB := hB.trans (hg.below (fun k hk => ⟨by omega, fun o => by rintro ⟨j, _, hw⟩; exact False.elim hw⟩))
  have hr : List.range 8 = [0, 1, 2, 3, 4, 5, 6, 7] := rfl
  rw [hr]
  clear hr
  simp only [List.drop_succ_cons, List.drop_zero, List.drop_nil, actsD, Act.put, actL, h0, h1, h2, h3, h4, h5, h6, h7]
  clear h0 h1 h2 h3 h4 h5 h6 h7
  have hgr4 : GrowX (fun _ => False) w w4 := grow_below hB
  have hB4 : Below W0.heap.size W0 w4 := H3.out.bel.trans (hB.mono hbs)
  have hans := HF.out.ans s S2 w4 ls (HF.out.grow _ _ _ _ _ H4.out hgr4 (fun _ _ h => h) hB4)
  have hent := HEN.out
  rw [HR.out] at hans
  have HANS := Lib.hid hans
  have HGR4 := Lib.hid hgr4
  clear bg hB hg hsz hgr4 hans hB4
  by_cases hre : re = 0
  case neg =>
   have hq1 : (re != 0) = true := by simpa using hre
   have hq2 : decide (re = 0) = false := by simpa using hre
   go_wp2_with fail
   refine HANS.out.mono ?_
   rintro e y2 ⟨S2', rfl, hfi, hft⟩
   have HFT : Hid (Foot S2 S2' w y2) := Lib.hid ((Foot.below HGR4.out).trans hft)
   clear hft
   have hb2' : Below W0.heap.size W0 y2 := HF.out.bel _ _ _ hfi
   have H2 : Hid (PoolAt y2 W0.heap.size g lb n f (.func (.func fn) #[] caps) E p.hand p.wr K) := Lib.hid (H1.out.grow HFT.out.grow (fun hs => H8.out g (.inl rfl) hs) (fun hs => H8.out lb (.inr (.inl rfl)) hs) (fun k hk hs => H8.out k (.inr (.inr hk)) hs))
   have H3y : Hid (DM W0 S1 y2) := Lib.hid (H3.out.grow HFT.out.grow H9.out hb2')
   have H8y : Hid (Disj (own3 g lb K) S2') := Lib.hid (HFT.out.disj H8.out.symm (fun k hk => (HLT.out k (.inl hk)).2)).symm
   have H9y : Hid (Disj S1 S2') := Lib.hid (HFT.out.disj H9.out.symm (fun k hk => (HLT.out k (.inr (.inl hk))).2)).symm
   have HFI := Lib.hid hfi
   clear hfi hb2'
   go_wp2_with fail
   go_ret
   rw [Pq.clean_err HPF.out rfl HR.out hre]
   exact ⟨_, rfl, ⟨lb, E, K, S1, S2', H2.out, H2G.out, H3y.out, HFI.out, H5.out, H6.out, H7.out, H8y.out, H9y.out, rfl⟩, HFT.out.inc (fun k hk => .inr (.inr hk)) (fun k hk => hk.elim (fun h => .inl (.inl h)) (fun h => h.elim (fun h => .inl (.inr (.inl h))) .inr))⟩
  subst hre
  go_wp2_with fail
  refine HANS.out.mono ?_
  rintro e y2 ⟨S2', rfl, hfi, hft⟩
  have HFT : Hid (Foot S2 S2' w y2) := Lib.hid ((Foot.below HGR4.out).trans hft)
  clear hft
  have hb2' : Below W0.heap.size W0 y2 := HF.out.bel _ _ _ hfi
  have H2 : Hid (PoolAt y2 W0.heap.size g lb n f (.func (.func fn) #[] caps) E p.hand p.wr K) := Lib.hid (H1.out.grow HFT.out.grow (fun hs => H8.out g (.inl rfl) hs) (fun hs => H8.out lb (.inr (.inl rfl)) hs) (fun k hk hs => H8.out k (.inr (.inr hk)) hs))
  have H3y : Hid (DM W0 S1 y2) := Lib.hid (H3.out.grow HFT.out.grow H9.out hb2')
  have H8y : Hid (Disj (own3 g lb K) S2') := Lib.hid (HFT.out.disj H8.out.symm (fun k hk => (HLT.out k (.inl hk)).2)).symm
  have H9y : Hid (Disj S1 S2') := Lib.hid (HFT.out.disj H9.out.symm (fun k hk => (HLT.out k (.inr (.inl hk))).2)).symm
  have HFI := Lib.hid hfi
  clear hfi hb2'
  go_upto_region 7 with (fail)
  have bg : Box y2 g [.pointer (some ⟨f, 0, none⟩), .slice (some ⟨lb, 0, none⟩) n n, .func (.func fn) #[] caps, hdv, wrv] := by rw [← HHD.out, ← HWV.out]; exact H2.out.box
  have hB : Below y2.heap.size y2 y2 := Below.refl _ _
  refine wp_region_partsDC (WCl7 g lb n f ix q fn caps hdv wrv vb ls) 12 [[], [0], [0, 1], [0, 1, 2], [], [4], [4, 5], [4, 5, 6], [], [8], [8, 9], [8, 9, 10]] [some 31, some 32, some 33, some 34, some 35, some 36, some 37, some 38, some 39, some 40, some 41, some 42, some 43, some 7] (by kernel_rfl) (by kernel_rfl) rfl (PCl7 g lb n f ix q fn caps hdv wrv vb ls) (PCl7_stable g lb n f ix q fn caps hdv wrv vb ls ) ?pCl7 ?_
  case pCl7 =>
   intro i hi o ho vs lo hx_ w' hg hp
   match i, hi with
   | 0, _ | 4, _ | 8, _ =>
    obtain rfl := Option.some.inj ho
    clear ho
    simp only [actsD, Act.put, actL]
    have hsz := hg.size
    have hgB : Below y2.heap.size y2 w' := hg.below (fun k hk => ⟨hk, fun o => by rintro ⟨j, _, _, _, hw⟩; exact False.elim hw⟩)
    go_wp2
    exact ⟨_, rfl, GrowC.refl _, rfl⟩
   | 1, _ =>
    obtain rfl := Option.some.inj ho
    clear ho
    simp only [actsD, Act.put, actL]
    obtain ⟨_, _, _, h0⟩ := hp 0 (by simp)
    simp only [PCl7] at h0
    have hsz := hg.size
    have hgB : Below y2.heap.size y2 w' := hg.below (fun k hk => ⟨hk, fun o => by rintro ⟨j, _, _, _, hw⟩; exact False.elim hw⟩)
    rw [h0]
    go_wp2
    exact ⟨_, rfl, GrowC.refl _, rfl⟩
   | 2, _ =>
    obtain rfl := Option.some.inj ho
    clear ho
    simp only [actsD, Act.put, actL]
    obtain ⟨_, _, _, h1⟩ := hp 1 (by simp)
    simp only [PCl7] at h1
    have hsz := hg.size
    have hgB : Below y2.heap.size y2 w' := hg.below (fun k hk => ⟨hk, fun o => by rintro ⟨j, _, _, _, hw⟩; exact False.elim hw⟩)
    rw [h1]
    go_wp2
    exact ⟨_, rfl, GrowC.refl _, rfl⟩
   | 3, _ =>
    obtain rfl := Option.some.inj ho
    clear ho
    simp only [actsD, Act.put, actL]
    obtain ⟨_, _, _, h2⟩ := hp 2 (by simp)
    simp only [PCl7] at h2
    have hsz := hg.size
    have hgB : Below y2.heap.size y2 w' := hg.below (fun k hk => ⟨hk, fun o => by rintro ⟨j, _, _, _, hw⟩; exact False.elim hw⟩)
    rw [h2]
    have e0 := (hg.cell (g) 0 bg.lt (by rintro ⟨j, _, hne, hb, hw⟩; exact False.elim hw)).trans (bg.cell 0 _ rfl)
    go_wp2
    exact ⟨_, rfl, GrowC.refl _, rfl⟩
   | 5, _ =>
    obtain rfl := Option.some.inj ho
    clear ho
    simp only [actsD, Act.put, actL]
    obtain ⟨_, _, _, h4⟩ := hp 4 (by simp)
    simp only [PCl7] at h4
    have hsz := hg.size
    have hgB : Below y2.heap.size y2 w' := hg.below (fun k hk => ⟨hk, fun o => by rintro ⟨j, _, _, _, hw⟩; exact False.elim hw⟩)
    rw [h4]
    go_wp2
    exact ⟨_, rfl, GrowC.refl _, rfl⟩
   | 6, _ =>
    obtain rfl := Option.some.inj ho
    clear ho
    simp only [actsD, Act.put, actL]
    obtain ⟨_, _, _, h5⟩ := hp 5 (by simp)
    simp only [PCl7] at h5
    have hsz := hg.size
    have hgB : Below y2.heap.size y2 w' := hg.below (fun k hk => ⟨hk, fun o => by rintro ⟨j, _, _, _, hw⟩; exact False.elim hw⟩)
    rw [h5]
    go_wp2
    exact ⟨_, rfl, GrowC.refl _, rfl⟩
   | 7, _ =>
    obtain rfl := Option.some.inj ho
    clear ho
    simp only [actsD, Act.put, actL]
    obtain ⟨_, _, _, h6⟩ := hp 6 (by simp)
    simp only [PCl7] at h6
    have hsz := hg.size
    have hgB : Below y2.heap.size y2 w' := hg.below (fun k hk => ⟨hk, fun o => by rintro ⟨j, _, _, _, hw⟩; exact False.elim hw⟩)
    rw [h6]
    have hgx : GrowX (fun _ => False) y2 w' := GrowX.of_growC hg (fun k o ⟨j, _, _, _, hw⟩ => hw)
    have e9 := (H2.out.grow hgx (fun h => h) (fun h => h) (fun _ _ h => h)).cell ix _ HE.out 0 _ rfl
    rw [Nat.add_zero] at e9
    go_wp2
    exact ⟨_, rfl, GrowC.refl _, rfl⟩
   | 9, _ =>
    obtain rfl := Option.some.inj ho
    clear ho
    simp only [actsD, Act.put, actL]
    obtain ⟨_, _, _, h8⟩ := hp 8 (by simp)
    simp only [PCl7] at h8
    have hsz := hg.size
    have hgB : Below y2.heap.size y2 w' := hg.below (fun k hk => ⟨hk, fun o => by rintro ⟨j, _, _, _, hw⟩; exact False.elim hw⟩)
    rw [h8]
    go_wp2
    exact ⟨_, rfl, GrowC.refl _, rfl⟩
   | 10, _ =>
    obtain rfl := Option.some.inj ho
    clear ho
    simp only [actsD, Act.put, actL]
    obtain ⟨_, _, _, h9⟩ := hp 9 (by simp)
    simp only [PCl7] at h9
    have hsz := hg.size
    have hgB : Below y2.heap.size y2 w' := hg.below (fun k hk => ⟨hk, fun o => by rintro ⟨j, _, _, _, hw⟩; exact False.elim hw⟩)
    rw [h9]
    go_wp2
    exact ⟨_, rfl, GrowC.refl _, rfl⟩
   | 11, _ =>
    obtain rfl := Option.some.inj ho
    clear ho
    simp only [actsD, Act.put, actL]
    obtain ⟨_, _, _, h10⟩ := hp 10 (by simp)
    simp only [PCl7] at h10
    have hsz := hg.size
    have hgB : Below y2.heap.size y2 w' := hg.below (fun k hk => ⟨hk, fun o => by rintro ⟨j, _, _, _, hw⟩; exact False.elim hw⟩)
    rw [h10]
    have hgx : GrowX (fun _ => False) y2 w' := GrowX.of_growC hg (fun k o ⟨j, _, _, _, hw⟩ => hw)
    have e9 := (H2.out.grow hgx (fun h => h) (fun h => h) (fun _ _ h => h)).cell ix _ HE.out 1 _ rfl
    go_wp2
    exact ⟨_, rfl, GrowC.refl _, rfl⟩
   | (q + 12), hq => exact absurd hq (by omega)
  intro vS lo hi w6 hg hp hd
  obtain ⟨_, _, _, h0⟩ := hp 0 (by decide)
  obtain ⟨_, _, _, h1⟩ := hp 1 (by decide)
  obtain ⟨_, _, _, h2⟩ := hp 2 (by decide)
  obtain ⟨_, _, _, h3⟩ := hp 3 (by decide)
  obtain ⟨_, _, _, h4⟩ := hp 4 (by decide)
  obtain ⟨_, _, _, h5⟩ := hp 5 (by decide)
  obtain ⟨_, _, _, h6⟩ := hp 6 (by decide)
  obtain ⟨_, _, _, h7⟩ := hp 7 (by decide)
  obtain ⟨_, _, _, h8⟩ := hp 8 (by decide)
  obtain ⟨_, _, _, h9⟩ := hp 9 (by decide)
  obtain ⟨_, _, _, h10⟩ := hp 10 (by decide)
  obtain ⟨_, _, _, h11⟩ := hp 11 (by decide)
  simp only [PCl7] at h0 h1 h2 h3 h4 h5 h6 h7 h8 h9 h10 h11
  clear hp hd
  have hsz := hg.size
  replace bg := bg.grow hg (by intro i _; rintro ⟨j, _, hw⟩; exact False.elim hw)
  replace hB := hB.trans (hg.below (fun k hk => ⟨by omega, fun o => by rintro ⟨j, _, hw⟩; exact False.elim hw⟩))
  have hr : List.range 12 = [0, 1, 2, 3, 4, 5, 6, 7, 8, 9, 10, 11] := rfl
  rw [hr]
  clear hr
  simp only [List.drop_succ_cons, List.drop_zero, List.drop_nil, actsD, Act.put, actL, h0, h1, h2, h3, h4, h5, h6, h7, h8, h9, h10, h11]
  clear h0 h1 h2 h3 h4 h5 h6 h7 h8 h9 h10 h11
  have hgr6 : GrowX (fun _ => False) y2 w6 := grow_below hB
  have HGR6 := Lib.hid hgr6
  have htx6 : SecAt w6 K bx vb := (H2.out.txt _ (List.mem_of_getElem? HE.out)).grow hgr6 (fun _ _ h => h)
  have hrd : Reads 1 w6 vb 512 (bx.map B) := by have h1 := htx6.1; rw [HB.out] at h1; exact h1
  have hown := htx6.2
  have hB6 : Below W0.heap.size W0 w6 := H3y.out.bel.trans (hB.mono H3y.out.bel.size)
  have HFI6 : Hid (Iw rs S2' w6) := Lib.hid (HF.out.grow _ _ _ _ _ HFI.out hgr6 (fun _ _ h => h) hB6)
  have hwr := HF.out.wrt rs S2' w6 q bx vb HFI6.out hqpg HB.out hrd (fun k e hs => H8y.out k (.inr (.inr (hown k e))) hs)
  have HWR := Lib.hid hwr
  clear bg hB hg hsz hgr6 hwr htx6 hown hrd hB6
  go_wp2_with fail
  refine HWR.out.mono ?_
  rintro e y3 ⟨S2'', rfl, hfv, hft⟩
  have HW : Hid (Foot S2' S2'' y2 y3) := Lib.hid ((Foot.below HGR6.out).trans hft)
  have hsz2 : w.heap.size ≤ y2.heap.size := HFT.out.grow.size
  have hb3' : Below W0.heap.size W0 y3 := HF.out.bel _ _ _ hfv
  have H3z : Hid (DM W0 S1 y3) := Lib.hid ⟨hb3', H3y.out.2⟩
  have H1z : Hid (PoolAt y3 W0.heap.size g lb n f (.func (.func fn) #[] caps) E p.hand p.wr K) := Lib.hid (H2.out.grow HW.out.grow (fun hs => H8y.out g (.inl rfl) hs) (fun hs => H8y.out lb (.inr (.inl rfl)) hs) (fun k hk hs => H8y.out k (.inr (.inr hk)) hs))
  have HFIz := Lib.hid hfv
  have H8z : Hid (Disj (own3 g lb K) S2'') := Lib.hid (HW.out.disj H8y.out.symm (fun k hk => by have := (HLT.out k (.inl hk)).2; omega)).symm
  have H9z : Hid (Disj S1 S2'') := Lib.hid (fun k hk _ => by have e := H3y.out.2; subst e; exact hk)
  have g4 := H1z.out.box.cell 4 _ rfl
  have gfz := H1z.out.box.free
  have glt := H1z.out.box.lt
  have k2 := H1z.out.cell ix _ HE.out 2 _ rfl
  have lfz := H1z.out.fzl
  have llt := H1z.out.ll.2
  have hgl := H1z.out.gl
  have hwp : p.wr + 1 ≤ 1000000000 := by omega
  clear hfv hft hb3'
  simp only at k2
  go_wp2_with fail
  go_ret
  rw [Pq.clean_ok HPF.out rfl HR.out]
  obtain ⟨a1, a2⟩ := H1z.out.setWr (p.wr + 1)
  obtain ⟨b1, b2⟩ := a1.setF ix _ (⟨q, bx, false, ma, rc, ls⟩, vb) HE.out 2 (by omega) (.bool false) rfl (show SecAt _ K bx vb from a1.txt (⟨(q : Int), bx, true, ma, rc, ls⟩, vb) (List.mem_of_getElem? HE.out))
  have hgg : GrowX (own3 g lb K) y3 ((y3.setCell ⟨g, 4, none⟩ (.int .i64 ((p.wr + 1 : Nat) : Int))).setCell ⟨lb, ix * 6 + 2, none⟩ (.bool false)) := (a2.mono (fun k e => .inl e)).step b2 (fun k _ e => .inr (.inl e))
  have hbz := H3z.out.bel.trans (hgg.below (fun k hk => ⟨Nat.lt_of_lt_of_le hk H3z.out.bel.size, fun e => by have := (HLT.out k (.inl e)).1; omega⟩))
  refine ⟨_, rfl, ⟨lb, _, K, S1, S2'', b1, H2G.out, H3z.out.grow hgg H7.out.symm hbz, HF.out.grow _ _ _ _ _ HFIz.out hgg H8z.out.symm hbz, ?_, ?_, H7.out, H8z.out, H9z.out, rfl⟩, ?_⟩
  ·rw [map_set_fst, H5.out]
  ·exact ⟨by rw [List.length_set]; exact H6.out.len, H6.out.n1, H6.out.n64, H6.out.hand, H6.out.set ix _ ⟨fun _ => ⟨by show (q : Int) < (pg : Int); omega, HB.out⟩, fun h => by cases h⟩, hwp⟩
  ·refine ((HFT.out.inc (S := fun k => own3 g lb K k ∨ S1 k ∨ S2 k) (S' := fun k => own3 g lb K k ∨ S1 k ∨ S2' k) (fun k hk => .inr (.inr hk)) (fun k hk => hk.elim (fun h => .inl (.inl h)) (fun h => h.elim (fun h => .inl (.inr (.inl h))) .inr))).trans (HW.out.inc (S' := fun k => own3 g lb K k ∨ S1 k ∨ S2'' k) (fun k hk => .inr (.inr hk)) (fun k hk => hk.elim (fun h => .inl (.inl h)) (fun h => h.elim (fun h => .inl (.inr (.inl h))) .inr)))).trans (Foot.same hgg (fun k hk => .inl hk))
end
end
section
open Go.RowKit
theorem least {P : Nat → Prop} (h : ∃ k, P k) : ∃ k, P k ∧ ∀ j, P j → k ≤ j := by
 obtain ⟨k, hk⟩ := h
 induction k using Nat.strongRecOn with
 | _ k ih =>
  by_cases hj : ∃ j, j < k ∧ P j
  ·obtain ⟨j, h1, h2⟩ := hj
   exact ih j h1 h2
  ·exact ⟨k, hk, fun j hp => by apply Classical.byContradiction; intro hc; exact hj ⟨j, by omega, hp⟩⟩
open Classical in
theorem wp_scope_down {P : Program} {a : Act} {w : World} {Q : Exit → Act → World → Prop} {r1 r2 R : Code} (l : Nat) (J : Nat → Act → World → Prop)
  (hf : findLabel (r1.seq (r2.seq ((Code.label l).seq R))) l = some (Code.skip.seq R))
  (first : r1.wp P (Exit.then (fun a w => r2.wp P (Exit.then (fun a w => ∃ k, J k a w) (fun _ _ _ => False)) a w) (fun _ _ _ => False)) a w)
  (pass : ∀ k a w, J k a w → R.wp P (Exit.jump l (fun a' w' => ∃ k', k' < k ∧ J k' a' w') Q) a w) :
  (Code.scope (r1.seq (r2.seq ((Code.label l).seq R)))).wp P Q a w := by
 refine wp_scope_loop l (fun a w => ∃ k, J k a w) (fun a w => if h : ∃ k, J k a w then (least h).choose else 0) hf first ?_
 intro a w hJ
 obtain ⟨h1, h2⟩ := (least hJ).choose_spec
 refine wp_mono (pass _ a w h1) ?_
 intro e a' w' h
 cases e with
 | goto l' =>
  obtain ⟨e1, k', hk', hj'⟩ := h
  refine ⟨e1, ⟨k', hj'⟩, ?_⟩
  have hJ' : ∃ k, J k a' w' := ⟨k', hj'⟩
  rw [dif_pos hJ', dif_pos hJ]
  exact Nat.lt_of_le_of_lt ((least hJ').choose_spec.2 k' hj') hk'
 | _ => exact h
def marks (F : List Fm) : Nat := (F.filter (·.marked)).length
theorem marks_set (F : List Fm) (i : Nat) (x : Fm) (h : F[i]? = some x) (hm : x.marked = true) : marks (F.set i { x with marked := false }) + 1 = marks F := by
 induction F generalizing i with
 | nil => simp at h
 | cons y r ih =>
  cases i with
  | zero =>
   simp at h
   subst h
   simp only [marks, List.set_cons_zero, List.filter_cons, hm]
   simp
  | succ i =>
   have := ih i (by simpa using h)
   simp only [List.set_cons_succ, marks, List.filter_cons] at *
   cases hy : y.marked <;> simp [hy] <;> omega
theorem marks_le (F : List Fm) : marks F ≤ F.length := List.length_filter_le _ _
def FreeJ (W0 : World) (g lb n f pg fn : Nat) (caps : Array Value) (K : Nat → Prop) (p : Pq) (w : World) (k : Nat) (a : Act) (wr : World) : Prop :=
 ∃ (E : List Fe) (hd m : Nat) (u4 u5 u6 u7 u8 u9 u10 u11 u12 u13 u14 u15 u16 u17 u18 u19 u20 u21 u22 u23 u24 u25 u26 u27 u28 u29 u30 u31 u32 u33 u34 u35 u36 u37 u38 u39 u40 u41 u42 u43 u44 u45 u46 u47 u48 u49 u50 u51 u52 u53 u54 u55 u56 u57 u58 u59 u60 : Value), a = { tmps := #[.pointer (some ⟨g, 0, none⟩), undef, .int .i64 0, .int .i64 0, u4, u5, u6, u7, u8, u9, u10, u11, u12, u13, u14, u15, u16, u17, u18, u19, u20, u21, u22, u23, u24, u25, u26, u27, u28, u29, u30, u31, u32, u33, u34, u35, u36, u37, u38, u39, u40, u41, u42, u43, u44, u45, u46, u47, u48, u49, u50, u51, u52, u53, u54, u55, u56, u57, u58, u59, u60], defers := [] } ∧ k = marks (E.map (·.1)) ∧ k < m ∧ p.swept = sweep n m (E.map (·.1)) hd ∧ hd < n ∧ (∀ x ∈ E.map (·.1), Fm.ok pg x) ∧ PoolAt wr W0.heap.size g lb n f (.func (.func fn) #[] caps) E hd p.wr K ∧ GrowX (own3 g lb K) w wr
def WFr5 (g lb n f hd fn : Nat) (caps : Array Value) (wrv : Value) (j b o : Nat) : Prop := False
def PFr5 (g lb n f hd fn : Nat) (caps : Array Value) (wrv : Value) (i : Nat) (v : Value) (lo hi : Nat) (w : World) : Prop :=
 match i with
 | 0 => v = .pointer (some ⟨g, 0, none⟩)
 | 1 => v = .pointer (some ⟨g, 0, none⟩)
 | 2 => v = .pointer (some ⟨g, 0, none⟩)
 | 3 => v = .pointer (some ⟨g, 3, none⟩)
 | 4 => v = .int .i64 ((hd : Nat) : Int)
 | 5 => v = .int .i64 ((hd + 1 : Nat) : Int)
 | 6 => v = .pointer (some ⟨g, 0, none⟩)
 | 7 => v = .pointer (some ⟨g, 0, none⟩)
 | 8 => v = .pointer (some ⟨g, 1, none⟩)
 | 9 => v = .slice (some ⟨lb, 0, none⟩) n n
 | 10 => v = .int .i64 ((n : Nat) : Int)
 | 11 => v = .int .i64 (((hd + 1) % n : Nat) : Int)
 | 12 => v = .pointer (some ⟨g, 0, none⟩)
 | 13 => v = .pointer (some ⟨g, 3, none⟩)
 | _ => True
theorem PFr5_stable (g lb n f hd fn : Nat) (caps : Array Value) (wrv : Value)  : ∀ i j, i < 14 → j < 14 → j ≠ i → j ∉ ([[], [], [1], [1, 2], [1, 2, 3], [1, 2, 3, 4], [], [6], [6, 7], [6, 7, 8], [6, 7, 8, 9], [1, 2, 3, 4, 5, 6, 7, 8, 9, 10], [0, 1, 2, 3, 4, 5, 6, 7, 8, 9, 10, 11], [0, 1, 2, 3, 4, 5, 6, 7, 8, 9, 10, 11, 12]] : List (List Nat)).getD i [] → ∀ v lo hi w w', PFr5 g lb n f hd fn caps wrv i v lo hi w → GrowC (WFr5 g lb n f hd fn caps wrv j) w w' → PFr5 g lb n f hd fn caps wrv i v lo hi w' := by
 intro i j hi hj hne hbs v lo hj2 w w' h hg
 match i, hi with
 | 0, _ | 1, _ | 2, _ | 3, _ | 4, _ | 5, _ | 6, _ | 7, _ | 8, _ | 9, _ | 10, _ | 11, _ | 12, _ | 13, _ =>
  simp only [PFr5] at h ⊢
  exact h
 | (q + 14), hq => exact absurd hq (by omega)
section
variable {W0 : World} {g n f pg : Nat} {T : Type} {Iw : T → (Nat → Prop) → World → Prop} {p : Pq} {s : T} {S : Nat → Prop} {w : World} {fn : Nat} {caps : Array Value} {O : IoF T}
set_option maxRecDepth 100000 in
set_option maxHeartbeats 3200000 in
theorem free_pv (hF : IoOf W0 f pg fn caps Iw O) (h : PV W0 g n f pg (.func (.func fn) #[] caps) Iw p s S w) (hwr : p.wr + 1 ≤ 1000000000) :
  Calls Tryz.prog 106 #[.pointer (some ⟨g, 0, none⟩)] w fun e w' => ∃ S', e = .returned (.tuple #[.int .i64 ((p.free O s).2.1 : Nat), .int .i64 (p.free O s).1]) ∧ PV W0 g n f pg (.func (.func fn) #[] caps) Iw (p.free O s).2.2.1 (p.free O s).2.2.2 S' w' ∧ Foot S S' w w' := by
 have h0 := h
 obtain ⟨lb, E, K, S1, S2, h1, h2, h3, h4, h5, h6, h7, h8, h9, rfl⟩ := h
 have eg : ∀ args w, (callFunc 134 args).run Tryz.prog w = .ok (.enter 134 args) w := enters_of Tryz.func134 (by kernel_rfl) rfl
 have hcall := idxF_any E n lb 134 #[] (fun e => isE e.1) (fun W => True) eg (fun W x _ => eclos_any x W) (fun _ _ _ _ => trivial) h1.len (by have := h6.n64; omega) (by have := h6.n1; omega) w trivial (Reads.of_own h1.row)
 rw [atI_map, h5] at hcall
 have c1 := h1.box.cell 1 _ rfl
 have hlg := h1.box.lt
 cases hfl : freeL p.F with
 | some i =>
  rw [show p.F.findIdx? isE = some i from hfl] at hcall
  have HC := Lib.hid hcall
  have H0 := Lib.hid h0
  have HF := Lib.hid hF
  have HFL : Hid (p.free O s = (0, i, p, s)) := Lib.hid (by unfold Pq.free; rw [hfl])
  have hb : decide ((i : Int) ≥ 0) = true := by simp
  clear h0 h1 h2 h3 h4 h5 h6 h7 h8 h9 hcall hF hfl eg
  simp only [atI] at HC
  go_enter Tryz.func106, Tryz.ntmps106
  go_wp2_with fail
  refine wp_scope_fwd 0 rfl ?_
  go_wp2_with fail
  refine HC.out.mono ?_
  rintro e w2 ⟨rfl, hbl⟩
  have HB := Lib.hid hbl
  clear hbl
  go_wp2_with fail
  simp only [Exit.jump]
  go_ret2
  rw [HFL.out]
  exact ⟨_, rfl, H0.out.below HF.out HB.out, Foot.same (B := fun _ => False) (grow_below HB.out) (fun _ h => h.elim)⟩
 | none =>
  rw [show p.F.findIdx? isE = none from hfl] at hcall
  have HC := Lib.hid hcall
  have H0 := Lib.hid h0
  have HF := Lib.hid hF
  have H1 := Lib.hid h1
  have H2G := Lib.hid h2
  have H3 := Lib.hid h3
  have H4 := Lib.hid h4
  have H5 := Lib.hid h5
  have H6 := Lib.hid h6
  have H7 := Lib.hid h7
  have H8 := Lib.hid h8
  have H9 := Lib.hid h9
  have HLT := Lib.hid (h0.lt hF)
  have HFL : Hid (p.free O s = Pq.freed p.swept.2.2 (Pq.clean O { p with F := p.swept.1, hand := p.swept.2.1 } s p.swept.2.2)) := Lib.hid (by unfold Pq.free; rw [hfl])
  have hn1 := h6.n1
  have hn64 := h6.n64
  clear h0 h1 h2 h3 h4 h5 h6 h7 h8 h9 hcall hF hfl eg
  simp only [atI] at HC
  go_enter Tryz.func106, Tryz.ntmps106
  go_wp2_with fail
  refine wp_scope_down 0 (FreeJ W0 g lb n f pg fn caps K p w) rfl ?_ ?_
  ·go_wp2_with fail
   refine HC.out.mono ?_
   rintro e w2 ⟨rfl, hbl⟩
   have HB := Lib.hid hbl
   clear hbl
   go_wp2_with fail
   refine ⟨_, E, p.hand, p.F.length + 1, _, _, _, _, _, _, _, _, _, _, _, _, _, _, _, _, _, _, _, _, _, _, _, _, _, _, _, _, _, _, _, _, _, _, _, _, _, _, _, _, _, _, _, _, _, _, _, _, _, _, _, _, _, _, _, _, _, rfl, rfl, ?_, ?_, H6.out.hand, ?_, H1.out.grow (X := fun _ => False) (grow_below HB.out) (fun h => h) (fun h => h) (fun _ _ h => h), (grow_below HB.out)⟩
   ·rw [H5.out]; have := marks_le p.F; omega
   ·rw [H5.out, Pq.swept, H6.out.len]
   ·rw [H5.out]; exact H6.out.fr
  rintro k a wr ⟨E, hd, m, u4, u5, u6, u7, u8, u9, u10, u11, u12, u13, u14, u15, u16, u17, u18, u19, u20, u21, u22, u23, u24, u25, u26, u27, u28, u29, u30, u31, u32, u33, u34, u35, u36, u37, u38, u39, u40, u41, u42, u43, u44, u45, u46, u47, u48, u49, u50, u51, u52, u53, u54, u55, u56, u57, u58, u59, u60, rfl, hk, hm, hsw, hdn, hokx, hat, hgw⟩
  subst hk
  have hen := hat.len
  have hiE : hd < E.length := by omega
  obtain ⟨e0, he0⟩ : ∃ e, E[hd]? = some e := ⟨_, List.getElem?_eq_getElem hiE⟩
  have hxF : (E.map (·.1))[hd]? = some e0.1 := by rw [List.getElem?_map, he0]; rfl
  have hcell := hat.cell hd e0 he0
  have htx := hat.txt e0 (List.mem_of_getElem? he0)
  obtain ⟨⟨pgx, bx, di, ma, rc, ls⟩, vb⟩ := e0
  have k3 := hcell 3 _ rfl
  have bg := hat.box
  have hll := hat.ll.2
  have hlr := bg.lt
  have lfz := hat.fzl
  have g3 := bg.cell 3 _ rfl
  have g1 := bg.cell 1 _ rfl
  have HAT := Lib.hid hat
  have HGW := Lib.hid hgw
  have HSW := Lib.hid hsw
  have HOK := Lib.hid hokx
  have HM := Lib.hid hm
  have HE := Lib.hid he0
  have HXF := Lib.hid hxF
  have HTX := Lib.hid htx
  have HDN := Lib.hid hdn
  obtain ⟨wrv, hwv⟩ : ∃ x, Value.int .i64 (p.wr : Nat) = x := ⟨_, rfl⟩
  rw [hwv] at bg
  have HWV := Lib.hid hwv
  simp only at k3
  have hd64 : hd < 64 := by omega
  clear hat hgw hsw hokx hm he0 hxF htx hcell hdn hwv
  go_upto_region 5 with (fail)
  clear g3 g1
  have hB : Below wr.heap.size wr wr := Below.refl _ _
  refine wp_region_partsDC (WFr5 g lb n f hd fn caps wrv) 14 [[], [], [1], [1, 2], [1, 2, 3], [1, 2, 3, 4], [], [6], [6, 7], [6, 7, 8], [6, 7, 8, 9], [1, 2, 3, 4, 5, 6, 7, 8, 9, 10], [0, 1, 2, 3, 4, 5, 6, 7, 8, 9, 10, 11], [0, 1, 2, 3, 4, 5, 6, 7, 8, 9, 10, 11, 12]] [some 18, some 19, some 20, some 21, some 22, some 23, some 24, some 25, some 26, some 27, some 28, some 29, some 30, some 31, none] (by kernel_rfl) (by kernel_rfl) rfl (PFr5 g lb n f hd fn caps wrv) (PFr5_stable g lb n f hd fn caps wrv ) ?pFr5 ?_
  case pFr5 =>
   intro i hi o ho vs lo hx_ w' hg hp
   match i, hi with
   | 0, _ | 1, _ | 6, _ =>
    obtain rfl := Option.some.inj ho
    clear ho
    simp only [actsD, Act.put, actL]
    have hsz := hg.size
    have hgB : Below wr.heap.size wr w' := hg.below (fun k hk => ⟨hk, fun o => by rintro ⟨j, _, _, _, hw⟩; exact False.elim hw⟩)
    go_wp2
    exact ⟨_, rfl, GrowC.refl _, rfl⟩
   | 2, _ =>
    obtain rfl := Option.some.inj ho
    clear ho
    simp only [actsD, Act.put, actL]
    obtain ⟨_, _, _, h1⟩ := hp 1 (by simp)
    simp only [PFr5] at h1
    have hsz := hg.size
    have hgB : Below wr.heap.size wr w' := hg.below (fun k hk => ⟨hk, fun o => by rintro ⟨j, _, _, _, hw⟩; exact False.elim hw⟩)
    rw [h1]
    go_wp2
    exact ⟨_, rfl, GrowC.refl _, rfl⟩
   | 3, _ =>
    obtain rfl := Option.some.inj ho
    clear ho
    simp only [actsD, Act.put, actL]
    obtain ⟨_, _, _, h2⟩ := hp 2 (by simp)
    simp only [PFr5] at h2
    have hsz := hg.size
    have hgB : Below wr.heap.size wr w' := hg.below (fun k hk => ⟨hk, fun o => by rintro ⟨j, _, _, _, hw⟩; exact False.elim hw⟩)
    rw [h2]
    go_wp2
    exact ⟨_, rfl, GrowC.refl _, rfl⟩
   | 4, _ =>
    obtain rfl := Option.some.inj ho
    clear ho
    simp only [actsD, Act.put, actL]
    obtain ⟨_, _, _, h3⟩ := hp 3 (by simp)
    simp only [PFr5] at h3
    have hsz := hg.size
    have hgB : Below wr.heap.size wr w' := hg.below (fun k hk => ⟨hk, fun o => by rintro ⟨j, _, _, _, hw⟩; exact False.elim hw⟩)
    rw [h3]
    have e0 := (hg.cell (g) 3 bg.lt (by rintro ⟨j, _, hne, hb, hw⟩; exact False.elim hw)).trans (bg.cell 3 _ rfl)
    go_wp2
    exact ⟨_, rfl, GrowC.refl _, rfl⟩
   | 5, _ =>
    obtain rfl := Option.some.inj ho
    clear ho
    simp only [actsD, Act.put, actL]
    obtain ⟨_, _, _, h4⟩ := hp 4 (by simp)
    simp only [PFr5] at h4
    have hsz := hg.size
    have hgB : Below wr.heap.size wr w' := hg.below (fun k hk => ⟨hk, fun o => by rintro ⟨j, _, _, _, hw⟩; exact False.elim hw⟩)
    rw [h4]
    go_wp2
    refine ⟨_, rfl, GrowC.refl _, ?_⟩
    simp only [PFr5]
    congr 1
   | 7, _ =>
    obtain rfl := Option.some.inj ho
    clear ho
    simp only [actsD, Act.put, actL]
    obtain ⟨_, _, _, h6⟩ := hp 6 (by simp)
    simp only [PFr5] at h6
    have hsz := hg.size
    have hgB : Below wr.heap.size wr w' := hg.below (fun k hk => ⟨hk, fun o => by rintro ⟨j, _, _, _, hw⟩; exact False.elim hw⟩)
    rw [h6]
    go_wp2
    exact ⟨_, rfl, GrowC.refl _, rfl⟩
   | 8, _ =>
    obtain rfl := Option.some.inj ho
    clear ho
    simp only [actsD, Act.put, actL]
    obtain ⟨_, _, _, h7⟩ := hp 7 (by simp)
    simp only [PFr5] at h7
    have hsz := hg.size
    have hgB : Below wr.heap.size wr w' := hg.below (fun k hk => ⟨hk, fun o => by rintro ⟨j, _, _, _, hw⟩; exact False.elim hw⟩)
    rw [h7]
    go_wp2
    exact ⟨_, rfl, GrowC.refl _, rfl⟩
   | 9, _ =>
    obtain rfl := Option.some.inj ho
    clear ho
    simp only [actsD, Act.put, actL]
    obtain ⟨_, _, _, h8⟩ := hp 8 (by simp)
    simp only [PFr5] at h8
    have hsz := hg.size
    have hgB : Below wr.heap.size wr w' := hg.below (fun k hk => ⟨hk, fun o => by rintro ⟨j, _, _, _, hw⟩; exact False.elim hw⟩)
    rw [h8]
    have e0 := (hg.cell (g) 1 bg.lt (by rintro ⟨j, _, hne, hb, hw⟩; exact False.elim hw)).trans (bg.cell 1 _ rfl)
    go_wp2
    exact ⟨_, rfl, GrowC.refl _, rfl⟩
   | 10, _ =>
    obtain rfl := Option.some.inj ho
    clear ho
    simp only [actsD, Act.put, actL]
    obtain ⟨_, _, _, h9⟩ := hp 9 (by simp)
    simp only [PFr5] at h9
    have hsz := hg.size
    have hgB : Below wr.heap.size wr w' := hg.below (fun k hk => ⟨hk, fun o => by rintro ⟨j, _, _, _, hw⟩; exact False.elim hw⟩)
    rw [h9]
    go_wp2
    exact ⟨_, rfl, GrowC.refl _, rfl⟩
   | 11, _ =>
    obtain rfl := Option.some.inj ho
    clear ho
    simp only [actsD, Act.put, actL]
    obtain ⟨_, _, _, h5⟩ := hp 5 (by simp)
    simp only [PFr5] at h5
    obtain ⟨_, _, _, h10⟩ := hp 10 (by simp)
    simp only [PFr5] at h10
    have hsz := hg.size
    have hgB : Below wr.heap.size wr w' := hg.below (fun k hk => ⟨hk, fun o => by rintro ⟨j, _, _, _, hw⟩; exact False.elim hw⟩)
    rw [h5, h10]
    have hn0 : ¬ (n : Int) = 0 := by omega
    have hn1 : decide ((n : Int) = 0) = false := by simpa using hn0
    go_wp2
    refine ⟨_, rfl, GrowC.refl _, ?_⟩
    simp only [PFr5]
    congr 1
   | 12, _ =>
    obtain rfl := Option.some.inj ho
    clear ho
    simp only [actsD, Act.put, actL]
    obtain ⟨_, _, _, h0⟩ := hp 0 (by simp)
    simp only [PFr5] at h0
    have hsz := hg.size
    have hgB : Below wr.heap.size wr w' := hg.below (fun k hk => ⟨hk, fun o => by rintro ⟨j, _, _, _, hw⟩; exact False.elim hw⟩)
    rw [h0]
    go_wp2
    exact ⟨_, rfl, GrowC.refl _, rfl⟩
   | 13, _ =>
    obtain rfl := Option.some.inj ho
    clear ho
    simp only [actsD, Act.put, actL]
    obtain ⟨_, _, _, h12⟩ := hp 12 (by simp)
    simp only [PFr5] at h12
    have hsz := hg.size
    have hgB : Below wr.heap.size wr w' := hg.below (fun k hk => ⟨hk, fun o => by rintro ⟨j, _, _, _, hw⟩; exact False.elim hw⟩)
    rw [h12]
    go_wp2
    exact ⟨_, rfl, GrowC.refl _, rfl⟩
   | (q + 14), hq => exact absurd hq (by omega)
  intro vS lo hi w5 hg hp hd
  obtain ⟨_, _, _, h0⟩ := hp 0 (by decide)
  obtain ⟨_, _, _, h1⟩ := hp 1 (by decide)
  obtain ⟨_, _, _, h2⟩ := hp 2 (by decide)
  obtain ⟨_, _, _, h3⟩ := hp 3 (by decide)
  obtain ⟨_, _, _, h4⟩ := hp 4 (by decide)
  obtain ⟨_, _, _, h5⟩ := hp 5 (by decide)
  obtain ⟨_, _, _, h6⟩ := hp 6 (by decide)
  obtain ⟨_, _, _, h7⟩ := hp 7 (by decide)
  obtain ⟨_, _, _, h8⟩ := hp 8 (by decide)
  obtain ⟨_, _, _, h9⟩ := hp 9 (by decide)
  obtain ⟨_, _, _, h10⟩ := hp 10 (by decide)
  obtain ⟨_, _, _, h11⟩ := hp 11 (by decide)
  obtain ⟨_, _, _, h12⟩ := hp 12 (by decide)
  obtain ⟨_, _, _, h13⟩ := hp 13 (by decide)
  simp only [PFr5] at h0 h1 h2 h3 h4 h5 h6 h7 h8 h9 h10 h11 h12 h13
  clear hp hd
  have hsz := hg.size
  replace bg := bg.grow hg (by intro i _; rintro ⟨j, _, hw⟩; exact False.elim hw)
  replace hB := hB.trans (hg.below (fun k hk => ⟨by omega, fun o => by rintro ⟨j, _, hw⟩; exact False.elim hw⟩))
  have hr : List.range 14 = [0, 1, 2, 3, 4, 5, 6, 7, 8, 9, 10, 11, 12, 13] := rfl
  rw [hr]
  clear hr
  simp only [List.drop_succ_cons, List.drop_zero, List.drop_nil, actsD, Act.put, actL, h0, h1, h2, h3, h4, h5, h6, h7, h8, h9, h10, h11, h12, h13]
  clear h0 h1 h2 h3 h4 h5 h6 h7 h8 h9 h10 h11 h12 h13
  have hgr5 : GrowX (fun _ => False) wr w5 := grow_below hB
  have HAT5 : Hid (PoolAt w5 W0.heap.size g lb n f (.func (.func fn) #[] caps) E hd p.wr K) := Lib.hid (HAT.out.grow hgr5 (fun h => h) (fun h => h) (fun _ _ h => h))
  have HG5 : Hid (GrowX (own3 g lb K) w w5) := Lib.hid (HGW.out.step hgr5 (fun _ _ h => h.elim))
  obtain ⟨hd', hhd'⟩ : ∃ x, (hd + 1) % n = x := ⟨_, rfl⟩
  have hd'n : hd' < n := by rw [← hhd']; exact Nat.mod_lt _ (by omega)
  rw [hhd']
  have HHD' := Lib.hid hhd'
  obtain ⟨a1, a2⟩ := HAT5.out.setHand hd'
  have HA1 := Lib.hid a1
  have HG6 : Hid (GrowX (own3 g lb K) w (w5.setCell ⟨g, 3, none⟩ (.int .i64 (hd' : Nat)))) := Lib.hid (HG5.out.step a2 (fun k _ e => .inl e))
  have HTX5 : Hid (SecAt (w5.setCell ⟨g, 3, none⟩ (.int .i64 (hd' : Nat))) K bx vb) := Lib.hid (a1.txt _ (List.mem_of_getElem? HE.out))
  have g1 := HAT5.out.box.cell 1 _ rfl
  have g3 := HAT5.out.box.cell 3 _ rfl
  have gfz := HAT5.out.box.free
  have glt := HAT5.out.box.lt
  have k3 := HAT5.out.cell hd _ HE.out 3 _ rfl
  have lfz := HAT5.out.fzl
  have llt := HAT5.out.ll.2
  have hgl := HAT5.out.gl
  simp only at k3
  clear hgr5 hB bg hg hsz hhd' a1 a2
  cases ma with
  | true =>
   go_wp2_with fail
   go_step3
   refine ⟨rfl, ?_⟩
   obtain ⟨b1, b2⟩ := HA1.out.setF hd _ (⟨pgx, bx, di, false, rc, ls⟩, vb) HE.out 3 (by omega) (.bool false) rfl HTX5.out
   have hmk := marks_set _ hd _ HXF.out rfl
   have hmE : (E.set hd (⟨pgx, bx, di, false, rc, ls⟩, vb)).map (·.1) = (E.map (·.1)).set hd ⟨pgx, bx, di, false, rc, ls⟩ := map_set_fst _ _ _ _
   obtain ⟨m', hm'⟩ : ∃ m', m = m' + 1 := ⟨m - 1, by have := HM.out; omega⟩
   refine ⟨_, ?_, ⟨_, hd', m', _, _, _, _, _, _, _, _, _, _, _, _, _, _, _, _, _, _, _, _, _, _, _, _, _, _, _, _, _, _, _, _, _, _, _, _, _, _, _, _, _, _, _, _, _, _, _, _, _, _, _, _, _, _, _, _, _, rfl, rfl, ?_, ?_, hd'n, ?_, b1, HG6.out.step b2 (fun k _ e => .inr (.inl e))⟩⟩
   ·rw [hmE]; simp only at hmk; omega
   ·rw [hmE]; simp only at hmk; have := HM.out; omega
   ·rw [HSW.out, hm', sweep, List.getD_eq_getElem?_getD, HXF.out, hmE]
    simp only [Option.getD_some, if_true, HHD'.out]
   ·rw [hmE]
    intro y hy
    rcases List.mem_or_eq_of_mem_set hy with hy | rfl
    ·exact HOK.out y hy
    ·exact HOK.out (⟨pgx, bx, di, true, rc, ls⟩ : Fm) (List.mem_of_getElem? HXF.out)
  | false =>
   have HSWE : Hid (p.swept = (E.map (·.1), hd', hd)) := Lib.hid (by
    rw [HSW.out]
    obtain ⟨m', rfl⟩ : ∃ m', m = m' + 1 := ⟨m - 1, by have := HM.out; omega⟩
    rw [sweep, List.getD_eq_getElem?_getD, HXF.out]
    simp only [Option.getD_some]
    rw [if_neg (by simp), HHD'.out])
   have hb6 : Below W0.heap.size W0 (w5.setCell ⟨g, 3, none⟩ (.int .i64 (hd' : Nat))) := H3.out.bel.trans (HG6.out.below (fun k hk => ⟨Nat.lt_of_lt_of_le hk H3.out.bel.size, fun e => by have := (HLT.out k (.inl e)).1; omega⟩))
   have HPV : Hid (PV W0 g n f pg (.func (.func fn) #[] caps) Iw { p with F := E.map (·.1), hand := hd' } s (fun k => own3 g lb K k ∨ S1 k ∨ S2 k) (w5.setCell ⟨g, 3, none⟩ (.int .i64 (hd' : Nat)))) := Lib.hid
    ⟨lb, E, K, S1, S2, HA1.out, H2G.out, H3.out.grow HG6.out H7.out.symm hb6, HF.out.grow _ _ _ _ _ H4.out HG6.out H8.out.symm hb6, rfl, ⟨by rw [List.length_map]; exact hen, hn1, hn64, hd'n, HOK.out, H6.out.wr⟩, H7.out, H8.out, H9.out, rfl⟩
   clear hb6
   have hcl := clean_pv HF.out HPV.out hd HDN.out hwr
   obtain ⟨c, hc⟩ : ∃ c, Pq.clean O { p with F := E.map (·.1), hand := hd' } s hd = c := ⟨_, rfl⟩
   rw [hc] at hcl
   have HCL := Lib.hid hcl
   have HFR : Hid (p.free O s = Pq.freed hd c) := Lib.hid (by rw [HFL.out, HSWE.out, ← hc])
   have HG6F : Hid (Foot (fun k => own3 g lb K k ∨ S1 k ∨ S2 k) (fun k => own3 g lb K k ∨ S1 k ∨ S2 k) w (w5.setCell ⟨g, 3, none⟩ (.int .i64 (hd' : Nat)))) := Lib.hid (Foot.same HG6.out (fun k e => .inl e))
   obtain ⟨c1, c2, c3⟩ := c
   clear hcl hc
   by_cases hce : c1 = 0
   case neg =>
    have hq1 : (c1 != 0) = true := by simpa using hce
    go_wp2_with fail
    refine HCL.out.mono ?_
    rintro e w7 ⟨S', rfl, hpv, hft⟩
    have HP7 := Lib.hid hpv
    have HF7 := Lib.hid (HG6F.out.trans hft)
    clear hpv hft
    go_wp2_with fail
    simp only [Exit.jump]
    go_ret2
    rw [HFR.out, Pq.freed, if_neg hce]
    exact ⟨S', rfl, HP7.out, HF7.out⟩
   subst hce
   go_wp2_with fail
   refine HCL.out.mono ?_
   rintro e w7 ⟨S', rfl, hpv, hft⟩
   have HP7 := Lib.hid hpv
   have HF7 := Lib.hid (HG6F.out.trans hft)
   obtain ⟨lb7, E7, K7, S17, S27, i1, i2, i3, i4, i5, i6, i7, i8, i9, rfl⟩ := hpv
   have hiE7 : hd < E7.length := by have := i1.len; have := HDN.out; omega
   obtain ⟨e7, he7⟩ : ∃ e, E7[hd]? = some e := ⟨_, List.getElem?_eq_getElem hiE7⟩
   have ge1 := i1.box.cell 1 _ rfl
   have gefz := i1.box.free
   have gelt := i1.box.lt
   have lefz := i1.fzl
   have lelt := i1.ll.2
   have hcell7 := i1.cell hd e7 he7
   have x0 := hcell7 0 _ rfl
   have x1 := hcell7 1 _ rfl
   have x2 := hcell7 2 _ rfl
   have x3 := hcell7 3 _ rfl
   have x4 := hcell7 4 _ rfl
   have x5 := hcell7 5 _ rfl
   rw [Nat.add_zero] at x0
   have I1 := Lib.hid i1
   have I2 := Lib.hid i2
   have I3 := Lib.hid i3
   have I4 := Lib.hid i4
   have I5 := Lib.hid i5
   have I6 := Lib.hid i6
   have I7 := Lib.hid i7
   have I8 := Lib.hid i8
   have I9 := Lib.hid i9
   have HE7 := Lib.hid he7
   have hdn := HDN.out
   clear hft hcell7 i1 i2 i3 i4 i5 i6 i7 i8 i9 he7
   go_wp2_with fail
   simp only [Exit.jump]
   go_ret2
   rw [HFR.out, Pq.freed, if_pos rfl]
   obtain ⟨b1, b2⟩ := I1.out.put6 hd e7 HE7.out (-1) [] (.slice none 0 0) false false 0 0 SecAt.nil
   have hgg := b2.mono (Y := own3 g lb7 K7) (fun k e => .inr (.inl e))
   have hbz := I3.out.bel.trans (hgg.below (fun k hk => ⟨Nat.lt_of_lt_of_le hk I3.out.bel.size, fun e => e.elim (fun e => by have := I2.out; omega) (fun e => e.elim (fun e => by have := I1.out.ll.1; omega) (fun e => by have := (I1.out.kin k e).1; omega))⟩))
   refine ⟨_, rfl, ⟨lb7, _, K7, S17, S27, b1, I2.out, I3.out.grow hgg I7.out.symm hbz, HF.out.grow _ _ _ _ _ I4.out hgg I8.out.symm hbz, ?_, ?_, I7.out, I8.out, I9.out, rfl⟩, HF7.out.trans (Foot.same hgg (fun k hk => .inl hk))⟩
   ·rw [map_set_fst, I5.out]; rfl
   ·exact ⟨by rw [List.length_set]; exact I6.out.len, I6.out.n1, I6.out.n64, I6.out.hand, I6.out.set hd _ ⟨fun h => absurd h (by decide), fun h => by cases h⟩, I6.out.wr⟩
end
end
section
open Go.RowKit
theorem findL_lt {F : List Fm} {m : Int} {i : Nat} (h : findL F m = some i) : i < F.length := (List.findIdx?_eq_some_iff_getElem.1 h).1
section
variable {W0 : World} {g n f pg : Nat} {T : Type} {Iw : T → (Nat → Prop) → World → Prop} {p : Pq} {s : T} {S : Nat → Prop} {w : World} {fn : Nat} {caps : Array Value} {O : IoF T}
theorem PV.again {fv : Value} {lb : Nat} {E' : List Fe} {K K' S1 S2 : Nat → Prop} {w' : World} {hand' wr' : Nat} (hF : IoOf W0 f pg fn caps Iw O) (h2 : W0.heap.size ≤ g) (hl : W0.heap.size ≤ lb) (hk : ∀ k, K k → W0.heap.size ≤ k) (h3 : DM W0 S1 w) (h4 : Iw s S2 w)
  (h7 : Disj (own3 g lb K) S1) (h8 : Disj (own3 g lb K) S2) (h9 : Disj S1 S2) (hat : PoolAt w' W0.heap.size g lb n f fv E' hand' wr' K') (hgg : GrowX (own3 g lb K) w w') (hK : ∀ k, K' k → K k ∨ w.heap.size ≤ k)
  (hok : (Pq.mk (E'.map (·.1)) hand' wr').ok pg n) :
  PV W0 g n f pg fv Iw ⟨E'.map (·.1), hand', wr'⟩ s (fun k => own3 g lb K' k ∨ S1 k ∨ S2 k) w' ∧ Foot (fun k => own3 g lb K k ∨ S1 k ∨ S2 k) (fun k => own3 g lb K' k ∨ S1 k ∨ S2 k) w w' := by
 have hbz := h3.bel.trans (hgg.below (fun k hk' => ⟨Nat.lt_of_lt_of_le hk' h3.bel.size, fun e => e.elim (fun e => by omega) (fun e => e.elim (fun e => by omega) (fun e => by have := hk k e; omega))⟩))
 have hnew : ∀ k, own3 g lb K' k → own3 g lb K k ∨ w.heap.size ≤ k := fun k h => h.elim (fun h => .inl (.inl h)) (fun h => h.elim (fun h => .inl (.inr (.inl h))) (fun h => (hK k h).imp (fun h => .inr (.inr h)) id))
 refine ⟨⟨lb, E', K', S1, S2, hat, h2, h3.grow hgg h7.symm hbz, hF.grow _ _ _ _ _ h4 hgg h8.symm hbz, rfl, hok, ?_, ?_, h9, rfl⟩, ⟨hgg.mono (fun k h => .inl h), ?_⟩⟩
 ·intro k hk1 hk2
  exact (hnew k hk1).elim (fun h => h7 k h hk2) (fun h => by have := (h3.lt k hk2).2; omega)
 ·intro k hk1 hk2
  exact (hnew k hk1).elim (fun h => h8 k h hk2) (fun h => by have := (hF.lt _ _ _ h4 k hk2).2; omega)
 ·rintro k (h | h)
  ·exact (hnew k h).imp .inl id
  ·exact .inl (.inr h)
set_option maxRecDepth 100000 in
set_option maxHeartbeats 3200000 in
theorem evict_pv (hF : IoOf W0 f pg fn caps Iw O) (h : PV W0 g n f pg (.func (.func fn) #[] caps) Iw p s S w) (m : Int) (hwr : p.wr + 1 ≤ 1000000000) :
  Calls Tryz.prog 76 #[.pointer (some ⟨g, 0, none⟩), .int .i64 m] w fun e w' => ∃ S', e = .returned (.int .i64 (p.evict O s m).1) ∧ PV W0 g n f pg (.func (.func fn) #[] caps) Iw (p.evict O s m).2.1 (p.evict O s m).2.2 S' w' ∧ Foot S S' w w' := by
 have hcall := find_pv hF h m
 have HC := Lib.hid hcall
 have HF := Lib.hid hF
 have H6 := Lib.hid h.ok
 clear hcall hF h
 cases hfl : findL p.F m with
 | none =>
  rw [hfl] at HC
  have HE : Hid (p.evict O s m = (0, p, s)) := Lib.hid (by unfold Pq.evict; rw [hfl])
  clear hfl
  simp only [atI] at HC
  go_enter Tryz.func76, Tryz.ntmps76
  go_wp2_with fail
  refine HC.out.mono ?_
  rintro e w2 ⟨rfl, hp, hb⟩
  have HP := Lib.hid hp
  have HB := Lib.hid hb
  clear hp hb
  go_wp2_with fail
  go_ret
  rw [HE.out]
  exact ⟨S, rfl, HP.out, Foot.same (B := fun _ => False) (grow_below HB.out) (fun _ h => h.elim)⟩
 | some i =>
  rw [hfl] at HC
  have hin : i < n := by have := findL_lt hfl; rw [H6.out.len] at this; exact this
  obtain ⟨c, hc⟩ : ∃ c, p.clean O s i = c := ⟨_, rfl⟩
  have HE : Hid (p.evict O s m = if c.1 = 0 then (0, { c.2.1 with F := c.2.1.F.set i Fm.free }, c.2.2) else c) := Lib.hid (by unfold Pq.evict; rw [hfl]; simp only [hc])
  have HCC := Lib.hid hc
  have hib : decide ((i : Int) < 0) = false := by simp
  clear hfl hc
  simp only [atI] at HC
  go_enter Tryz.func76, Tryz.ntmps76
  go_wp2_with fail
  refine HC.out.mono ?_
  rintro e w2 ⟨rfl, hp, hb⟩
  have hcl := clean_pv HF.out hp i hin hwr
  rw [HCC.out] at hcl
  have HCL := Lib.hid hcl
  have HB : Hid (Foot S S w w2) := Lib.hid (Foot.same (B := fun _ => False) (grow_below hb) (fun _ h => h.elim))
  obtain ⟨c1, c2, c3⟩ := c
  clear hp hb hcl
  by_cases hce : c1 = 0
  case neg =>
   have hq1 : (c1 != 0) = true := by simpa using hce
   go_wp2_with fail
   refine HCL.out.mono ?_
   rintro e w7 ⟨S', rfl, hpv, hft⟩
   have HP7 := Lib.hid hpv
   have HF7 := Lib.hid (HB.out.trans hft)
   clear hpv hft
   go_wp2_with fail
   go_ret
   rw [HE.out, if_neg hce]
   exact ⟨S', rfl, HP7.out, HF7.out⟩
  subst hce
  go_wp2_with fail
  refine HCL.out.mono ?_
  rintro e w7 ⟨S', rfl, hpv, hft⟩
  have HF7 := Lib.hid (HB.out.trans hft)
  obtain ⟨lb7, E7, K7, S17, S27, i1, i2, i3, i4, i5, i6, i7, i8, i9, rfl⟩ := hpv
  have hiE7 : i < E7.length := by have := i1.len; omega
  obtain ⟨e7, he7⟩ : ∃ e, E7[i]? = some e := ⟨_, List.getElem?_eq_getElem hiE7⟩
  have ge1 := i1.box.cell 1 _ rfl
  have gefz := i1.box.free
  have gelt := i1.box.lt
  have lefz := i1.fzl
  have lelt := i1.ll.2
  have hcell7 := i1.cell i e7 he7
  have x0 := hcell7 0 _ rfl
  have x1 := hcell7 1 _ rfl
  have x2 := hcell7 2 _ rfl
  have x3 := hcell7 3 _ rfl
  have x4 := hcell7 4 _ rfl
  have x5 := hcell7 5 _ rfl
  rw [Nat.add_zero] at x0
  have hn64 := i6.n64
  have I1 := Lib.hid i1
  have I2 := Lib.hid i2
  have I3 := Lib.hid i3
  have I4 := Lib.hid i4
  have I5 := Lib.hid i5
  have I6 := Lib.hid i6
  have I7 := Lib.hid i7
  have I8 := Lib.hid i8
  have I9 := Lib.hid i9
  have HE7 := Lib.hid he7
  clear hft hcell7 i1 i2 i3 i4 i5 i6 i7 i8 i9 he7
  go_wp2_with fail
  go_ret
  rw [HE.out, if_pos trivial]
  obtain ⟨b1, b2⟩ := I1.out.put6 i e7 HE7.out (-1) [] (.slice none 0 0) false false 0 0 SecAt.nil
  obtain ⟨z1, z2⟩ := PV.again HF.out I2.out I1.out.ll.1 (fun k hk => (I1.out.kin k hk).1) I3.out I4.out I7.out I8.out I9.out b1 (b2.mono (Y := own3 g lb7 K7) (fun k e => .inr (.inl e))) (fun k h => .inl h)
   ⟨by rw [List.length_map, List.length_set]; exact I1.out.len, I6.out.n1, I6.out.n64, I6.out.hand, by rw [map_set_fst, I5.out]; exact I6.out.set i _ ⟨fun h => absurd h (by decide), fun h => by cases h⟩, I6.out.wr⟩
  rw [map_set_fst, I5.out] at z1
  exact ⟨_, rfl, z1, HF7.out.trans z2⟩
end
end
section
open Go.RowKit
theorem sweep_lt {n : Nat} (hn : 0 < n) : ∀ (m : Nat) (F : List Fm) (h : Nat), h < n → (sweep n m F h).2.2 < n
 | 0, F, h, hh => hh
 | m + 1, F, h, hh => by
  rw [sweep]
  split
  ·exact sweep_lt hn m _ _ (Nat.mod_lt _ hn)
  ·exact hh
theorem Pq.free_lt {T : Type} {O : IoF T} {p : Pq} {s : T} {pg n : Nat} (h : p.ok pg n) : (p.free O s).2.1 < n := by
 unfold Pq.free
 cases hf : freeL p.F with
 | some i =>
  have := (List.findIdx?_eq_some_iff_getElem.1 hf).1
  rw [h.len] at this
  exact this
 | none =>
  have h1 := h.n1
  simp only [Pq.freed]
  split
  ·have := sweep_lt (n := p.F.length) (by rw [h.len]; omega) (p.F.length + 1) p.F p.hand (by rw [h.len]; exact h.hand)
   rw [h.len] at this
   show (sweep p.F.length (p.F.length + 1) p.F p.hand).2.2 < n
   rw [h.len]
   exact this
  ·show 0 < n
   omega
theorem isP_page {m : Int} {x : Fm} (h : isP m x = true) : x.page = m ∧ 0 ≤ m := by
 unfold isP at h
 split at h
 ·next e => exact ⟨e, by simpa using h⟩
 ·cases h
theorem findL_page {F : List Fm} {m : Int} {i : Nat} (h : findL F m = some i) {x : Fm} (hx : F[i]? = some x) : x.page = m ∧ 0 ≤ m := by
 obtain ⟨h1, h2, _⟩ := List.findIdx?_eq_some_iff_getElem.1 h
 rw [List.getElem?_eq_getElem h1] at hx
 exact isP_page (Option.some.inj hx ▸ h2)
section
variable {W0 : World} {g n f pg : Nat} {T : Type} {Iw : T → (Nat → Prop) → World → Prop} {p : Pq} {s : T} {S : Nat → Prop} {w : World} {fn : Nat} {caps : Array Value} {O : IoF T}
def GetEnd (W0 w : World) (g n f pg : Nat) {T : Type} (fv : Value) (Iw : T → (Nat → Prop) → World → Prop) (S : Nat → Prop) (r : Int × List UInt8 × Pq × T) (e : Ending) (w' : World) : Prop :=
 ∃ v S', e = .returned (.tuple #[v, .int .i64 r.1]) ∧ (r.1 = 0 → w'.ownsRow w.heap.size 5 1 v 512 (r.2.1.map B) ∧ r.2.1.length = 512) ∧ (¬ r.1 = 0 → v = .slice none 0 0) ∧ (∀ k, v.ownBlock = some k → ¬ S' k) ∧ PV W0 g n f pg fv Iw r.2.2.1 r.2.2.2 S' w' ∧ Foot S S' w w'
set_option maxRecDepth 100000 in
set_option maxHeartbeats 3200000 in
theorem get_hit (hF : IoOf W0 f pg fn caps Iw O) (h : PV W0 g n f pg (.func (.func fn) #[] caps) Iw p s S w) (m : Int) (i : Nat) (hfl : findL p.F m = some i) :
  Calls Tryz.prog 64 #[.pointer (some ⟨g, 0, none⟩), .int .i64 m] w (GetEnd W0 w g n f pg (.func (.func fn) #[] caps) Iw S (p.get O pg s m)) := by
 have hcall := find_pv hF h m
 rw [hfl] at hcall
 have HC := Lib.hid hcall
 have HF := Lib.hid hF
 have H6 := Lib.hid h.ok
 have hin : i < n := by have := findL_lt hfl; rw [H6.out.len] at this; exact this
 have HGE : Hid (p.get O pg s m = (0, (p.F.getD i Fm.free).b, { p with F := p.F.set i { p.F.getD i Fm.free with marked := true } }, s)) := Lib.hid (by unfold Pq.get; rw [hfl])
 have HFL := Lib.hid hfl
 have hn64 := H6.out.n64
 clear hcall hF h hfl
 simp only [atI] at HC
 have hib : decide ((i : Int) < 0) = false := by simp
 go_enter Tryz.func64, Tryz.ntmps64
 go_wp2_with fail
 refine HC.out.mono ?_
 rintro e y ⟨rfl, hpv, hbl⟩
 have HBL := Lib.hid hbl
 obtain ⟨lb, E, K, S1, S2, i1, i2, i3, i4, i5, i6, i7, i8, i9, rfl⟩ := hpv
 have hiE : i < E.length := by have := i1.len; omega
 obtain ⟨e0, he0⟩ : ∃ e, E[i]? = some e := ⟨_, List.getElem?_eq_getElem hiE⟩
 have hxF : p.F[i]? = some e0.1 := by rw [← i5, List.getElem?_map, he0]; rfl
 have hpg := findL_page HFL.out hxF
 have hxo := i6.fr _ (List.mem_of_getElem? hxF)
 obtain ⟨⟨pgx, bx, di, ma, rc, ls⟩, vb⟩ := e0
 simp only at hpg hxo hxF
 have hbx : bx.length = 512 := (hxo.1 (by show (0 : Int) ≤ pgx; rw [hpg.1]; exact hpg.2)).2
 have HXD : Hid (p.F.getD i Fm.free = ⟨pgx, bx, di, ma, rc, ls⟩) := Lib.hid (by rw [List.getD_eq_getElem?_getD, hxF]; rfl)
 have I1 := Lib.hid i1
 have I2 := Lib.hid i2
 have I3 := Lib.hid i3
 have I4 := Lib.hid i4
 have I5 := Lib.hid i5
 have I6 := Lib.hid i6
 have I7 := Lib.hid i7
 have I8 := Lib.hid i8
 have I9 := Lib.hid i9
 have HE := Lib.hid he0
 have HB := Lib.hid hbx
 have HXO := Lib.hid hxo
 clear hbl i1 i2 i3 i4 i5 i6 i7 i8 i9 he0 hxF hpg hxo hbx
 have ge1 := I1.out.box.cell 1 _ rfl
 have gefz := I1.out.box.free
 have gelt := I1.out.box.lt
 have lefz := I1.out.fzl
 have lelt := I1.out.ll.2
 have hgl := I1.out.gl
 have x1 := I1.out.cell i _ HE.out 1 _ rfl
 have x3 := I1.out.cell i _ HE.out 3 _ rfl
 simp only at x1 x3
 have htx := I1.out.txt _ (List.mem_of_getElem? HE.out)
 obtain ⟨av, cv, evb, _, hvc, hvr⟩ := htx.1
 simp only at evb hvc hvr
 obtain ⟨bq, oq, rfl, hbq, hvcell⟩ := hvr (by rw [HB.out]; omega)
 rw [HB.out] at evb
 subst evb
 obtain ⟨b1, b2⟩ := I1.out.setF i _ (⟨pgx, bx, di, true, rc, ls⟩, .slice (some ⟨bq, oq, none⟩) 512 cv) HE.out 3 (by omega) (.bool true) rfl htx
 obtain ⟨a2v, c2v, e2v, _, hvc2, hvr2⟩ := (b1.txt (⟨pgx, bx, di, true, rc, ls⟩, .slice (some ⟨bq, oq, none⟩) 512 cv) (List.mem_of_getElem? (List.getElem?_set_self (List.getElem?_eq_some_iff.1 HE.out).1))).1
 simp only at e2v hvr2
 obtain ⟨bq2, oq2, rfl, _, hcell2⟩ := hvr2 (by rw [HB.out]; omega)
 injection e2v with e3 e4 e5
 injection e3 with e3
 injection e3 with e3 e3b
 subst e3 e3b
 have HV2 := Lib.hid hcell2
 have HB1 := Lib.hid b1
 have HB2 := Lib.hid b2
 have hszy : (y.setCell ⟨lb, i * 6 + 3, none⟩ (.bool true)).heap.size = y.heap.size := by simp [World.setCell]
 have HSZ := Lib.hid hszy
 clear htx hvr hvcell b1 b2 hvr2 hcell2 e4 e5 hvc2 hszy
 go_wp2_with (at_builtin; refine wpList_append_k bytesOf (.const (.slice none 0 0)) (.tmp 57) rfl rfl (base := (y.setCell ⟨lb, i * 6 + 3, none⟩ (.bool true)).heap.size) rfl (World.ownsRow_nil _ _ _ _) (m := 512) (c := cv) rfl (by rw [List.length_map, HB.out]) (news := bx.map B) (by intro j u hu; rw [Addr.add_lit]; exact HV2.out j u hu) (Bs_one _) (by omega) (by omega) (by omega) (by omega) ?_; intro ob cp wq hownq hgrq horq)
 have hgx : GrowX (fun _ => False) (y.setCell ⟨lb, i * 6 + 3, none⟩ (.bool true)) wq := GrowX.of_growC hgrq (fun k o h => by cases h.1)
 have HGX := Lib.hid hgx
 have HOW := Lib.hid hownq
 clear hownq hgrq horq hgx
 go_wp2_with fail
 go_ret2
 have hrow : wq.ownsRow (y.setCell ⟨lb, i * 6 + 3, none⟩ (.bool true)).heap.size 5 1 (.slice (some ⟨ob, 0, none⟩) 512 cp) 512 (bx.map B) := by have := HOW.out; simpa using this
 have hB1 := HB1.out.grow HGX.out (fun h => h) (fun h => h) (fun _ _ h => h)
 have hG1 : GrowX (own3 g lb K) y wq := (HB2.out.mono (Y := own3 g lb K) (fun k e => .inr (.inl e))).step HGX.out (fun _ _ h => h.elim)
 have hob : y.heap.size ≤ ob := by have := (hrow.lt ob rfl).1; have := HSZ.out; omega
 rw [HGE.out, HXD.out]
 obtain ⟨z1, z2⟩ := PV.again HF.out I2.out I1.out.ll.1 (fun k hk => (I1.out.kin k hk).1) I3.out I4.out I7.out I8.out I9.out hB1 hG1 (fun k h => .inl h)
  ⟨by rw [List.length_map, List.length_set]; exact I1.out.len, I6.out.n1, I6.out.n64, I6.out.hand, by rw [map_set_fst, I5.out]; exact I6.out.set i _ HXO.out, I6.out.wr⟩
 rw [map_set_fst, I5.out] at z1
 refine ⟨_, _, rfl, fun _ => ⟨own_base hrow (by have := HBL.out.size; have := HSZ.out; omega), HB.out⟩, fun h => absurd rfl h, ?_, z1, (Foot.same (B := fun _ => False) (grow_below HBL.out) (fun _ h => h.elim)).trans z2⟩
 intro k e hk
 have e2 : ob = k := by simpa [Value.ownBlock] using e
 subst e2
 rcases hk with (rfl | rfl | hk) | hk | hk
 ·have := I1.out.box.lt; omega
 ·have := I1.out.ll.2; omega
 ·have := (I1.out.kin ob hk).2; omega
 ·have := (I3.out.lt ob hk).2; omega
 ·have := (HF.out.lt _ _ _ I4.out ob hk).2; omega
theorem PV.again2 {fv : Value} {lb : Nat} {E' : List Fe} {K K' S1 S2 : Nat → Prop} {w' : World} {hand' wr' : Nat} (hF : IoOf W0 f pg fn caps Iw O) (h2 : W0.heap.size ≤ g) (hl : W0.heap.size ≤ lb) (hk : ∀ k, K' k → W0.heap.size ≤ k) (h3 : DM W0 S1 w) (h4 : Iw s S2 w)
  (h7 : Disj (own3 g lb K) S1) (h8 : Disj (own3 g lb K) S2) (h9 : Disj S1 S2) (hat : PoolAt w' W0.heap.size g lb n f fv E' hand' wr' K') (hgg : GrowX (own3 g lb K') w w') (hK : ∀ k, K' k → K k ∨ (¬ S1 k ∧ ¬ S2 k))
  (hok : (Pq.mk (E'.map (·.1)) hand' wr').ok pg n) :
  PV W0 g n f pg fv Iw ⟨E'.map (·.1), hand', wr'⟩ s (fun k => own3 g lb K' k ∨ S1 k ∨ S2 k) w' := by
 have hbz := h3.bel.trans (hgg.below (fun k hk' => ⟨Nat.lt_of_lt_of_le hk' h3.bel.size, fun e => e.elim (fun e => by omega) (fun e => e.elim (fun e => by omega) (fun e => by have := hk k e; omega))⟩))
 have d1 : Disj (own3 g lb K') S1 := by
  rintro k (h | h | h) hs
  ·exact h7 k (.inl h) hs
  ·exact h7 k (.inr (.inl h)) hs
  ·exact (hK k h).elim (fun h => h7 k (.inr (.inr h)) hs) (fun h => h.1 hs)
 have d2 : Disj (own3 g lb K') S2 := by
  rintro k (h | h | h) hs
  ·exact h8 k (.inl h) hs
  ·exact h8 k (.inr (.inl h)) hs
  ·exact (hK k h).elim (fun h => h8 k (.inr (.inr h)) hs) (fun h => h.2 hs)
 exact ⟨lb, E', K', S1, S2, hat, h2, h3.grow hgg d1.symm hbz, hF.grow _ _ _ _ _ h4 hgg d2.symm hbz, rfl, hok, d1, d2, h9, rfl⟩
theorem get_bad (hF : IoOf W0 f pg fn caps Iw O) (h : PV W0 g n f pg (.func (.func fn) #[] caps) Iw p s S w) (m : Int) (hm : ¬ (0 ≤ m ∧ m < (pg : Int))) (hfl : findL p.F m = none) :
  Calls Tryz.prog 64 #[.pointer (some ⟨g, 0, none⟩), .int .i64 m] w (GetEnd W0 w g n f pg (.func (.func fn) #[] caps) Iw S (p.get O pg s m)) := by
 have hcall := find_pv hF h m
 rw [hfl] at hcall
 have HC := Lib.hid hcall
 have HF := Lib.hid hF
 have HGE : Hid (p.get O pg s m = (1, [], p, s)) := Lib.hid (by unfold Pq.get; rw [hfl]; simp only []; rw [if_neg hm])
 have HM : Hid (m < 0 ∨ (pg : Int) ≤ m) := Lib.hid (by omega)
 clear hcall hF h hfl hm
 simp only [atI] at HC
 go_enter Tryz.func64, Tryz.ntmps64
 go_wp2_with fail
 refine HC.out.mono ?_
 rintro e y ⟨rfl, hpv, hbl⟩
 have HBL := Lib.hid hbl
 have HPV := Lib.hid hpv
 obtain ⟨lb, E, K, S1, S2, i1, i2, i3, i4, i5, i6, i7, i8, i9, rfl⟩ := hpv
 have ge0 := i1.box.cell 0 _ rfl
 have gelt := i1.box.lt
 have I4 := Lib.hid i4
 clear hbl i1 i2 i3 i4 i5 i6 i7 i8 i9
 go_wp2_with fail
 refine (HF.out.bad _ _ _ m I4.out HM.out).mono ?_
 rintro e y2 ⟨rfl, rfl⟩
 go_wp2_with fail
 go_ret2
 rw [HGE.out]
 exact ⟨.slice none 0 0, _, rfl, fun h => absurd h (by show ¬ (1 : Int) = 0; decide), fun _ => rfl, fun k e => (by cases e), HPV.out, Foot.same (B := fun _ => False) (grow_below HBL.out) (fun _ h => h.elim)⟩
set_option maxRecDepth 100000 in
set_option maxHeartbeats 3200000 in
theorem get_new (hF : IoOf W0 f pg fn caps Iw O) (h : PV W0 g n f pg (.func (.func fn) #[] caps) Iw p s S w) (q : Nat) (hq : q < pg) (hfl : findL p.F (q : Nat) = none) (hwr : p.wr + 1 ≤ 1000000000) :
  Calls Tryz.prog 64 #[.pointer (some ⟨g, 0, none⟩), .int .i64 (q : Nat)] w (GetEnd W0 w g n f pg (.func (.func fn) #[] caps) Iw S (p.get O pg s (q : Nat))) := by
 have hcall := find_pv hF h (q : Nat)
 rw [hfl] at hcall
 have HC := Lib.hid hcall
 have HF := Lib.hid hF
 obtain ⟨r, hr⟩ : ∃ r, p.free O (O.rd s) = r := ⟨_, rfl⟩
 have HRT : Hid (r.2.1 < n) := Lib.hid (by rw [← hr]; exact Pq.free_lt h.ok)
 have HGE : Hid (p.get O pg s (q : Nat) = Pq.got (q : Nat) (O.pgs s q) r) := Lib.hid (by unfold Pq.get; rw [hfl]; simp only []; rw [if_pos ⟨by omega, by omega⟩, hr, Int.toNat_natCast])
 have HR := Lib.hid hr
 have HQ := Lib.hid hq
 clear hcall hF h hfl hr hq
 simp only [atI] at HC
 go_enter Tryz.func64, Tryz.ntmps64
 go_wp2_with fail
 refine HC.out.mono ?_
 rintro e y ⟨rfl, hpv, hbl⟩
 have HBL := Lib.hid hbl
 have HLTS := Lib.hid (hpv.lt HF.out)
 obtain ⟨lb, E, K, S1, S2, i1, i2, i3, i4, i5, i6, i7, i8, i9, rfl⟩ := hpv
 have ge0 := i1.box.cell 0 _ rfl
 have gelt := i1.box.lt
 have I1 := Lib.hid i1
 have I2 := Lib.hid i2
 have I3 := Lib.hid i3
 have I4 := Lib.hid i4
 have I5 := Lib.hid i5
 have I6 := Lib.hid i6
 have I7 := Lib.hid i7
 have I8 := Lib.hid i8
 have I9 := Lib.hid i9
 clear hbl i1 i2 i3 i4 i5 i6 i7 i8 i9
 go_wp2_with fail
 refine (HF.out.rd _ _ _ q I4.out HQ.out).mono ?_
 rintro e y2 ⟨vb, rfl, hrow, hfv, hgr⟩
 obtain ⟨avb, cvb, evb⟩ := own_shape hrow
 subst evb
 have HPL : Hid ((O.pgs s q).length = 512) := Lib.hid (HF.out.len _ _ _ I4.out q HQ.out)
 have HPV2 : Hid (PV W0 g n f pg (.func (.func fn) #[] caps) Iw p (O.rd s) (fun k => own3 g lb K k ∨ S1 k ∨ S2 k) y2) := Lib.hid
  ⟨lb, E, K, S1, S2, I1.out.grow hgr (fun hs => I8.out g (.inl rfl) hs) (fun hs => I8.out lb (.inr (.inl rfl)) hs) (fun k hk hs => I8.out k (.inr (.inr hk)) hs), I2.out, ⟨HF.out.bel _ _ _ hfv, I3.out.2⟩, hfv, I5.out, I6.out, I7.out, I8.out, I9.out, rfl⟩
 have HFT2 : Hid (Foot (fun k => own3 g lb K k ∨ S1 k ∨ S2 k) (fun k => own3 g lb K k ∨ S1 k ∨ S2 k) w y2) := Lib.hid ((Foot.same (B := fun _ => False) (grow_below HBL.out) (fun _ h => h.elim)).trans (Foot.same hgr (fun k hk => .inr (.inr hk))))
 have HROW := Lib.hid hrow
 have hfree := free_pv HF.out HPV2.out hwr
 rw [HR.out] at hfree
 have HFREE := Lib.hid hfree
 obtain ⟨re, i, p3, s3⟩ := r
 have hin : i < n := HRT.out
 clear ge0 gelt hrow hfv hgr hfree
 by_cases hre : re = 0
 case neg =>
  have hq1 : (re != 0) = true := by simpa using hre
  go_wp2_with fail
  refine HFREE.out.mono ?_
  rintro e y3 ⟨S3, rfl, hpv3, hft3⟩
  have HPV3 := Lib.hid hpv3
  have HFT3 := Lib.hid (HFT2.out.trans hft3)
  clear hpv3 hft3
  go_wp2_with fail
  go_ret2
  rw [HGE.out, Pq.got, if_neg hre]
  exact ⟨.slice none 0 0, _, rfl, fun h => absurd h hre, fun _ => rfl, fun k e => (by cases e), HPV3.out, HFT3.out⟩
 subst hre
 go_wp2_with fail
 refine HFREE.out.mono ?_
 rintro e y3 ⟨S3, rfl, hpv3, hft3⟩
 have HFT3 := Lib.hid (HFT2.out.trans hft3)
 have hblk : ∀ k, (Value.slice avb 512 cvb).ownBlock = some k → y.heap.size ≤ k ∧ k < y2.heap.size := fun k e => HROW.out.lt k e
 have hnS : ∀ k, (Value.slice avb 512 cvb).ownBlock = some k → ¬ S3 k := fun k e hs => (hft3.new k hs).elim (fun hs => by have := (HLTS.out k hs).2; have := (hblk k e).1; omega) (fun h => by have := (hblk k e).2; omega)
 have hrow3 : y3.ownsRow y.heap.size 5 1 (.slice avb 512 cvb) 512 ((O.pgs s q).map B) := own_growx HROW.out hft3.grow (fun k e hs => by have := (HLTS.out k hs).2; have := (hblk k e).1; omega)
 have hsz23 := hft3.grow.size
 obtain ⟨lb3, E3, K3, S13, S23, j1, j2, j3, j4, j5, j6, j7, j8, j9, rfl⟩ := hpv3
 have hiE : i < E3.length := by have := j1.len; omega
 obtain ⟨e0, he0⟩ : ∃ e, E3[i]? = some e := ⟨_, List.getElem?_eq_getElem hiE⟩
 have hys : W0.heap.size ≤ y.heap.size := I3.out.bel.size
 have jk : PoolAt y3 W0.heap.size g lb3 n f (.func (.func fn) #[] caps) E3 p3.hand p3.wr (fun k => K3 k ∨ (Value.slice avb 512 cvb).ownBlock = some k) := j1.addK _ (fun k h => .inl h) (fun k h => h.imp id (fun e => ⟨by have := (hblk k e).1; omega, by have := (hblk k e).2; omega, fun e2 => hnS k e (.inl (.inl e2)), fun e2 => hnS k e (.inl (.inr (.inl e2)))⟩))
 have hsec : SecAt y3 (fun k => K3 k ∨ (Value.slice avb 512 cvb).ownBlock = some k) (O.pgs s q) (.slice avb 512 cvb) := ⟨by rw [HPL.out]; exact Reads.of_own hrow3, fun k e => .inr e⟩
 have hcell7 := j1.cell i e0 he0
 have x0 := hcell7 0 _ rfl
 have x1 := hcell7 1 _ rfl
 have x2 := hcell7 2 _ rfl
 have x3 := hcell7 3 _ rfl
 have x4 := hcell7 4 _ rfl
 have x5 := hcell7 5 _ rfl
 rw [Nat.add_zero] at x0
 obtain ⟨b1, b2⟩ := jk.put6 i e0 he0 (q : Nat) (O.pgs s q) (.slice avb 512 cvb) false false 0 0 hsec
 have ge1 := j1.box.cell 1 _ rfl
 have gefz := j1.box.free
 have gelt := j1.box.lt
 have lefz := j1.fzl
 have lelt := j1.ll.2
 have hgl := j1.gl
 have hn64 := j6.n64
 have J1 := Lib.hid j1
 have J2 := Lib.hid j2
 have J3 := Lib.hid j3
 have J4 := Lib.hid j4
 have J5 := Lib.hid j5
 have J6 := Lib.hid j6
 have J7 := Lib.hid j7
 have J8 := Lib.hid j8
 have J9 := Lib.hid j9
 have HB1' := Lib.hid b1
 have HB2' := Lib.hid b2
 have HNS := Lib.hid hnS
 have HBK := Lib.hid hblk
 clear hft3 hcell7 j1 j2 j3 j4 j5 j6 j7 j8 j9 b1 b2 jk hsec hrow3 hnS hblk he0
 go_upto_region 10 with (fail)
 have hE4i : (E3.set i (⟨(q : Nat), O.pgs s q, false, false, 0, 0⟩, .slice avb 512 cvb))[i]? = some (⟨(q : Nat), O.pgs s q, false, false, 0, 0⟩, .slice avb 512 cvb) := List.getElem?_set_self hiE
 have hE4m : (E3.set i (⟨(q : Nat), O.pgs s q, false, false, 0, 0⟩, .slice avb 512 cvb)).map (·.1) = p3.F.set i ⟨(q : Nat), O.pgs s q, false, false, 0, 0⟩ := by rw [map_set_fst, J5.out]
 obtain ⟨K4, hK4⟩ : ∃ K4 : Nat → Prop, (fun k => K3 k ∨ (Value.slice avb 512 cvb).ownBlock = some k) = K4 := ⟨_, rfl⟩
 have HK4 : Hid (∀ k, K4 k → K3 k ∨ (Value.slice avb 512 cvb).ownBlock = some k) := Lib.hid (by rw [← hK4]; exact fun k h => h)
 have HB := HPL
 obtain ⟨qv, hqv⟩ : ∃ x : Int, ((q : Nat) : Int) = x := ⟨_, rfl⟩
 have HQV := Lib.hid hqv
 obtain ⟨bx, hbx⟩ : ∃ x, O.pgs s q = x := ⟨_, rfl⟩
 have HBX := Lib.hid hbx
 rw [hqv, hbx] at HB1' hE4i hE4m
 rw [hbx] at HB
 rw [hqv] at HB2' ⊢
 generalize E3.set i (⟨qv, bx, false, false, 0, 0⟩, .slice avb 512 cvb) = E at HB1' hE4i hE4m
 rw [hK4] at HB1'
 generalize (((((y3.setCell ⟨lb3, i * 6, none⟩ (.int .i64 qv)).setCell ⟨lb3, i * 6 + 1, none⟩ (.slice avb 512 cvb)).setCell ⟨lb3, i * 6 + 2, none⟩ (.bool false)).setCell ⟨lb3, i * 6 + 3, none⟩ (.bool false)).setCell ⟨lb3, i * 6 + 4, none⟩ (.int .i64 0)).setCell ⟨lb3, i * 6 + 5, none⟩ (.int .i64 0) = y4 at HB1' HB2' ⊢
 have HE := Lib.hid hE4i
 have HEM := Lib.hid hE4m
 clear ge1 gefz gelt lefz lelt hgl x0 x1 x2 x3 x4 x5 hE4i hE4m hK4 hqv hbx
 have ge1 := HB1'.out.box.cell 1 _ rfl
 have gefz := HB1'.out.box.free
 have gelt := HB1'.out.box.lt
 have lefz := HB1'.out.fzl
 have lelt := HB1'.out.ll.2
 have hgl := HB1'.out.gl
 have x1 := HB1'.out.cell i _ HE.out 1 _ rfl
 have x3 := HB1'.out.cell i _ HE.out 3 _ rfl
 simp only at x1 x3
 have htx := HB1'.out.txt _ (List.mem_of_getElem? HE.out)
 obtain ⟨av, cv, evb, _, hvc, hvr⟩ := htx.1
 simp only at evb hvc hvr
 obtain ⟨bq, oq, rfl, hbq, hvcell⟩ := hvr (by rw [HB.out]; omega)
 rw [HB.out] at evb
 injection evb with e91 e92 e93
 subst e91
 have e94 := e93.symm
 subst e94
 clear e92
 obtain ⟨b1, b2⟩ := HB1'.out.setF i _ (⟨qv, bx, false, true, 0, 0⟩, .slice (some ⟨bq, oq, none⟩) 512 cv) HE.out 3 (by omega) (.bool true) rfl htx
 obtain ⟨a2v, c2v, e2v, _, hvc2, hvr2⟩ := (b1.txt (⟨qv, bx, false, true, 0, 0⟩, .slice (some ⟨bq, oq, none⟩) 512 cv) (List.mem_of_getElem? (List.getElem?_set_self (List.getElem?_eq_some_iff.1 HE.out).1))).1
 simp only at e2v hvr2
 obtain ⟨bq2, oq2, rfl, _, hcell2⟩ := hvr2 (by rw [HB.out]; omega)
 injection e2v with e3 e4 e5
 injection e3 with e3
 injection e3 with e3 e3b
 subst e3 e3b
 have HV2 := Lib.hid hcell2
 have HB1 := Lib.hid b1
 have HB2 := Lib.hid b2
 have hszy : (y4.setCell ⟨lb3, i * 6 + 3, none⟩ (.bool true)).heap.size = y4.heap.size := by simp [World.setCell]
 have HSZ := Lib.hid hszy
 clear htx hvr hvcell b1 b2 hvr2 hcell2 e4 e5 hvc2 hszy
 go_wp2_with (at_builtin; refine wpList_append_k bytesOf (.const (.slice none 0 0)) (.tmp 57) rfl rfl (base := (y4.setCell ⟨lb3, i * 6 + 3, none⟩ (.bool true)).heap.size) rfl (World.ownsRow_nil _ _ _ _) (m := 512) (c := cv) rfl (by rw [List.length_map, HB.out]) (news := bx.map B) (by intro j u hu; rw [Addr.add_lit]; exact HV2.out j u hu) (Bs_one _) (by omega) (by omega) (by omega) (by omega) ?_; intro ob cp wq hownq hgrq horq)
 have hgx : GrowX (fun _ => False) (y4.setCell ⟨lb3, i * 6 + 3, none⟩ (.bool true)) wq := GrowX.of_growC hgrq (fun k o h => by cases h.1)
 have HGX := Lib.hid hgx
 have HOW := Lib.hid hownq
 clear hownq hgrq horq hgx
 go_wp2_with fail
 go_ret2
 have hrow : wq.ownsRow (y4.setCell ⟨lb3, i * 6 + 3, none⟩ (.bool true)).heap.size 5 1 (.slice (some ⟨ob, 0, none⟩) 512 cp) 512 (bx.map B) := by have := HOW.out; simpa using this
 have hB1 := HB1.out.grow HGX.out (fun h => h) (fun h => h) (fun _ _ h => h)
 have hG1 : GrowX (own3 g lb3 K4) y4 wq := (HB2.out.mono (Y := own3 g lb3 K4) (fun k e => .inr (.inl e))).step HGX.out (fun _ _ h => h.elim)
 have hob : y4.heap.size ≤ ob := by have := (hrow.lt ob rfl).1; have := HSZ.out; omega
 rw [HGE.out, Pq.got, if_pos rfl, HBX.out, HQV.out]
 have hG2 : GrowX (own3 g lb3 K4) y3 wq := (HB2'.out.mono (Y := own3 g lb3 K4) (fun k e => .inr (.inl e))).trans hG1
 have hys : W0.heap.size ≤ y.heap.size := I3.out.bel.size
 have hK4G : ∀ k, K4 k → W0.heap.size ≤ k := fun k h => (HK4.out k h).elim (fun h => (J1.out.kin k h).1) (fun e => by have := (HBK.out k e).1; omega)
 have hok : (Pq.mk ((E.set i (⟨qv, bx, false, true, 0, 0⟩, .slice (some ⟨bq, oq, none⟩) 512 cv)).map (·.1)) p3.hand p3.wr).ok pg n := by
  refine ⟨by rw [List.length_map, List.length_set]; exact HB1'.out.len, J6.out.n1, J6.out.n64, J6.out.hand, ?_, J6.out.wr⟩
  rw [map_set_fst, HEM.out, List.set_set]
  exact J6.out.set i _ ⟨fun _ => ⟨by show qv < (pg : Int); rw [← HQV.out]; have := HQ.out; omega, HB.out⟩, fun h => by cases h⟩
 have z1 := PV.again2 HF.out J2.out J1.out.ll.1 hK4G J3.out J4.out J7.out J8.out J9.out hB1 hG2 (fun k h => (HK4.out k h).imp id (fun e => ⟨fun h2 => HNS.out k e (.inr (.inl h2)), fun h2 => HNS.out k e (.inr (.inr h2))⟩)) hok
 rw [map_set_fst, HEM.out, List.set_set] at z1
 have hw34 := HB2'.out.size
 have hwy : w.heap.size ≤ y.heap.size := HBL.out.size
 have hwy3 : w.heap.size ≤ y3.heap.size := HFT3.out.grow.size
 refine ⟨_, _, rfl, fun _ => ⟨own_base hrow (by have := HSZ.out; omega), HB.out⟩, fun h => absurd rfl h, ?_, z1, ?_⟩
 ·intro k e hk
  have e2 : ob = k := by simpa [Value.ownBlock] using e
  subst e2
  rcases hk with (rfl | rfl | hk) | hk | hk
  ·have := J1.out.box.lt; omega
  ·have := J1.out.ll.2; omega
  ·have := (HB1'.out.kin ob hk).2; omega
  ·have := (J3.out.lt ob hk).2; omega
  ·have := (HF.out.lt _ _ _ J4.out ob hk).2; omega
 ·have hnew : ∀ k, own3 g lb3 K4 k → (own3 g lb3 K3 k ∨ S13 k ∨ S23 k) ∨ w.heap.size ≤ k := fun k h => h.elim (fun h => .inl (.inl (.inl h))) (fun h => h.elim (fun h => .inl (.inl (.inr (.inl h)))) (fun h => (HK4.out k h).elim (fun h => .inl (.inl (.inr (.inr h)))) (fun e => .inr (by have := (HBK.out k e).1; omega))))
  refine ⟨HFT3.out.grow.step hG2 (fun k hkw hk => (hnew k hk).elim (fun h => (HFT3.out.new k h).elim (fun h => h) (fun h => by omega)) (fun h => by omega)), ?_⟩
  rintro k (hk | hk)
  ·exact (hnew k hk).elim (HFT3.out.new k) .inr
  ·exact HFT3.out.new k (.inr hk)
theorem get_pv (hF : IoOf W0 f pg fn caps Iw O) (h : PV W0 g n f pg (.func (.func fn) #[] caps) Iw p s S w) (m : Int) (hwr : p.wr + 1 ≤ 1000000000) :
  Calls Tryz.prog 64 #[.pointer (some ⟨g, 0, none⟩), .int .i64 m] w (GetEnd W0 w g n f pg (.func (.func fn) #[] caps) Iw S (p.get O pg s m)) := by
 cases hfl : findL p.F m with
 | some i => exact get_hit hF h m i hfl
 | none =>
  by_cases hm : 0 ≤ m ∧ m < (pg : Int)
  ·obtain ⟨q, rfl⟩ := Int.eq_ofNat_of_zero_le hm.1
   exact get_new hF h q (by omega) hfl hwr
  ·exact get_bad hF h m hm hfl
end
end
section
open Go.RowKit
theorem Foot.fin {S S3 T A : Nat → Prop} {w y w' : World} (h : Foot S S3 w y) (hg : GrowX A y w') (hA : ∀ k, A k → S3 k ∨ w.heap.size ≤ k) (hT : ∀ k, T k → S3 k ∨ w.heap.size ≤ k) : Foot S T w w' :=
 ⟨h.grow.step hg (fun k hkw hk => (hA k hk).elim (fun h1 => (h.new k h1).elim (fun h => h) (fun h => by omega)) (fun h => by omega)), fun k hk => (hT k hk).elim (h.new k) .inr⟩
theorem PoolAt.put5 {w : World} {G g lb n f : Nat} {fv : Value} {E : List Fe} {hand wr : Nat} {K : Nat → Prop} (h : PoolAt w G g lb n f fv E hand wr K) (i : Nat) (e : Fe) (he : E[i]? = some e) (pa : Int) (b' : List UInt8) (v' : Value) (di ma : Bool) (ls : Int) (ht : SecAt w K b' v') :
  PoolAt (((((w.setCell ⟨lb, i * 6, none⟩ (.int .i64 pa)).setCell ⟨lb, i * 6 + 1, none⟩ v').setCell ⟨lb, i * 6 + 5, none⟩ (.int .i64 ls)).setCell ⟨lb, i * 6 + 2, none⟩ (.bool di)).setCell ⟨lb, i * 6 + 3, none⟩ (.bool ma)) G g lb n f fv (E.set i (⟨pa, b', di, ma, e.1.rc, ls⟩, v')) hand wr K ∧
  GrowX (fun k => k = lb) w (((((w.setCell ⟨lb, i * 6, none⟩ (.int .i64 pa)).setCell ⟨lb, i * 6 + 1, none⟩ v').setCell ⟨lb, i * 6 + 5, none⟩ (.int .i64 ls)).setCell ⟨lb, i * 6 + 2, none⟩ (.bool di)).setCell ⟨lb, i * 6 + 3, none⟩ (.bool ma)) := by
 obtain ⟨⟨p0, b0, d0, m0, r0, l0⟩, v0⟩ := e
 have hi := (List.getElem?_eq_some_iff.1 he).1
 have hs : ∀ (y : Fe), (E.set i y)[i]? = some y := fun y => by rw [List.getElem?_set_self hi]
 have hK : ∀ k, K k → k ≠ lb := fun k hk e => h.kl (e ▸ hk)
 obtain ⟨a1, g1⟩ := h.setF i _ (⟨pa, b0, d0, m0, r0, l0⟩, v0) he 0 (by omega) (.int .i64 pa) rfl (h.txt (⟨p0, b0, d0, m0, r0, l0⟩, v0) (List.mem_of_getElem? he))
 rw [Nat.add_zero] at a1 g1
 obtain ⟨a2, g2⟩ := a1.setF i _ (⟨pa, b', d0, m0, r0, l0⟩, v') (hs _) 1 (by omega) v' rfl (ht.grow g1 hK)
 rw [List.set_set] at a2
 obtain ⟨a3, g3⟩ := a2.setF i _ (⟨pa, b', d0, m0, r0, ls⟩, v') (hs _) 5 (by omega) (.int .i64 ls) rfl (a2.txt (⟨pa, b', d0, m0, r0, l0⟩, v') (List.mem_of_getElem? (hs _)))
 rw [List.set_set] at a3
 obtain ⟨a4, g4⟩ := a3.setF i _ (⟨pa, b', di, m0, r0, ls⟩, v') (hs _) 2 (by omega) (.bool di) rfl (a3.txt (⟨pa, b', d0, m0, r0, ls⟩, v') (List.mem_of_getElem? (hs _)))
 rw [List.set_set] at a4
 obtain ⟨a5, g5⟩ := a4.setF i _ (⟨pa, b', di, ma, r0, ls⟩, v') (hs _) 3 (by omega) (.bool ma) rfl (a4.txt (⟨pa, b', di, m0, r0, ls⟩, v') (List.mem_of_getElem? (hs _)))
 rw [List.set_set] at a5
 exact ⟨a5, g1.trans (g2.trans (g3.trans (g4.trans g5)))⟩
section
variable {W0 : World} {g n f pg : Nat} {T : Type} {Iw : T → (Nat → Prop) → World → Prop} {p : Pq} {s : T} {S : Nat → Prop} {w : World} {fn : Nat} {caps : Array Value} {O : IoF T}
theorem PV.fbox {fv : Value} (hF : IoOf W0 f pg fn caps Iw O) (h : PV W0 g n f pg fv Iw p s S w) : w.cell? ⟨g, 0, none⟩ = some (.pointer (some ⟨f, 0, none⟩)) ∧ g < w.heap.size ∧ Calls Tryz.prog 51 #[.pointer (some ⟨f, 0, none⟩)] w fun e w' => e = .returned (.int .i64 (pg : Nat)) ∧ w' = w := by
 obtain ⟨lb0, E0, K0, S10, S20, i10, i20, i30, i40, _⟩ := h
 exact ⟨i10.box.cell 0 _ rfl, i10.box.lt, hF.pages _ _ _ i40⟩
set_option maxRecDepth 100000 in
set_option maxHeartbeats 3200000 in
theorem put_good (hF : IoOf W0 f pg fn caps Iw O) (h : PV W0 g n f pg (.func (.func fn) #[] caps) Iw p s S w) (m : Int) (hm : 0 ≤ m ∧ m < (pg : Int)) (b : List UInt8) (hb : b.length = 512) (l : Int) (hl : 1 ≤ l) (v : Value) (hv : Reads 1 w v 512 (b.map B)) (hsl : ∀ k, v.ownBlock = some k → ¬ S k) (hwr : p.wr + 1 ≤ 1000000000) :
  Calls Tryz.prog 69 #[.pointer (some ⟨g, 0, none⟩), .int .i64 m, v, .int .i64 l] w fun e w' => ∃ S', e = .returned (.int .i64 (p.put O pg s m b l).1) ∧ PV W0 g n f pg (.func (.func fn) #[] caps) Iw (p.put O pg s m b l).2.1 (p.put O pg s m b l).2.2 S' w' ∧ Foot S S' w w' := by
 obtain ⟨av, cv, rfl, hlm, hvc, hvr⟩ := hv
 obtain ⟨bq, oq, rfl, hbq, hcell⟩ := hvr (by omega)
 have hv : Reads 1 w (.slice (some ⟨bq, oq, none⟩) 512 cv) 512 (b.map B) := ⟨_, _, rfl, hlm, hvc, fun _ => ⟨bq, oq, rfl, hbq, hcell⟩⟩
 have hob : ∀ k, (Value.slice (some ⟨bq, oq, none⟩) 512 cv).ownBlock = some k → k = bq := fun k e => (show bq = k from by simpa [Value.ownBlock] using e).symm
 have HRW := Lib.hid hv
 have HNS : Hid (¬ S bq) := Lib.hid (hsl bq rfl)
 have HBL := Lib.hid hb
 have HM := Lib.hid hm
 have hcall := find_pv hF h m
 have HF := Lib.hid hF
 have H6 := Lib.hid h.ok
 have hb1 : decide (m < 0) = false := by simp; omega
 have hb2 : decide (m ≥ (pg : Int)) = false := by simp; omega
 have hb3 : decide ((pg : Int) ≤ m) = false := by simp; omega
 have hb4 : decide (l < 1) = false := by simp; omega
 obtain ⟨ge0, gelt, hfbx⟩ := h.fbox hF
 have HBX := Lib.hid hfbx
 have HPG := Lib.hid (show 0 ≤ m ∧ m < (pg : Int) ∧ b.length = 512 ∧ 1 ≤ l from ⟨hm.1, hm.2, hb, hl⟩)
 clear hlm hvr hcell hv hsl hb hfbx
 cases hfl : findL p.F m with
 | some i =>
  rw [hfl] at hcall
  have hin : i < n := by have := findL_lt hfl; rw [H6.out.len] at this; exact this
  have HPE : Hid (p.put O pg s m b l = (0, p.putAt i m b l, s)) := Lib.hid (by unfold Pq.put; rw [if_pos HPG.out, hfl])
  have HC := Lib.hid hcall
  simp only [atI] at HC
  have hib : decide ((i : Int) < 0) = false := by simp
  clear hcall hF h hfl hm hl
  go_enter Tryz.func69, Tryz.ntmps69
  go_wp2_with fail
  refine HBX.out.mono ?_
  rintro e wh ⟨rfl, rfl⟩
  go_wp2_with fail
  refine HC.out.mono ?_
  rintro e y ⟨rfl, hpvy, hbl⟩
  have HFTY : Hid (Foot S S wh y) := Lib.hid (Foot.same (B := fun _ => False) (grow_below hbl) (fun _ h => h.elim))
  have HRY : Hid (Reads 1 y (.slice (some ⟨bq, oq, none⟩) 512 cv) 512 (b.map B)) := Lib.hid (HRW.out.growx (X := fun _ => False) (grow_below hbl) (fun _ _ h => h))
  have HNV := HNS
  have HLTY := Lib.hid (hpvy.lt HF.out)
  clear hbl ge0 gelt
  obtain ⟨lb, E, K, S1, S2, i1, i2, i3, i4, i5, i6, i7, i8, i9, rfl⟩ := hpvy
  have hiE : i < E.length := by have := i1.len; omega
  obtain ⟨e0, he0⟩ : ∃ e, E[i]? = some e := ⟨_, List.getElem?_eq_getElem hiE⟩
  have hxF : p.F[i]? = some e0.1 := by rw [← i5, List.getElem?_map, he0]; rfl
  obtain ⟨⟨pgx, bx, di, ma, rc, ls⟩, vb⟩ := e0
  have HXD : Hid (p.F.getD i Fm.free = ⟨pgx, bx, di, ma, rc, ls⟩) := Lib.hid (by rw [List.getD_eq_getElem?_getD, hxF]; rfl)
  have ge1 := i1.box.cell 1 _ rfl
  have gelt := i1.box.lt
  have x0 := i1.cell i _ he0 0 _ rfl
  have x2 := i1.cell i _ he0 2 _ rfl
  have x4 := i1.cell i _ he0 4 _ rfl
  rw [Nat.add_zero] at x0
  simp only at x0 x2 x4
  have lefz := i1.fzl
  have lelt := i1.ll.2
  have hgl := i1.gl
  have hn64 := i6.n64
  have J1 := Lib.hid i1
  have J2 := Lib.hid i2
  have J3 := Lib.hid i3
  have J4 := Lib.hid i4
  have J5 := Lib.hid i5
  have J6 := Lib.hid i6
  have J7 := Lib.hid i7
  have J8 := Lib.hid i8
  have J9 := Lib.hid i9
  have HE := Lib.hid he0
  have HIE := Lib.hid hiE
  clear i1 i2 i3 i4 i5 i6 i7 i8 i9 he0 hxF hiE
  by_cases hpm : pgx = m
  case neg =>
   have hq1 : (pgx != m) = true := by simpa using hpm
   have HPM := Lib.hid hpm
   clear hpm
   obtain ⟨a1, a2⟩ := J1.out.setF i _ (⟨pgx, bx, di, ma, l, ls⟩, vb) HE.out 4 (by omega) (.int .i64 l) rfl (J1.out.txt (⟨pgx, bx, di, ma, rc, ls⟩, vb) (List.mem_of_getElem? HE.out))
   have HA5 := Lib.hid a1
   have HG5 : Hid (GrowX (own3 g lb K) y _) := Lib.hid (a2.mono (fun k e => .inr (.inl e)))
   have HE5 : Hid ((E.set i (⟨pgx, bx, di, ma, l, ls⟩, vb))[i]? = some (⟨pgx, bx, di, ma, l, ls⟩, vb)) := Lib.hid (List.getElem?_set_self HIE.out)
   have HEM5 : Hid (∀ (z : Fm), ((E.set i (⟨pgx, bx, di, ma, l, ls⟩, vb)).map (·.1)).set i z = p.F.set i z) := Lib.hid (fun z => by rw [map_set_fst, J5.out, List.set_set])
   generalize E.set i (⟨pgx, bx, di, ma, l, ls⟩, vb) = E5 at HA5 HE5 HEM5
   clear a1 a2
   go_upto_region 12 with (fail)
   generalize hy5 : y.setCell ⟨lb, i * 6 + 4, none⟩ (.int .i64 l) = y5 at HA5 HG5 ⊢
   clear hy5
   have HR5 : Hid (Reads 1 y5 (.slice (some ⟨bq, oq, none⟩) 512 cv) 512 (b.map B)) := Lib.hid (HRY.out.growx HG5.out (fun k e hs => HNV.out (hob k e ▸ .inl hs)))
   obtain ⟨a0, c0, e0', _, _, hrd⟩ := HR5.out
   obtain ⟨b1, o1, e1', _, hcl⟩ := hrd (by omega)
   injection e0' with e2' e3' e4'
   rw [e1'] at e2'
   injection e2' with e5'
   injection e5' with e6' e7'
   subst e6' e7'
   have HCL := Lib.hid hcl
   clear hrd hcl e1' e3' e4'
   go_wp2_with (at_builtin; refine wpList_append_k bytesOf (.const (.slice none 0 0)) (.tmp 74) rfl rfl (base := y5.heap.size) rfl (World.ownsRow_nil _ _ _ _) (m := 512) (c := cv) rfl (by rw [List.length_map, HBL.out]) (news := b.map B) (by intro j u hu; rw [Addr.add_lit]; exact HCL.out j u hu) (Bs_one _) (by omega) (by omega) (by omega) (by omega) ?_; intro ob cp wq hownq hgrq horq; have hgx : GrowX (fun _ => False) y5 wq := GrowX.of_growC hgrq (fun k o h => by cases h.1); have hat6 := HA5.out.grow hgx (fun h => h) (fun h => h) (fun _ _ h => h); have x0 := hat6.cell i _ HE5.out 0 _ rfl; have x1 := hat6.cell i _ HE5.out 1 _ rfl; have x2 := hat6.cell i _ HE5.out 2 _ rfl; have x3 := hat6.cell i _ HE5.out 3 _ rfl; have x5 := hat6.cell i _ HE5.out 5 _ rfl; rw [Nat.add_zero] at x0; have lefz := hat6.fzl; have lelt := hat6.ll.2; simp only at x0 x1 x2 x3 x5; have HA6 := Lib.hid hat6; have HGX := Lib.hid hgx; have HOW := Lib.hid hownq; clear hownq hgrq horq hgx hat6)
   go_ret
   have hrow : wq.ownsRow y5.heap.size 5 1 (.slice (some ⟨ob, 0, none⟩) 512 cp) 512 (b.map B) := by have := HOW.out; simpa using this
   have hobl := hrow.lt ob rfl
   have hy5 := HG5.out.size
   have hobS : ∀ k, own3 g lb K k ∨ S1 k ∨ S2 k → k ≠ ob := fun k hk e => by have := (HLTY.out k hk).2; omega
   have hysW : W0.heap.size ≤ y.heap.size := J3.out.bel.size
   have hk6 := HA6.out.addK (fun k => K k ∨ k = ob) (fun k h => .inl h) (fun k h => h.imp id (fun e => by subst e; exact ⟨by omega, hobl.2, fun e2 => hobS g (.inl (.inl rfl)) e2.symm, fun e2 => hobS lb (.inl (.inr (.inl rfl))) e2.symm⟩))
   have hsec : SecAt wq (fun k => K k ∨ k = ob) b (.slice (some ⟨ob, 0, none⟩) 512 cp) := ⟨by rw [HBL.out]; exact Reads.of_own hrow, fun k e => .inr (by have e2 : ob = k := (by simpa [Value.ownBlock] using e); exact e2.symm)⟩
   obtain ⟨z1, z2⟩ := hk6.put5 i _ HE5.out m b (.slice (some ⟨ob, 0, none⟩) 512 cp) true true l hsec
   have hG : GrowX (own3 g lb (fun k => K k ∨ k = ob)) y _ := ((HG5.out.mono (Y := own3 g lb (fun k => K k ∨ k = ob)) (fun k h => h.elim .inl (fun h => h.elim (fun h => .inr (.inl h)) (fun h => .inr (.inr (.inl h)))))).step HGX.out (fun _ _ h => h.elim)).trans (z2.mono (fun k e => .inr (.inl e)))
   have hok : (Pq.mk ((E5.set i (⟨m, b, true, true, l, l⟩, .slice (some ⟨ob, 0, none⟩) 512 cp)).map (·.1)) p.hand p.wr).ok pg n := by
    refine ⟨by rw [List.length_map, List.length_set]; exact HA5.out.len, J6.out.n1, J6.out.n64, J6.out.hand, ?_, J6.out.wr⟩
    rw [map_set_fst, HEM5.out]
    exact J6.out.set i _ ⟨fun _ => ⟨HM.out.2, HBL.out⟩, fun _ => HM.out.1⟩
   have z3 := PV.again2 HF.out J2.out J1.out.ll.1 (fun k h => h.elim (fun h => (J1.out.kin k h).1) (fun e => by omega)) J3.out J4.out J7.out J8.out J9.out z1 hG (fun k h => h.imp id (fun e => by subst e; exact ⟨fun hs => hobS k (.inr (.inl hs)) rfl, fun hs => hobS k (.inr (.inr hs)) rfl⟩)) hok
   rw [map_set_fst, HEM5.out] at z3
   have hwy : wh.heap.size ≤ y.heap.size := HFTY.out.grow.size
   have hnew : ∀ k, own3 g lb (fun k => K k ∨ k = ob) k → (own3 g lb K k ∨ S1 k ∨ S2 k) ∨ wh.heap.size ≤ k := fun k h => h.elim (fun h => .inl (.inl (.inl h))) (fun h => h.elim (fun h => .inl (.inl (.inr (.inl h)))) (fun h => h.elim (fun h => .inl (.inl (.inr (.inr h)))) (fun e => .inr (by omega))))
   rw [HPE.out, Pq.putAt, HXD.out]
   rw [if_neg (fun h => HPM.out h.1)]
   have hfin := Foot.fin HFTY.out hG hnew (T := fun k => own3 g lb (fun k => K k ∨ k = ob) k ∨ S1 k ∨ S2 k) (fun k h => h.elim (hnew k) (fun h => .inl (.inr h)))
   first | exact ⟨rfl, _, z3, hfin⟩ | exact ⟨_, rfl, z3, hfin⟩
  cases di with
  | false =>
   obtain ⟨a1, a2⟩ := J1.out.setF i _ (⟨pgx, bx, false, ma, l, ls⟩, vb) HE.out 4 (by omega) (.int .i64 l) rfl (J1.out.txt (⟨pgx, bx, false, ma, rc, ls⟩, vb) (List.mem_of_getElem? HE.out))
   have HA5 := Lib.hid a1
   have HG5 : Hid (GrowX (own3 g lb K) y _) := Lib.hid (a2.mono (fun k e => .inr (.inl e)))
   have HE5 : Hid ((E.set i (⟨pgx, bx, false, ma, l, ls⟩, vb))[i]? = some (⟨pgx, bx, false, ma, l, ls⟩, vb)) := Lib.hid (List.getElem?_set_self HIE.out)
   have HEM5 : Hid (∀ (z : Fm), ((E.set i (⟨pgx, bx, false, ma, l, ls⟩, vb)).map (·.1)).set i z = p.F.set i z) := Lib.hid (fun z => by rw [map_set_fst, J5.out, List.set_set])
   have hq1 : (pgx != m) = false := by simpa using hpm
   have HPM := Lib.hid hpm
   clear hpm
   generalize E.set i (⟨pgx, bx, false, ma, l, ls⟩, vb) = E5 at HA5 HE5 HEM5
   clear a1 a2
   go_upto_region 12 with (fail)
   generalize hy5 : y.setCell ⟨lb, i * 6 + 4, none⟩ (.int .i64 l) = y5 at HA5 HG5 ⊢
   clear hy5
   have HR5 : Hid (Reads 1 y5 (.slice (some ⟨bq, oq, none⟩) 512 cv) 512 (b.map B)) := Lib.hid (HRY.out.growx HG5.out (fun k e hs => HNV.out (hob k e ▸ .inl hs)))
   obtain ⟨a0, c0, e0', _, _, hrd⟩ := HR5.out
   obtain ⟨b1, o1, e1', _, hcl⟩ := hrd (by omega)
   injection e0' with e2' e3' e4'
   rw [e1'] at e2'
   injection e2' with e5'
   injection e5' with e6' e7'
   subst e6' e7'
   have HCL := Lib.hid hcl
   clear hrd hcl e1' e3' e4'
   go_wp2_with (at_builtin; refine wpList_append_k bytesOf (.const (.slice none 0 0)) (.tmp 74) rfl rfl (base := y5.heap.size) rfl (World.ownsRow_nil _ _ _ _) (m := 512) (c := cv) rfl (by rw [List.length_map, HBL.out]) (news := b.map B) (by intro j u hu; rw [Addr.add_lit]; exact HCL.out j u hu) (Bs_one _) (by omega) (by omega) (by omega) (by omega) ?_; intro ob cp wq hownq hgrq horq; have hgx : GrowX (fun _ => False) y5 wq := GrowX.of_growC hgrq (fun k o h => by cases h.1); have hat6 := HA5.out.grow hgx (fun h => h) (fun h => h) (fun _ _ h => h); have x0 := hat6.cell i _ HE5.out 0 _ rfl; have x1 := hat6.cell i _ HE5.out 1 _ rfl; have x2 := hat6.cell i _ HE5.out 2 _ rfl; have x3 := hat6.cell i _ HE5.out 3 _ rfl; have x5 := hat6.cell i _ HE5.out 5 _ rfl; rw [Nat.add_zero] at x0; have lefz := hat6.fzl; have lelt := hat6.ll.2; simp only at x0 x1 x2 x3 x5; have HA6 := Lib.hid hat6; have HGX := Lib.hid hgx; have HOW := Lib.hid hownq; clear hownq hgrq horq hgx hat6)
   go_ret
   have hrow : wq.ownsRow y5.heap.size 5 1 (.slice (some ⟨ob, 0, none⟩) 512 cp) 512 (b.map B) := by have := HOW.out; simpa using this
   have hobl := hrow.lt ob rfl
   have hy5 := HG5.out.size
   have hobS : ∀ k, own3 g lb K k ∨ S1 k ∨ S2 k → k ≠ ob := fun k hk e => by have := (HLTY.out k hk).2; omega
   have hysW : W0.heap.size ≤ y.heap.size := J3.out.bel.size
   have hk6 := HA6.out.addK (fun k => K k ∨ k = ob) (fun k h => .inl h) (fun k h => h.imp id (fun e => by subst e; exact ⟨by omega, hobl.2, fun e2 => hobS g (.inl (.inl rfl)) e2.symm, fun e2 => hobS lb (.inl (.inr (.inl rfl))) e2.symm⟩))
   have hsec : SecAt wq (fun k => K k ∨ k = ob) b (.slice (some ⟨ob, 0, none⟩) 512 cp) := ⟨by rw [HBL.out]; exact Reads.of_own hrow, fun k e => .inr (by have e2 : ob = k := (by simpa [Value.ownBlock] using e); exact e2.symm)⟩
   obtain ⟨z1, z2⟩ := hk6.put5 i _ HE5.out m b (.slice (some ⟨ob, 0, none⟩) 512 cp) true true l hsec
   have hG : GrowX (own3 g lb (fun k => K k ∨ k = ob)) y _ := ((HG5.out.mono (Y := own3 g lb (fun k => K k ∨ k = ob)) (fun k h => h.elim .inl (fun h => h.elim (fun h => .inr (.inl h)) (fun h => .inr (.inr (.inl h)))))).step HGX.out (fun _ _ h => h.elim)).trans (z2.mono (fun k e => .inr (.inl e)))
   have hok : (Pq.mk ((E5.set i (⟨m, b, true, true, l, l⟩, .slice (some ⟨ob, 0, none⟩) 512 cp)).map (·.1)) p.hand p.wr).ok pg n := by
    refine ⟨by rw [List.length_map, List.length_set]; exact HA5.out.len, J6.out.n1, J6.out.n64, J6.out.hand, ?_, J6.out.wr⟩
    rw [map_set_fst, HEM5.out]
    exact J6.out.set i _ ⟨fun _ => ⟨HM.out.2, HBL.out⟩, fun _ => HM.out.1⟩
   have z3 := PV.again2 HF.out J2.out J1.out.ll.1 (fun k h => h.elim (fun h => (J1.out.kin k h).1) (fun e => by omega)) J3.out J4.out J7.out J8.out J9.out z1 hG (fun k h => h.imp id (fun e => by subst e; exact ⟨fun hs => hobS k (.inr (.inl hs)) rfl, fun hs => hobS k (.inr (.inr hs)) rfl⟩)) hok
   rw [map_set_fst, HEM5.out] at z3
   have hwy : wh.heap.size ≤ y.heap.size := HFTY.out.grow.size
   have hnew : ∀ k, own3 g lb (fun k => K k ∨ k = ob) k → (own3 g lb K k ∨ S1 k ∨ S2 k) ∨ wh.heap.size ≤ k := fun k h => h.elim (fun h => .inl (.inl (.inl h))) (fun h => h.elim (fun h => .inl (.inl (.inr (.inl h)))) (fun h => h.elim (fun h => .inl (.inl (.inr (.inr h)))) (fun e => .inr (by omega))))
   rw [HPE.out, Pq.putAt, HXD.out]
   rw [if_neg (fun h => by cases h.2)]
   have hfin := Foot.fin HFTY.out hG hnew (T := fun k => own3 g lb (fun k => K k ∨ k = ob) k ∨ S1 k ∨ S2 k) (fun k h => h.elim (hnew k) (fun h => .inl (.inr h)))
   first | exact ⟨rfl, _, z3, hfin⟩ | exact ⟨_, rfl, z3, hfin⟩
  | true =>
   have HA5 := J1
   have HG5 : Hid (GrowX (own3 g lb K) y y) := Lib.hid (GrowX.refl _)
   have HE5 := HE
   have HEM5 : Hid (∀ (z : Fm), (E.map (·.1)).set i z = p.F.set i z) := Lib.hid (fun z => by rw [J5.out])
   have hq1 : (pgx != m) = false := by simpa using hpm
   have HPM := Lib.hid hpm
   clear hpm
   go_upto_region 12 with (fail)
   have HR5 : Hid (Reads 1 y (.slice (some ⟨bq, oq, none⟩) 512 cv) 512 (b.map B)) := Lib.hid (HRY.out.growx HG5.out (fun k e hs => HNV.out (hob k e ▸ .inl hs)))
   obtain ⟨a0, c0, e0', _, _, hrd⟩ := HR5.out
   obtain ⟨b1, o1, e1', _, hcl⟩ := hrd (by omega)
   injection e0' with e2' e3' e4'
   rw [e1'] at e2'
   injection e2' with e5'
   injection e5' with e6' e7'
   subst e6' e7'
   have HCL := Lib.hid hcl
   clear hrd hcl e1' e3' e4'
   go_wp2_with (at_builtin; refine wpList_append_k bytesOf (.const (.slice none 0 0)) (.tmp 74) rfl rfl (base := y.heap.size) rfl (World.ownsRow_nil _ _ _ _) (m := 512) (c := cv) rfl (by rw [List.length_map, HBL.out]) (news := b.map B) (by intro j u hu; rw [Addr.add_lit]; exact HCL.out j u hu) (Bs_one _) (by omega) (by omega) (by omega) (by omega) ?_; intro ob cp wq hownq hgrq horq; have hgx : GrowX (fun _ => False) y wq := GrowX.of_growC hgrq (fun k o h => by cases h.1); have hat6 := HA5.out.grow hgx (fun h => h) (fun h => h) (fun _ _ h => h); have x0 := hat6.cell i _ HE5.out 0 _ rfl; have x1 := hat6.cell i _ HE5.out 1 _ rfl; have x2 := hat6.cell i _ HE5.out 2 _ rfl; have x3 := hat6.cell i _ HE5.out 3 _ rfl; have x5 := hat6.cell i _ HE5.out 5 _ rfl; rw [Nat.add_zero] at x0; have lefz := hat6.fzl; have lelt := hat6.ll.2; simp only at x0 x1 x2 x3 x5; have HA6 := Lib.hid hat6; have HGX := Lib.hid hgx; have HOW := Lib.hid hownq; clear hownq hgrq horq hgx hat6)
   go_ret
   have hrow : wq.ownsRow y.heap.size 5 1 (.slice (some ⟨ob, 0, none⟩) 512 cp) 512 (b.map B) := by have := HOW.out; simpa using this
   have hobl := hrow.lt ob rfl
   have hobS : ∀ k, own3 g lb K k ∨ S1 k ∨ S2 k → k ≠ ob := fun k hk e => by have := (HLTY.out k hk).2; omega
   have hysW : W0.heap.size ≤ y.heap.size := J3.out.bel.size
   have hk6 := HA6.out.addK (fun k => K k ∨ k = ob) (fun k h => .inl h) (fun k h => h.imp id (fun e => by subst e; exact ⟨by omega, hobl.2, fun e2 => hobS g (.inl (.inl rfl)) e2.symm, fun e2 => hobS lb (.inl (.inr (.inl rfl))) e2.symm⟩))
   have hsec : SecAt wq (fun k => K k ∨ k = ob) b (.slice (some ⟨ob, 0, none⟩) 512 cp) := ⟨by rw [HBL.out]; exact Reads.of_own hrow, fun k e => .inr (by have e2 : ob = k := (by simpa [Value.ownBlock] using e); exact e2.symm)⟩
   obtain ⟨z1, z2⟩ := hk6.put5 i _ HE5.out m b (.slice (some ⟨ob, 0, none⟩) 512 cp) true true l hsec
   have hG : GrowX (own3 g lb (fun k => K k ∨ k = ob)) y _ := ((HG5.out.mono (Y := own3 g lb (fun k => K k ∨ k = ob)) (fun k h => h.elim .inl (fun h => h.elim (fun h => .inr (.inl h)) (fun h => .inr (.inr (.inl h)))))).step HGX.out (fun _ _ h => h.elim)).trans (z2.mono (fun k e => .inr (.inl e)))
   have hok : (Pq.mk ((E.set i (⟨m, b, true, true, rc, l⟩, .slice (some ⟨ob, 0, none⟩) 512 cp)).map (·.1)) p.hand p.wr).ok pg n := by
    refine ⟨by rw [List.length_map, List.length_set]; exact HA5.out.len, J6.out.n1, J6.out.n64, J6.out.hand, ?_, J6.out.wr⟩
    rw [map_set_fst, HEM5.out]
    exact J6.out.set i _ ⟨fun _ => ⟨HM.out.2, HBL.out⟩, fun _ => HM.out.1⟩
   have z3 := PV.again2 HF.out J2.out J1.out.ll.1 (fun k h => h.elim (fun h => (J1.out.kin k h).1) (fun e => by omega)) J3.out J4.out J7.out J8.out J9.out z1 hG (fun k h => h.imp id (fun e => by subst e; exact ⟨fun hs => hobS k (.inr (.inl hs)) rfl, fun hs => hobS k (.inr (.inr hs)) rfl⟩)) hok
   rw [map_set_fst, HEM5.out] at z3
   have hwy : wh.heap.size ≤ y.heap.size := HFTY.out.grow.size
   have hnew : ∀ k, own3 g lb (fun k => K k ∨ k = ob) k → (own3 g lb K k ∨ S1 k ∨ S2 k) ∨ wh.heap.size ≤ k := fun k h => h.elim (fun h => .inl (.inl (.inl h))) (fun h => h.elim (fun h => .inl (.inl (.inr (.inl h)))) (fun h => h.elim (fun h => .inl (.inl (.inr (.inr h)))) (fun e => .inr (by omega))))
   rw [HPE.out, Pq.putAt, HXD.out]
   rw [if_pos ⟨HPM.out, rfl⟩]
   have hfin := Foot.fin HFTY.out hG hnew (T := fun k => own3 g lb (fun k => K k ∨ k = ob) k ∨ S1 k ∨ S2 k) (fun k h => h.elim (hnew k) (fun h => .inl (.inr h)))
   first | exact ⟨rfl, _, z3, hfin⟩ | exact ⟨_, rfl, z3, hfin⟩
 | none =>
  rw [hfl] at hcall
  obtain ⟨r, hr⟩ : ∃ r, p.free O s = r := ⟨_, rfl⟩
  have HRT : Hid (r.2.1 < n) := Lib.hid (by rw [← hr]; exact Pq.free_lt h.ok)
  have HPE0 : Hid (p.put O pg s m b l = if r.1 = 0 then (0, r.2.2.1.putAt r.2.1 m b l, r.2.2.2) else (r.1, r.2.2.1, r.2.2.2)) := Lib.hid (by unfold Pq.put; rw [if_pos HPG.out, hfl]; simp only [hr])
  have HR := Lib.hid hr
  have HLTS := Lib.hid (h.lt hF)
  have HC := Lib.hid hcall
  simp only [atI] at HC
  clear hcall hF h hfl hm hl hr
  go_enter Tryz.func69, Tryz.ntmps69
  go_wp2_with fail
  refine HBX.out.mono ?_
  rintro e wh ⟨rfl, rfl⟩
  go_wp2_with fail
  refine HC.out.mono ?_
  rintro e y2 ⟨rfl, hpv2, hbl⟩
  have hfree := free_pv HF.out hpv2 hwr
  rw [HR.out] at hfree
  have HFREE := Lib.hid hfree
  have HFT2 : Hid (Foot S S wh y2) := Lib.hid (Foot.same (B := fun _ => False) (grow_below hbl) (fun _ h => h.elim))
  obtain ⟨re, i, q, sq⟩ := r
  have hin : i < n := HRT.out
  clear hfree hbl ge0 gelt hpv2
  by_cases hre : re = 0
  case neg =>
   have hq1 : (re != 0) = true := by simpa using hre
   go_wp2_with fail
   refine HFREE.out.mono ?_
   rintro e y3 ⟨S3, rfl, hpv3, hft3⟩
   have HPV3 := Lib.hid hpv3
   have HFT3 := Lib.hid (HFT2.out.trans hft3)
   clear hpv3 hft3
   go_wp2_with fail
   go_ret
   rw [HPE0.out, if_neg hre]
   first | exact ⟨rfl, _, HPV3.out, HFT3.out⟩ | exact ⟨_, rfl, HPV3.out, HFT3.out⟩
  subst hre
  have HPE : Hid (p.put O pg s m b l = (0, q.putAt i m b l, sq)) := Lib.hid (by rw [HPE0.out]; exact if_pos rfl)
  have hib : decide ((i : Int) < 0) = false := by simp
  go_wp2_with fail
  refine HFREE.out.mono ?_
  rintro e y ⟨S3, rfl, hpvy, hft3⟩
  have HFTY := Lib.hid (HFT2.out.trans hft3)
  have HRY : Hid (Reads 1 y (.slice (some ⟨bq, oq, none⟩) 512 cv) 512 (b.map B)) := Lib.hid (HRW.out.growx HFTY.out.grow (fun k e hs => HNS.out (hob k e ▸ hs)))
  have HNV : Hid (¬ S3 bq) := Lib.hid (fun hs => (HFTY.out.new bq hs).elim HNS.out (fun e => by omega))
  have HLTY := Lib.hid (hpvy.lt HF.out)
  clear hft3 HPE0
  obtain ⟨lb, E, K, S1, S2, i1, i2, i3, i4, i5, i6, i7, i8, i9, rfl⟩ := hpvy
  have hiE : i < E.length := by have := i1.len; omega
  obtain ⟨e0, he0⟩ : ∃ e, E[i]? = some e := ⟨_, List.getElem?_eq_getElem hiE⟩
  have hxF : q.F[i]? = some e0.1 := by rw [← i5, List.getElem?_map, he0]; rfl
  obtain ⟨⟨pgx, bx, di, ma, rc, ls⟩, vb⟩ := e0
  have HXD : Hid (q.F.getD i Fm.free = ⟨pgx, bx, di, ma, rc, ls⟩) := Lib.hid (by rw [List.getD_eq_getElem?_getD, hxF]; rfl)
  have ge1 := i1.box.cell 1 _ rfl
  have gelt := i1.box.lt
  have x0 := i1.cell i _ he0 0 _ rfl
  have x2 := i1.cell i _ he0 2 _ rfl
  have x4 := i1.cell i _ he0 4 _ rfl
  rw [Nat.add_zero] at x0
  simp only at x0 x2 x4
  have lefz := i1.fzl
  have lelt := i1.ll.2
  have hgl := i1.gl
  have hn64 := i6.n64
  have J1 := Lib.hid i1
  have J2 := Lib.hid i2
  have J3 := Lib.hid i3
  have J4 := Lib.hid i4
  have J5 := Lib.hid i5
  have J6 := Lib.hid i6
  have J7 := Lib.hid i7
  have J8 := Lib.hid i8
  have J9 := Lib.hid i9
  have HE := Lib.hid he0
  have HIE := Lib.hid hiE
  clear i1 i2 i3 i4 i5 i6 i7 i8 i9 he0 hxF hiE
  by_cases hpm : pgx = m
  case neg =>
   have hq1 : (pgx != m) = true := by simpa using hpm
   have HPM := Lib.hid hpm
   clear hpm
   obtain ⟨a1, a2⟩ := J1.out.setF i _ (⟨pgx, bx, di, ma, l, ls⟩, vb) HE.out 4 (by omega) (.int .i64 l) rfl (J1.out.txt (⟨pgx, bx, di, ma, rc, ls⟩, vb) (List.mem_of_getElem? HE.out))
   have HA5 := Lib.hid a1
   have HG5 : Hid (GrowX (own3 g lb K) y _) := Lib.hid (a2.mono (fun k e => .inr (.inl e)))
   have HE5 : Hid ((E.set i (⟨pgx, bx, di, ma, l, ls⟩, vb))[i]? = some (⟨pgx, bx, di, ma, l, ls⟩, vb)) := Lib.hid (List.getElem?_set_self HIE.out)
   have HEM5 : Hid (∀ (z : Fm), ((E.set i (⟨pgx, bx, di, ma, l, ls⟩, vb)).map (·.1)).set i z = q.F.set i z) := Lib.hid (fun z => by rw [map_set_fst, J5.out, List.set_set])
   generalize E.set i (⟨pgx, bx, di, ma, l, ls⟩, vb) = E5 at HA5 HE5 HEM5
   clear a1 a2
   go_upto_region 12 with (fail)
   generalize hy5 : y.setCell ⟨lb, i * 6 + 4, none⟩ (.int .i64 l) = y5 at HA5 HG5 ⊢
   clear hy5
   have HR5 : Hid (Reads 1 y5 (.slice (some ⟨bq, oq, none⟩) 512 cv) 512 (b.map B)) := Lib.hid (HRY.out.growx HG5.out (fun k e hs => HNV.out (hob k e ▸ .inl hs)))
   obtain ⟨a0, c0, e0', _, _, hrd⟩ := HR5.out
   obtain ⟨b1, o1, e1', _, hcl⟩ := hrd (by omega)
   injection e0' with e2' e3' e4'
   rw [e1'] at e2'
   injection e2' with e5'
   injection e5' with e6' e7'
   subst e6' e7'
   have HCL := Lib.hid hcl
   clear hrd hcl e1' e3' e4'
   go_wp2_with (at_builtin; refine wpList_append_k bytesOf (.const (.slice none 0 0)) (.tmp 74) rfl rfl (base := y5.heap.size) rfl (World.ownsRow_nil _ _ _ _) (m := 512) (c := cv) rfl (by rw [List.length_map, HBL.out]) (news := b.map B) (by intro j u hu; rw [Addr.add_lit]; exact HCL.out j u hu) (Bs_one _) (by omega) (by omega) (by omega) (by omega) ?_; intro ob cp wq hownq hgrq horq; have hgx : GrowX (fun _ => False) y5 wq := GrowX.of_growC hgrq (fun k o h => by cases h.1); have hat6 := HA5.out.grow hgx (fun h => h) (fun h => h) (fun _ _ h => h); have x0 := hat6.cell i _ HE5.out 0 _ rfl; have x1 := hat6.cell i _ HE5.out 1 _ rfl; have x2 := hat6.cell i _ HE5.out 2 _ rfl; have x3 := hat6.cell i _ HE5.out 3 _ rfl; have x5 := hat6.cell i _ HE5.out 5 _ rfl; rw [Nat.add_zero] at x0; have lefz := hat6.fzl; have lelt := hat6.ll.2; simp only at x0 x1 x2 x3 x5; have HA6 := Lib.hid hat6; have HGX := Lib.hid hgx; have HOW := Lib.hid hownq; clear hownq hgrq horq hgx hat6)
   go_ret
   have hrow : wq.ownsRow y5.heap.size 5 1 (.slice (some ⟨ob, 0, none⟩) 512 cp) 512 (b.map B) := by have := HOW.out; simpa using this
   have hobl := hrow.lt ob rfl
   have hy5 := HG5.out.size
   have hobS : ∀ k, own3 g lb K k ∨ S1 k ∨ S2 k → k ≠ ob := fun k hk e => by have := (HLTY.out k hk).2; omega
   have hysW : W0.heap.size ≤ y.heap.size := J3.out.bel.size
   have hk6 := HA6.out.addK (fun k => K k ∨ k = ob) (fun k h => .inl h) (fun k h => h.imp id (fun e => by subst e; exact ⟨by omega, hobl.2, fun e2 => hobS g (.inl (.inl rfl)) e2.symm, fun e2 => hobS lb (.inl (.inr (.inl rfl))) e2.symm⟩))
   have hsec : SecAt wq (fun k => K k ∨ k = ob) b (.slice (some ⟨ob, 0, none⟩) 512 cp) := ⟨by rw [HBL.out]; exact Reads.of_own hrow, fun k e => .inr (by have e2 : ob = k := (by simpa [Value.ownBlock] using e); exact e2.symm)⟩
   obtain ⟨z1, z2⟩ := hk6.put5 i _ HE5.out m b (.slice (some ⟨ob, 0, none⟩) 512 cp) true true l hsec
   have hG : GrowX (own3 g lb (fun k => K k ∨ k = ob)) y _ := ((HG5.out.mono (Y := own3 g lb (fun k => K k ∨ k = ob)) (fun k h => h.elim .inl (fun h => h.elim (fun h => .inr (.inl h)) (fun h => .inr (.inr (.inl h)))))).step HGX.out (fun _ _ h => h.elim)).trans (z2.mono (fun k e => .inr (.inl e)))
   have hok : (Pq.mk ((E5.set i (⟨m, b, true, true, l, l⟩, .slice (some ⟨ob, 0, none⟩) 512 cp)).map (·.1)) q.hand q.wr).ok pg n := by
    refine ⟨by rw [List.length_map, List.length_set]; exact HA5.out.len, J6.out.n1, J6.out.n64, J6.out.hand, ?_, J6.out.wr⟩
    rw [map_set_fst, HEM5.out]
    exact J6.out.set i _ ⟨fun _ => ⟨HM.out.2, HBL.out⟩, fun _ => HM.out.1⟩
   have z3 := PV.again2 (s := sq) HF.out J2.out J1.out.ll.1 (fun k h => h.elim (fun h => (J1.out.kin k h).1) (fun e => by omega)) J3.out J4.out J7.out J8.out J9.out z1 hG (fun k h => h.imp id (fun e => by subst e; exact ⟨fun hs => hobS k (.inr (.inl hs)) rfl, fun hs => hobS k (.inr (.inr hs)) rfl⟩)) hok
   rw [map_set_fst, HEM5.out] at z3
   have hwy : wh.heap.size ≤ y.heap.size := HFTY.out.grow.size
   have hnew : ∀ k, own3 g lb (fun k => K k ∨ k = ob) k → (own3 g lb K k ∨ S1 k ∨ S2 k) ∨ wh.heap.size ≤ k := fun k h => h.elim (fun h => .inl (.inl (.inl h))) (fun h => h.elim (fun h => .inl (.inl (.inr (.inl h)))) (fun h => h.elim (fun h => .inl (.inl (.inr (.inr h)))) (fun e => .inr (by omega))))
   rw [HPE.out, Pq.putAt, HXD.out]
   rw [if_neg (fun h => HPM.out h.1)]
   have hfin := Foot.fin HFTY.out hG hnew (T := fun k => own3 g lb (fun k => K k ∨ k = ob) k ∨ S1 k ∨ S2 k) (fun k h => h.elim (hnew k) (fun h => .inl (.inr h)))
   first | exact ⟨rfl, _, z3, hfin⟩ | exact ⟨_, rfl, z3, hfin⟩
  cases di with
  | false =>
   obtain ⟨a1, a2⟩ := J1.out.setF i _ (⟨pgx, bx, false, ma, l, ls⟩, vb) HE.out 4 (by omega) (.int .i64 l) rfl (J1.out.txt (⟨pgx, bx, false, ma, rc, ls⟩, vb) (List.mem_of_getElem? HE.out))
   have HA5 := Lib.hid a1
   have HG5 : Hid (GrowX (own3 g lb K) y _) := Lib.hid (a2.mono (fun k e => .inr (.inl e)))
   have HE5 : Hid ((E.set i (⟨pgx, bx, false, ma, l, ls⟩, vb))[i]? = some (⟨pgx, bx, false, ma, l, ls⟩, vb)) := Lib.hid (List.getElem?_set_self HIE.out)
   have HEM5 : Hid (∀ (z : Fm), ((E.set i (⟨pgx, bx, false, ma, l, ls⟩, vb)).map (·.1)).set i z = q.F.set i z) := Lib.hid (fun z => by rw [map_set_fst, J5.out, List.set_set])
   have hq1 : (pgx != m) = false := by simpa using hpm
   have HPM := Lib.hid hpm
   clear hpm
   generalize E.set i (⟨pgx, bx, false, ma, l, ls⟩, vb) = E5 at HA5 HE5 HEM5
   clear a1 a2
   go_upto_region 12 with (fail)
   generalize hy5 : y.setCell ⟨lb, i * 6 + 4, none⟩ (.int .i64 l) = y5 at HA5 HG5 ⊢
   clear hy5
   have HR5 : Hid (Reads 1 y5 (.slice (some ⟨bq, oq, none⟩) 512 cv) 512 (b.map B)) := Lib.hid (HRY.out.growx HG5.out (fun k e hs => HNV.out (hob k e ▸ .inl hs)))
   obtain ⟨a0, c0, e0', _, _, hrd⟩ := HR5.out
   obtain ⟨b1, o1, e1', _, hcl⟩ := hrd (by omega)
   injection e0' with e2' e3' e4'
   rw [e1'] at e2'
   injection e2' with e5'
   injection e5' with e6' e7'
   subst e6' e7'
   have HCL := Lib.hid hcl
   clear hrd hcl e1' e3' e4'
   go_wp2_with (at_builtin; refine wpList_append_k bytesOf (.const (.slice none 0 0)) (.tmp 74) rfl rfl (base := y5.heap.size) rfl (World.ownsRow_nil _ _ _ _) (m := 512) (c := cv) rfl (by rw [List.length_map, HBL.out]) (news := b.map B) (by intro j u hu; rw [Addr.add_lit]; exact HCL.out j u hu) (Bs_one _) (by omega) (by omega) (by omega) (by omega) ?_; intro ob cp wq hownq hgrq horq; have hgx : GrowX (fun _ => False) y5 wq := GrowX.of_growC hgrq (fun k o h => by cases h.1); have hat6 := HA5.out.grow hgx (fun h => h) (fun h => h) (fun _ _ h => h); have x0 := hat6.cell i _ HE5.out 0 _ rfl; have x1 := hat6.cell i _ HE5.out 1 _ rfl; have x2 := hat6.cell i _ HE5.out 2 _ rfl; have x3 := hat6.cell i _ HE5.out 3 _ rfl; have x5 := hat6.cell i _ HE5.out 5 _ rfl; rw [Nat.add_zero] at x0; have lefz := hat6.fzl; have lelt := hat6.ll.2; simp only at x0 x1 x2 x3 x5; have HA6 := Lib.hid hat6; have HGX := Lib.hid hgx; have HOW := Lib.hid hownq; clear hownq hgrq horq hgx hat6)
   go_ret
   have hrow : wq.ownsRow y5.heap.size 5 1 (.slice (some ⟨ob, 0, none⟩) 512 cp) 512 (b.map B) := by have := HOW.out; simpa using this
   have hobl := hrow.lt ob rfl
   have hy5 := HG5.out.size
   have hobS : ∀ k, own3 g lb K k ∨ S1 k ∨ S2 k → k ≠ ob := fun k hk e => by have := (HLTY.out k hk).2; omega
   have hysW : W0.heap.size ≤ y.heap.size := J3.out.bel.size
   have hk6 := HA6.out.addK (fun k => K k ∨ k = ob) (fun k h => .inl h) (fun k h => h.imp id (fun e => by subst e; exact ⟨by omega, hobl.2, fun e2 => hobS g (.inl (.inl rfl)) e2.symm, fun e2 => hobS lb (.inl (.inr (.inl rfl))) e2.symm⟩))
   have hsec : SecAt wq (fun k => K k ∨ k = ob) b (.slice (some ⟨ob, 0, none⟩) 512 cp) := ⟨by rw [HBL.out]; exact Reads.of_own hrow, fun k e => .inr (by have e2 : ob = k := (by simpa [Value.ownBlock] using e); exact e2.symm)⟩
   obtain ⟨z1, z2⟩ := hk6.put5 i _ HE5.out m b (.slice (some ⟨ob, 0, none⟩) 512 cp) true true l hsec
   have hG : GrowX (own3 g lb (fun k => K k ∨ k = ob)) y _ := ((HG5.out.mono (Y := own3 g lb (fun k => K k ∨ k = ob)) (fun k h => h.elim .inl (fun h => h.elim (fun h => .inr (.inl h)) (fun h => .inr (.inr (.inl h)))))).step HGX.out (fun _ _ h => h.elim)).trans (z2.mono (fun k e => .inr (.inl e)))
   have hok : (Pq.mk ((E5.set i (⟨m, b, true, true, l, l⟩, .slice (some ⟨ob, 0, none⟩) 512 cp)).map (·.1)) q.hand q.wr).ok pg n := by
    refine ⟨by rw [List.length_map, List.length_set]; exact HA5.out.len, J6.out.n1, J6.out.n64, J6.out.hand, ?_, J6.out.wr⟩
    rw [map_set_fst, HEM5.out]
    exact J6.out.set i _ ⟨fun _ => ⟨HM.out.2, HBL.out⟩, fun _ => HM.out.1⟩
   have z3 := PV.again2 (s := sq) HF.out J2.out J1.out.ll.1 (fun k h => h.elim (fun h => (J1.out.kin k h).1) (fun e => by omega)) J3.out J4.out J7.out J8.out J9.out z1 hG (fun k h => h.imp id (fun e => by subst e; exact ⟨fun hs => hobS k (.inr (.inl hs)) rfl, fun hs => hobS k (.inr (.inr hs)) rfl⟩)) hok
   rw [map_set_fst, HEM5.out] at z3
   have hwy : wh.heap.size ≤ y.heap.size := HFTY.out.grow.size
   have hnew : ∀ k, own3 g lb (fun k => K k ∨ k = ob) k → (own3 g lb K k ∨ S1 k ∨ S2 k) ∨ wh.heap.size ≤ k := fun k h => h.elim (fun h => .inl (.inl (.inl h))) (fun h => h.elim (fun h => .inl (.inl (.inr (.inl h)))) (fun h => h.elim (fun h => .inl (.inl (.inr (.inr h)))) (fun e => .inr (by omega))))
   rw [HPE.out, Pq.putAt, HXD.out]
   rw [if_neg (fun h => by cases h.2)]
   have hfin := Foot.fin HFTY.out hG hnew (T := fun k => own3 g lb (fun k => K k ∨ k = ob) k ∨ S1 k ∨ S2 k) (fun k h => h.elim (hnew k) (fun h => .inl (.inr h)))
   first | exact ⟨rfl, _, z3, hfin⟩ | exact ⟨_, rfl, z3, hfin⟩
  | true =>
   have HA5 := J1
   have HG5 : Hid (GrowX (own3 g lb K) y y) := Lib.hid (GrowX.refl _)
   have HE5 := HE
   have HEM5 : Hid (∀ (z : Fm), (E.map (·.1)).set i z = q.F.set i z) := Lib.hid (fun z => by rw [J5.out])
   have hq1 : (pgx != m) = false := by simpa using hpm
   have HPM := Lib.hid hpm
   clear hpm
   go_upto_region 12 with (fail)
   have HR5 : Hid (Reads 1 y (.slice (some ⟨bq, oq, none⟩) 512 cv) 512 (b.map B)) := Lib.hid (HRY.out.growx HG5.out (fun k e hs => HNV.out (hob k e ▸ .inl hs)))
   obtain ⟨a0, c0, e0', _, _, hrd⟩ := HR5.out
   obtain ⟨b1, o1, e1', _, hcl⟩ := hrd (by omega)
   injection e0' with e2' e3' e4'
   rw [e1'] at e2'
   injection e2' with e5'
   injection e5' with e6' e7'
   subst e6' e7'
   have HCL := Lib.hid hcl
   clear hrd hcl e1' e3' e4'
   go_wp2_with (at_builtin; refine wpList_append_k bytesOf (.const (.slice none 0 0)) (.tmp 74) rfl rfl (base := y.heap.size) rfl (World.ownsRow_nil _ _ _ _) (m := 512) (c := cv) rfl (by rw [List.length_map, HBL.out]) (news := b.map B) (by intro j u hu; rw [Addr.add_lit]; exact HCL.out j u hu) (Bs_one _) (by omega) (by omega) (by omega) (by omega) ?_; intro ob cp wq hownq hgrq horq; have hgx : GrowX (fun _ => False) y wq := GrowX.of_growC hgrq (fun k o h => by cases h.1); have hat6 := HA5.out.grow hgx (fun h => h) (fun h => h) (fun _ _ h => h); have x0 := hat6.cell i _ HE5.out 0 _ rfl; have x1 := hat6.cell i _ HE5.out 1 _ rfl; have x2 := hat6.cell i _ HE5.out 2 _ rfl; have x3 := hat6.cell i _ HE5.out 3 _ rfl; have x5 := hat6.cell i _ HE5.out 5 _ rfl; rw [Nat.add_zero] at x0; have lefz := hat6.fzl; have lelt := hat6.ll.2; simp only at x0 x1 x2 x3 x5; have HA6 := Lib.hid hat6; have HGX := Lib.hid hgx; have HOW := Lib.hid hownq; clear hownq hgrq horq hgx hat6)
   go_ret
   have hrow : wq.ownsRow y.heap.size 5 1 (.slice (some ⟨ob, 0, none⟩) 512 cp) 512 (b.map B) := by have := HOW.out; simpa using this
   have hobl := hrow.lt ob rfl
   have hobS : ∀ k, own3 g lb K k ∨ S1 k ∨ S2 k → k ≠ ob := fun k hk e => by have := (HLTY.out k hk).2; omega
   have hysW : W0.heap.size ≤ y.heap.size := J3.out.bel.size
   have hk6 := HA6.out.addK (fun k => K k ∨ k = ob) (fun k h => .inl h) (fun k h => h.imp id (fun e => by subst e; exact ⟨by omega, hobl.2, fun e2 => hobS g (.inl (.inl rfl)) e2.symm, fun e2 => hobS lb (.inl (.inr (.inl rfl))) e2.symm⟩))
   have hsec : SecAt wq (fun k => K k ∨ k = ob) b (.slice (some ⟨ob, 0, none⟩) 512 cp) := ⟨by rw [HBL.out]; exact Reads.of_own hrow, fun k e => .inr (by have e2 : ob = k := (by simpa [Value.ownBlock] using e); exact e2.symm)⟩
   obtain ⟨z1, z2⟩ := hk6.put5 i _ HE5.out m b (.slice (some ⟨ob, 0, none⟩) 512 cp) true true l hsec
   have hG : GrowX (own3 g lb (fun k => K k ∨ k = ob)) y _ := ((HG5.out.mono (Y := own3 g lb (fun k => K k ∨ k = ob)) (fun k h => h.elim .inl (fun h => h.elim (fun h => .inr (.inl h)) (fun h => .inr (.inr (.inl h)))))).step HGX.out (fun _ _ h => h.elim)).trans (z2.mono (fun k e => .inr (.inl e)))
   have hok : (Pq.mk ((E.set i (⟨m, b, true, true, rc, l⟩, .slice (some ⟨ob, 0, none⟩) 512 cp)).map (·.1)) q.hand q.wr).ok pg n := by
    refine ⟨by rw [List.length_map, List.length_set]; exact HA5.out.len, J6.out.n1, J6.out.n64, J6.out.hand, ?_, J6.out.wr⟩
    rw [map_set_fst, HEM5.out]
    exact J6.out.set i _ ⟨fun _ => ⟨HM.out.2, HBL.out⟩, fun _ => HM.out.1⟩
   have z3 := PV.again2 (s := sq) HF.out J2.out J1.out.ll.1 (fun k h => h.elim (fun h => (J1.out.kin k h).1) (fun e => by omega)) J3.out J4.out J7.out J8.out J9.out z1 hG (fun k h => h.imp id (fun e => by subst e; exact ⟨fun hs => hobS k (.inr (.inl hs)) rfl, fun hs => hobS k (.inr (.inr hs)) rfl⟩)) hok
   rw [map_set_fst, HEM5.out] at z3
   have hwy : wh.heap.size ≤ y.heap.size := HFTY.out.grow.size
   have hnew : ∀ k, own3 g lb (fun k => K k ∨ k = ob) k → (own3 g lb K k ∨ S1 k ∨ S2 k) ∨ wh.heap.size ≤ k := fun k h => h.elim (fun h => .inl (.inl (.inl h))) (fun h => h.elim (fun h => .inl (.inl (.inr (.inl h)))) (fun h => h.elim (fun h => .inl (.inl (.inr (.inr h)))) (fun e => .inr (by omega))))
   rw [HPE.out, Pq.putAt, HXD.out]
   rw [if_pos ⟨HPM.out, rfl⟩]
   have hfin := Foot.fin HFTY.out hG hnew (T := fun k => own3 g lb (fun k => K k ∨ k = ob) k ∨ S1 k ∨ S2 k) (fun k h => h.elim (hnew k) (fun h => .inl (.inr h)))
   first | exact ⟨rfl, _, z3, hfin⟩ | exact ⟨_, rfl, z3, hfin⟩
end
end
end Go.Proofs.YtpajagkhmodbnaaGreat

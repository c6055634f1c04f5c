/- The pool: its plain state, its blocks. Conditions: none. -/
import Derived.Test.YtdnjjdpenfhpeaaFlOpen
import Derived.Test.YtdnjjdpenfhpeaaShelf
namespace Go.Proofs.Ytdnjjdpenfhpeaa
set_option linter.unusedSimpArgs false
set_option linter.unusedVariables false
open Go.RowKit

/-- a frame -/
structure Fm where
  page : Int
  b : List UInt8
  dirty : Bool
  marked : Bool
  rc : Int
  lsn : Int
instance : Inhabited Fm := ⟨⟨-1, [], false, false, 0, 0⟩⟩
def Fm.free : Fm := ⟨-1, [], false, false, 0, 0⟩
abbrev Fe := Fm × Value
def encF (e : Fe) : List Value := [.int .i64 e.1.page, e.2, .bool e.1.dirty, .bool e.1.marked, .int .i64 e.1.rc, .int .i64 e.1.lsn]
def fcells (E : List Fe) : List Value := E.flatMap encF
theorem fcells_length (E : List Fe) : (fcells E).length = E.length * 6 := by
  induction E with
  | nil => rfl
  | cons a r ih => simp only [fcells, List.flatMap_cons, List.length_append, List.length_cons, encF, List.length_nil] at *; omega
theorem flat_at {α : Type} [Inhabited α] (enc : α → List Value) (K : Nat) (hk : ∀ x, (enc x).length = K) (l : List α) (j : Nat) (hj : j < l.length) (i : Nat) (v : Value) (h : (enc l[j]!)[i]? = some v) : (l.flatMap enc)[j * K + i]? = some v := by
  induction l generalizing j with
  | nil => simp at hj
  | cons x r ih =>
    have hi : i < K := by rw [← hk (x :: r)[j]!]; exact (List.getElem?_eq_some_iff.1 h).1
    cases j with
    | zero =>
      simp only [List.flatMap_cons]
      rw [Nat.zero_mul, Nat.zero_add, List.getElem?_append_left (by rw [hk]; exact hi)]
      simpa using h
    | succ j =>
      simp only [List.flatMap_cons]
      rw [List.getElem?_append_right (by rw [hk, Nat.succ_mul]; omega), hk]
      have e : (j + 1) * K + i - K = j * K + i := by rw [Nat.succ_mul]; omega
      rw [e]
      exact ih j (by simpa using hj) (by simpa using h)
theorem fcells_at (E : List Fe) (i : Nat) (e : Fe) (h : E[i]? = some e) (j : Nat) (v : Value) (hv : (encF e)[j]? = some v) : (fcells E)[i * 6 + j]? = some v := by
  obtain ⟨hi, he⟩ := List.getElem?_eq_some_iff.1 h
  exact flat_at encF 6 (fun _ => rfl) E i hi j v (by rw [getElem!_pos E i hi, he]; exact hv)
/-- one cell of a frame written -/
theorem fcells_set (E : List Fe) (i : Nat) (e e' : Fe) (h : E[i]? = some e) (j : Nat) (hj : j < 6) (v : Value) (hv : encF e' = (encF e).set j v) : fcells (E.set i e') = (fcells E).set (i * 6 + j) v := by
  induction E generalizing i with
  | nil => simp at h
  | cons x r ih =>
    cases i with
    | zero =>
      simp at h
      subst h
      simp only [fcells, List.set_cons_zero, List.flatMap_cons, hv, Nat.zero_mul, Nat.zero_add]
      rw [List.set_append_left _ _ (by simp [encF]; exact hj)]
    | succ i =>
      simp only [List.set_cons_succ]
      have := ih i (by simpa using h)
      simp only [fcells, List.flatMap_cons] at *
      rw [List.set_append_right _ _ (by simp [encF]; omega), this]
      congr 2
      simp [encF]; omega
/-- a pool's plain state: its frames, the hand, how many pages were written, the pages on the device -/
structure Pl where
  F : List Fm
  hand : Nat
  wr : Nat
  P : Nat → List UInt8
def Fm.ok (pg : Nat) (x : Fm) : Prop := (0 ≤ x.page → x.page < (pg : Int) ∧ x.b.length = 512) ∧ (x.dirty = true → 0 ≤ x.page)
structure Pl.ok (p : Pl) (pg n : Nat) : Prop where
  len : p.F.length = n
  n1 : 1 ≤ n
  n64 : n ≤ 64
  hand : p.hand < n
  fr : ∀ x ∈ p.F, x.ok pg
  wr : p.wr ≤ 1000000000
/-- the pool's own blocks: g, the row at lb, the contents K -/
structure PoolAt (w : World) (G g lb n f : Nat) (fv : Value) (E : List Fe) (hand wr : Nat) (K : Nat → Prop) : Prop where
  box : Box w g [.pointer (some ⟨f, 0, none⟩), .slice (some ⟨lb, 0, none⟩) n n, fv, .int .i64 (hand : Nat), .int .i64 (wr : Nat)]
  row : w.ownsRow G 81 6 (.slice (some ⟨lb, 0, none⟩) n n) n (fcells E)
  len : E.length = n
  txt : ∀ e ∈ E, SecAt w K e.1.b e.2
  kin : ∀ k, K k → G ≤ k ∧ k < w.heap.size
  kg : ¬ K g
  kl : ¬ K lb
  gl : g ≠ lb
theorem PoolAt.ll {w : World} {G g lb n f : Nat} {fv : Value} {E : List Fe} {hand wr : Nat} {K : Nat → Prop} (h : PoolAt w G g lb n f fv E hand wr K) : G ≤ lb ∧ lb < w.heap.size := h.row.lt lb rfl
theorem PoolAt.grow {X : Nat → Prop} {w w' : World} {G g lb n f : Nat} {fv : Value} {E : List Fe} {hand wr : Nat} {K : Nat → Prop} (h : PoolAt w G g lb n f fv E hand wr K) (hg : GrowX X w w') (h1 : ¬ X g) (h2 : ¬ X lb) (h3 : ∀ k, K k → ¬ X k) : PoolAt w' G g lb n f fv E hand wr K :=
  ⟨h.box.growx hg h1, own_growx h.row hg (fun q e => by have e2 : lb = q := (by simpa [Value.ownBlock] using e); exact e2 ▸ h2), h.len, fun e he => (h.txt e he).grow hg h3, fun k hk => ⟨(h.kin k hk).1, Nat.lt_of_lt_of_le (h.kin k hk).2 hg.size⟩, h.kg, h.kl, h.gl⟩
/-- its cells at frame i -/
theorem PoolAt.cell {w : World} {G g lb n f : Nat} {fv : Value} {E : List Fe} {hand wr : Nat} {K : Nat → Prop} (h : PoolAt w G g lb n f fv E hand wr K) (i : Nat) (e : Fe) (he : E[i]? = some e) (j : Nat) (v : Value) (hv : (encF e)[j]? = some v) : w.cell? ⟨lb, i * 6 + j, none⟩ = some v := by
  obtain ⟨a0, c0, e0, _, _, hr⟩ := Reads.of_own h.row
  have hi := (List.getElem?_eq_some_iff.1 he).1
  obtain ⟨b1, o1, e1, h1, h2⟩ := hr (by have := h.len; omega)
  injection e0 with e2 e3 e4
  rw [e1] at e2
  injection e2 with e5
  injection e5 with e6 e7
  subst e6 e7
  have := h2 _ _ (fcells_at E i e he j v hv)
  rwa [Nat.zero_add] at this
theorem PoolAt.fzl {w : World} {G g lb n f : Nat} {fv : Value} {E : List Fe} {hand wr : Nat} {K : Nat → Prop} (h : PoolAt w G g lb n f fv E hand wr K) (o : Nat) : w.frozen? ⟨lb, o, none⟩ = false := own_free h.row rfl o
def own3 (g lb : Nat) (K : Nat → Prop) : Nat → Prop := fun k => k = g ∨ k = lb ∨ K k
/-- what a pool forces: its closure, what it keeps -/
structure ForceOf (W0 : World) (fn : Nat) (caps : Array Value) {St : Type} (FI : St → (Nat → Prop) → World → Prop) (step : St → Int → Int × St) (okS : St → Prop) : Prop where
  enter : ∀ args w, (callFunc fn args).run Try.prog w = .ok (.enter fn args) w
  ans : ∀ s S w l, FI s S w → okS s → Calls Try.prog fn (#[.int .i64 l] ++ caps) w fun e w' => ∃ S', e = .returned (.int .i64 (step s l).1) ∧ FI (step s l).2 S' w' ∧ Foot S S' w w'
  grow : ∀ s S X w w', FI s S w → GrowX X w w' → Disj S X → Below W0.heap.size W0 w' → FI s S w'
  lt : ∀ s S w, FI s S w → ∀ k, S k → W0.heap.size ≤ k ∧ k < w.heap.size
  bel : ∀ s S w, FI s S w → Below W0.heap.size W0 w
/-- a pool at g over a file at f -/
def PV (W0 : World) (g n f d fr pg : Nat) (fv : Value) {St : Type} (FI : St → (Nat → Prop) → World → Prop) (p : Pl) (s : St) (S : Nat → Prop) (w : World) : Prop :=
  ∃ lb E K S1 S2, PoolAt w W0.heap.size g lb n f fv E p.hand p.wr K ∧ W0.heap.size ≤ g ∧ FV W0 f d fr pg p.P S1 w ∧ FI s S2 w ∧ E.map (·.1) = p.F ∧ p.ok pg n ∧ Disj (own3 g lb K) S1 ∧ Disj (own3 g lb K) S2 ∧ Disj S1 S2 ∧ S = fun k => own3 g lb K k ∨ S1 k ∨ S2 k
section
variable {W0 : World} {g n f d fr pg : Nat} {fv : Value} {St : Type} {FI : St → (Nat → Prop) → World → Prop} {p : Pl} {s : St} {S : Nat → Prop} {w : World} {fn : Nat} {caps : Array Value} {step : St → Int → Int × St} {okS : St → Prop}
theorem PV.bel (h : PV W0 g n f d fr pg fv FI p s S w) : Below W0.heap.size W0 w := by
  obtain ⟨lb, E, K, S1, S2, h1, h2, h3, h4, h5, h6, h7, h8, h9, rfl⟩ := h
  exact h3.bel
theorem PV.ok (h : PV W0 g n f d fr pg fv FI p s S w) : p.ok pg n := by
  obtain ⟨lb, E, K, S1, S2, h1, h2, h3, h4, h5, h6, h7, h8, h9, rfl⟩ := h
  exact h6
theorem PV.lt (hF : ForceOf W0 fn caps FI step okS) (h : PV W0 g n f d fr pg fv FI p s S w) : ∀ k, S k → W0.heap.size ≤ k ∧ k < w.heap.size := by
  obtain ⟨lb, E, K, S1, S2, h1, h2, h3, h4, h5, h6, h7, h8, h9, rfl⟩ := h
  rintro k ((rfl | rfl | hk) | hk | hk)
  · exact ⟨h2, h1.box.lt⟩
  · exact h1.ll
  · exact h1.kin k hk
  · exact h3.lt k hk
  · exact hF.lt _ _ _ h4 k hk
theorem PV.grow {X : Nat → Prop} {w' : World} (hF : ForceOf W0 fn caps FI step okS) (h : PV W0 g n f d fr pg fv FI p s S w) (hg : GrowX X w w') (hX : Disj S X) (hB : Below W0.heap.size W0 w') : PV W0 g n f d fr pg fv FI p s S w' := by
  obtain ⟨lb, E, K, S1, S2, h1, h2, h3, h4, h5, h6, h7, h8, h9, rfl⟩ := h
  exact ⟨lb, E, K, S1, S2, h1.grow hg (fun h => hX g (.inl (.inl rfl)) h) (fun h => hX lb (.inl (.inr (.inl rfl))) h) (fun k hk h => hX k (.inl (.inr (.inr hk))) h), h2,
    h3.grow hg (fun k hk h => hX k (.inr (.inl hk)) h) hB, hF.grow _ _ _ _ _ h4 hg (fun k hk h => hX k (.inr (.inr hk)) h) hB, h5, h6, h7, h8, h9, rfl⟩
theorem PV.below {w' : World} (hF : ForceOf W0 fn caps FI step okS) (h : PV W0 g n f d fr pg fv FI p s S w) (hb : Below w.heap.size w w') : PV W0 g n f d fr pg fv FI p s S w' :=
  h.grow hF (X := fun _ => False) (grow_below hb) (fun _ _ h => h) (h.bel.trans (hb.mono h.bel.size))
end
end Go.Proofs.Ytdnjjdpenfhpeaa

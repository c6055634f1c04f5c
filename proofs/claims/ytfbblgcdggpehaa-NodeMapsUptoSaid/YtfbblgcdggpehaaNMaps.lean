/- The walk of NodeMaps: true at all keys and marks. Conditions: short lists. -/
import Derived.Test.YtfbblgcdggpehaaNRow
import Derived.Deep.DeepCutAuto
import Derived.Deep.CutBlock
import Derived.Test.YtfbblgcdggpehaaPartsV
import Derived.Laws.IdiomStrings
namespace Go.Proofs.Ytfbblgcdggpehaa
set_option linter.unusedSimpArgs false
set_option linter.unusedVariables false
open Go.RowKit

def Bo (b : Bool) : Value := .bool b
theorem XR.turnB {G : Nat} {u u' : World} {va vb : Value} {q : World → Prop} (h : Kept (XR G va vb) u q) (hg : Grow u u') {g1 n c : Nat} (h1 : u.heap.size ≤ g1) : Kept (XR G va (.slice (some ⟨g1, 0, none⟩) n c)) u' q :=
  Kept.turn h (GrowX.of_grow hg) (fun k hk => by
    rcases hk with hk | hk | hk
    · exact .inl (.inl hk)
    · exact .inl (.inr (.inl hk))
    · have : g1 = k := by simpa [Value.ownBlock] using hk
      exact .inr (by omega))
theorem reads_bytesRow {w : World} {g cap e : Nat} {f : Nat × Nat} (l : List UInt8) (hg : g = w.heap.size) (hc : l.length ≤ cap) :
    Reads 1 (w.alloc (.cells (bytesRow ⟨l.toArray⟩ cap) e f)) (.slice (some ⟨g, 0, none⟩) l.length cap) l.length (l.map B) := by
  subst hg
  refine ⟨_, _, rfl, by simp, hc, fun _ => ⟨_, 0, rfl, by simp, fun j u hu => ?_⟩⟩
  have hh : (w.alloc (.cells (bytesRow ⟨l.toArray⟩ cap) e f)).heap[w.heap.size]? = some (.cells (bytesRow ⟨l.toArray⟩ cap) e f) := heap_alloc_new w _
  rw [List.getElem?_map] at hu
  obtain ⟨b, hb, rfl⟩ := Option.map_eq_some_iff.mp hu
  obtain ⟨hj, rfl⟩ := List.getElem?_eq_some_iff.mp hb
  simp only [World.cell?, hh]
  have := bytesRow_at ⟨l.toArray⟩ cap j (by simpa using hj)
  simpa [B] using this
theorem wpList_append_lit {P : Program} {w : World} {ops : Array Oper} {rest : List Oper} {o : Oper} {a : Act} {Q : Exit → Act → World → Prop}
    {t e : TypeId} {z : Value} {bytes : Nat} (T : SliceOf P t e z 1 bytes) (s x : Operand) (hgd : o.guard = none)
    (ho : o.op = .call { callee := .builtin .append, args := #[s, x], argTypes := #[t, t] })
    {base kb : Nat} (hs : a.eval s = .slice (some ⟨kb, 0, none⟩) 0 0) (hown : w.ownsRow base e 1 (.slice (some ⟨kb, 0, none⟩) 0 0) 0 [])
    {ao2 : Option Addr} {m c2 : Nat} {ys : List Value} (hx : a.eval x = .slice ao2 m c2) (hr2 : Reads 1 w (.slice ao2 m c2) m ys) (h1 : ∀ u ∈ ys, u.oneCell' = true)
    (h63 : 0 + m ≤ 1152921504606846976) (hbytes : (0 + m) * bytes ≤ 140737488355328) (hbase : base ≤ w.heap.size)
    (h : ∀ g c' w', 0 + m ≤ c' → Grow w w' → (g = kb ∨ w.heap.size ≤ g) → w'.ownsRow base e 1 (.slice (some ⟨g, 0, none⟩) (0 + m) c') (0 + m) ([] ++ ys) →
      wpList P ops Q rest (a.put o.dst (.slice (some ⟨g, 0, none⟩) (0 + m) c')) w') : wpList P ops Q (o :: rest) a w := by
  obtain ⟨ao1, c1, w1, hrun1, _, hgr1, _⟩ := run_append_full (P := P) T o.type (n := 0) (Reads.of_own hown) hr2 h1 h63 hbytes
  obtain ⟨g, c', w', hrun, hle, hgr, hor, hown'⟩ := run_append_own3 (P := P) T o.type hown hr2 h1 h63 hbytes hbase
  have hw : w1 = w' := by
    rw [hrun1] at hrun
    injection hrun
  subst hw
  refine wpList_plain hgd fun K hK => ?_
  unfold Oper.wp
  simp only [execOp, ho, resolve, invoke, builtin, hs, hx, hrun, Result.andThen]
  simp [hs, hx, hrun, Result.andThen]
  have h2 := h g c' w1 hle hgr1 hor hown'
  simp only [Nat.zero_add, List.nil_append] at h2
  exact hK _ _ h2
/-- what a round of NodeMaps begins with -/
structure MS (w : World) (g : Nat) (u : World) (ks vs ds vk vv : Value) (x : Nd) : Prop where
  box : Box u g [.bool true, ks, vs, ds, .int .i64 0]
  below : Below w.heap.size w u
  a : u.ownsRow (g + 1) 9 1 vk x.keys.length (x.keys.map S)
  b : u.ownsRow (g + 1) 9 1 vv x.vals.length (x.vals.map S)
  ne : ∀ q, vk.ownBlock = some q → vv.ownBlock ≠ some q
  n : Kept (XR (g + 1) vk vv) u (fun w2 => NodeAt w2 ks vs ds x)
  leaf : x.leaf = true
  fits : x.fits = true
  next : x.next = 0
  lt : w.heap.size ≤ g
  le : g + 1 ≤ u.heap.size

def WMd12 (W0 : World) (g pn pc t b1 p1 ll c0 mk mv md : Nat) (h : Bool) (a0 : Option Addr) (n1 n2 n3 : Value) (y : Nd) (j b o : Nat) : Prop := (j = 10 ∧ W0.heap.size ≤ b)
def PMd12 (W0 : World) (g pn pc t b1 p1 ll c0 mk mv md : Nat) (h : Bool) (a0 : Option Addr) (n1 n2 n3 : Value) (y : Nd) (i : Nat) (VS : Nat → Value) (LO HI : Nat → Nat) (v : Value) (lo hi : Nat) (w : World) : Prop :=
  match i with
  | 0 => v = .agg #[.bool true, n1, n2, n3, .int .i64 0]
  | 1 => v = .slice (some ⟨b1, p1, none⟩) pn pc
  | 2 => v = .int .i64 ((t : Nat) : Int)
  | 3 => v = .pointer (some ⟨b1, p1 + t, none⟩)
  | 4 => v = .slice a0 ll c0
  | 5 => ∃ ak av ad, v = .tuple #[.agg #[.bool true, .slice ak mk mk, .slice av mv mv, .slice ad md md, .int .i64 0], .bool h] ∧ Kept (fun k => k < lo ∨ hi ≤ k) w (fun w2 => NodeAt w2 (.slice ak mk mk) (.slice av mv mv) (.slice ad md md) y)
  | 6 => v = VS 5 ∧ ∃ r, v = .tuple #[r, .bool h]
  | 7 => ∃ ak av ad, v = .agg #[.bool true, .slice ak mk mk, .slice av mv mv, .slice ad md md, .int .i64 0] ∧ Kept (fun k => k < LO 5 ∨ HI 5 ≤ k) w (fun w2 => NodeAt w2 (.slice ak mk mk) (.slice av mv mv) (.slice ad md md) y)
  | 8 => v = .bool h
  | 9 => v = .pointer (some ⟨lo, 0, none⟩) ∧ W0.heap.size ≤ lo ∧ lo < hi ∧ Box w lo [.bool false, .slice none 0 0, .slice none 0 0, .slice none 0 0, .int .i64 0]
  | 10 => ∃ b ak av ad, VS 9 = .pointer (some ⟨b, 0, none⟩) ∧ W0.heap.size ≤ b ∧ VS 7 = .agg #[.bool true, .slice ak mk mk, .slice av mv mv, .slice ad md md, .int .i64 0] ∧ Box w b [.bool true, .slice ak mk mk, .slice av mv mv, .slice ad md md, .int .i64 0] ∧ Kept (fun k => k < W0.heap.size) w (fun w2 => NodeAt w2 (.slice ak mk mk) (.slice av mv mv) (.slice ad md md) y)
  | _ => True
theorem PMd12_stable (W0 : World) (g pn pc t b1 p1 ll c0 mk mv md : Nat) (h : Bool) (a0 : Option Addr) (n1 n2 n3 : Value) (y : Nd) (hgW : g < W0.heap.size) : ∀ i j, i < 11 → j < 11 → j ≠ i → j ∉ ([[], [], [], [1, 2], [1, 2, 3], [0, 1, 2, 3, 4], [0, 1, 2, 3, 4, 5], [0, 1, 2, 3, 4, 5, 6], [0, 1, 2, 3, 4, 5, 6], [], [0, 1, 2, 3, 4, 5, 6, 7, 9]] : List (List Nat)).getD i [] → (i, j) ∉ ([(5, 10), (7, 10), (9, 10)] : List (Nat × Nat)) → ∀ VS LO HI v lo hi w w', PMd12 W0 g pn pc t b1 p1 ll c0 mk mv md h a0 n1 n2 n3 y i VS LO HI v lo hi w → GrowC (WMd12 W0 g pn pc t b1 p1 ll c0 mk mv md h a0 n1 n2 n3 y j) w w' → PMd12 W0 g pn pc t b1 p1 ll c0 mk mv md h a0 n1 n2 n3 y i VS LO HI v lo hi w' := by
  intro i j hi hj hne hbs hx VS LO HI v lo hj2 w w' h hg
  match i, hi with
  | 0, _ =>
    simp only [PMd12] at h ⊢
    exact h
  | 1, _ =>
    simp only [PMd12] at h ⊢
    exact h
  | 2, _ =>
    simp only [PMd12] at h ⊢
    exact h
  | 3, _ =>
    simp only [PMd12] at h ⊢
    exact h
  | 4, _ =>
    simp only [PMd12] at h ⊢
    exact h
  | 5, _ =>
    simp only [PMd12] at h ⊢
    simp at hx
    obtain ⟨ak, av, ad, h1, h2⟩ := h
    exact ⟨ak, av, ad, h1, h2.grow (GrowX.of_growC hg (fun k i hw => by simp only [WMd12] at hw; omega))⟩
  | 6, _ =>
    simp only [PMd12] at h ⊢
    exact h
  | 7, _ =>
    simp only [PMd12] at h ⊢
    simp at hx
    obtain ⟨ak, av, ad, h1, h2⟩ := h
    exact ⟨ak, av, ad, h1, h2.grow (GrowX.of_growC hg (fun k i hw => by simp only [WMd12] at hw; omega))⟩
  | 8, _ =>
    simp only [PMd12] at h ⊢
    exact h
  | 9, _ =>
    simp only [PMd12] at h ⊢
    simp at hx
    obtain ⟨h1, h2, h3, h4⟩ := h
    exact ⟨h1, h2, h3, h4.grow hg (fun i _ hw => by simp only [WMd12] at hw; omega)⟩
  | 10, _ =>
    simp only [PMd12] at h ⊢
    obtain ⟨b, ak, av, ad, h1, h2, h3, h4, h5⟩ := h
    exact ⟨b, ak, av, ad, h1, h2, h3, h4.grow hg (fun i _ hw => by simp only [WMd12] at hw; omega), h5.grow (GrowX.of_growC hg (fun k i hw => by simp only [WMd12] at hw; omega))⟩
  | (q + 11), hq => exact absurd hq (by omega)
theorem PMd12_cong (W0 : World) (g pn pc t b1 p1 ll c0 mk mv md : Nat) (h : Bool) (a0 : Option Addr) (n1 n2 n3 : Value) (y : Nd) : ∀ i, i < 11 → ∀ VS VS' LO LO' HI HI' v lz hz w, (∀ j ∈ ([[], [], [], [1, 2], [1, 2, 3], [0, 1, 2, 3, 4], [0, 1, 2, 3, 4, 5], [0, 1, 2, 3, 4, 5, 6], [0, 1, 2, 3, 4, 5, 6], [], [0, 1, 2, 3, 4, 5, 6, 7, 9]] : List (List Nat)).getD i [], VS j = VS' j ∧ LO j = LO' j ∧ HI j = HI' j) → PMd12 W0 g pn pc t b1 p1 ll c0 mk mv md h a0 n1 n2 n3 y i VS LO HI v lz hz w → PMd12 W0 g pn pc t b1 p1 ll c0 mk mv md h a0 n1 n2 n3 y i VS' LO' HI' v lz hz w := by
  intro i hi VS VS' LO LO' HI HI' v lz hz w he h
  match i, hi with
  | 0, _ =>
    simp only [PMd12] at h ⊢
    exact h
  | 1, _ =>
    simp only [PMd12] at h ⊢
    exact h
  | 2, _ =>
    simp only [PMd12] at h ⊢
    exact h
  | 3, _ =>
    simp only [PMd12] at h ⊢
    exact h
  | 4, _ =>
    simp only [PMd12] at h ⊢
    exact h
  | 5, _ =>
    simp only [PMd12] at h ⊢
    exact h
  | 6, _ =>
    simp only [PMd12] at h ⊢
    obtain ⟨e5a, e5b, e5c⟩ := he 5 (by decide)
    simp only [← e5a, ← e5b, ← e5c]
    exact h
  | 7, _ =>
    simp only [PMd12] at h ⊢
    obtain ⟨e5a, e5b, e5c⟩ := he 5 (by decide)
    simp only [← e5a, ← e5b, ← e5c]
    exact h
  | 8, _ =>
    simp only [PMd12] at h ⊢
    exact h
  | 9, _ =>
    simp only [PMd12] at h ⊢
    exact h
  | 10, _ =>
    simp only [PMd12] at h ⊢
    obtain ⟨e7a, e7b, e7c⟩ := he 7 (by decide)
    obtain ⟨e9a, e9b, e9c⟩ := he 9 (by decide)
    simp only [← e7a, ← e7b, ← e7c, ← e9a, ← e9b, ← e9c]
    exact h
  | (q + 11), hq => exact absurd hq (by omega)
def WMd20 (W0 : World) (g pn pc t b1 p1 ll c0 mk mv md : Nat) (a0 : Option Addr) (n1 n2 n3 : Value) (y : Nd) (j b o : Nat) : Prop := False
def PMd20 (W0 : World) (g pn pc t b1 p1 ll c0 mk mv md : Nat) (a0 : Option Addr) (n1 n2 n3 : Value) (y : Nd) (i : Nat) (v : Value) (lo hi : Nat) (w : World) : Prop :=
  match i with
  | 0 => v = .agg #[.bool true, n1, n2, n3, .int .i64 0]
  | 1 => v = .slice (some ⟨b1, p1, none⟩) pn pc
  | 2 => v = .int .i64 ((t : Nat) : Int)
  | 3 => v = .pointer (some ⟨b1, p1 + t, none⟩)
  | 4 => v = .slice a0 ll c0
  | 5 => v = .string ⟨#[UInt8.ofNat t]⟩
  | 6 => ∃ a c, v = .slice a 1 c ∧ Kept (fun _ => False) w (fun w2 => Reads 1 w2 (.slice a 1 c) 1 ([UInt8.ofNat t].map B))
  | 7 => ∃ ak av ad, v = .agg #[.bool true, .slice ak mk mk, .slice av mv mv, .slice ad md md, .int .i64 0] ∧ Kept (fun k => k < W0.heap.size) w (fun w2 => NodeAt w2 (.slice ak mk mk) (.slice av mv mv) (.slice ad md md) y)
  | _ => True
theorem PMd20_stable (W0 : World) (g pn pc t b1 p1 ll c0 mk mv md : Nat) (a0 : Option Addr) (n1 n2 n3 : Value) (y : Nd)  : ∀ i j, i < 8 → j < 8 → j ≠ i → j ∉ ([[], [], [], [1, 2], [1, 2, 3], [], [5], [0, 1, 2, 3, 4, 5, 6]] : List (List Nat)).getD i [] → ∀ v lo hi w w', PMd20 W0 g pn pc t b1 p1 ll c0 mk mv md a0 n1 n2 n3 y i v lo hi w → GrowC (WMd20 W0 g pn pc t b1 p1 ll c0 mk mv md a0 n1 n2 n3 y j) w w' → PMd20 W0 g pn pc t b1 p1 ll c0 mk mv md a0 n1 n2 n3 y i v lo hi w' := by
  intro i j hi hj hne hbs v lo hj2 w w' h hg
  match i, hi with
  | 0, _ =>
    simp only [PMd20] at h ⊢
    exact h
  | 1, _ =>
    simp only [PMd20] at h ⊢
    exact h
  | 2, _ =>
    simp only [PMd20] at h ⊢
    exact h
  | 3, _ =>
    simp only [PMd20] at h ⊢
    exact h
  | 4, _ =>
    simp only [PMd20] at h ⊢
    exact h
  | 5, _ =>
    simp only [PMd20] at h ⊢
    exact h
  | 6, _ =>
    simp only [PMd20] at h ⊢
    obtain ⟨a, c, h1, h2⟩ := h
    exact ⟨a, c, h1, h2.grow (GrowX.of_growC hg (fun k i hw => by simp only [WMd20] at hw))⟩
  | 7, _ =>
    simp only [PMd20] at h ⊢
    obtain ⟨ak, av, ad, h1, h2⟩ := h
    exact ⟨ak, av, ad, h1, h2.grow (GrowX.of_growC hg (fun k i hw => by simp only [WMd20] at hw))⟩
  | (q + 8), hq => exact absurd hq (by omega)
def WMd23 (W0 : World) (p nk kc : Nat) (ka : Option Addr) (L : List (List UInt8)) (l : List UInt8) (t : Nat) (j b o : Nat) : Prop := (j = 7 ∧ W0.heap.size ≤ b)
def PMd23 (W0 : World) (p nk kc : Nat) (ka : Option Addr) (L : List (List UInt8)) (l : List UInt8) (t : Nat) (i : Nat) (VS : Nat → Value) (LO HI : Nat → Nat) (v : Value) (lo hi : Nat) (w : World) : Prop :=
  match i with
  | 0 => v = .slice (some ⟨lo, 0, none⟩) 0 0 ∧ W0.heap.size ≤ lo ∧ w.ownsRow W0.heap.size 9 1 (.slice (some ⟨lo, 0, none⟩) 0 0) 0 []
  | 1 => v = .slice ka nk kc
  | 2 => v = .int .i64 ((p : Nat) : Int)
  | 3 => v = .slice ka p kc
  | 4 => ∃ gq cq, v = .slice (some ⟨gq, 0, none⟩) p cq ∧ w.ownsRow W0.heap.size 9 1 (.slice (some ⟨gq, 0, none⟩) p cq) p ((L.take p).map S)
  | 5 => v = .string ⟨l.toArray⟩
  | 6 => v = .slice (some ⟨lo, 0, none⟩) 1 1 ∧ W0.heap.size ≤ lo ∧ w.ownsRow W0.heap.size 9 1 (.slice (some ⟨lo, 0, none⟩) 1 1) 1 [S l]
  | 7 => ∃ gq cq, v = .slice (some ⟨gq, 0, none⟩) (p + 1) cq ∧ w.ownsRow W0.heap.size 9 1 (.slice (some ⟨gq, 0, none⟩) (p + 1) cq) (p + 1) ((L.take p ++ [l]).map S)
  | 8 => v = .slice ka nk kc
  | 9 => v = .int .i64 ((p : Nat) : Int)
  | 10 => ∃ a cq, v = .slice a (nk - p) cq ∧ Kept (fun k => W0.heap.size ≤ k) W0 (fun w2 => Reads 1 w2 (.slice a (nk - p) cq) (nk - p) ((L.drop p).map S))
  | _ => True
theorem PMd23_stable (W0 : World) (p nk kc : Nat) (ka : Option Addr) (L : List (List UInt8)) (l : List UInt8) (t : Nat)  : ∀ i j, i < 11 → j < 11 → j ≠ i → j ∉ ([[], [], [], [1, 2], [0, 1, 2, 3], [], [5], [0, 1, 2, 3, 4, 5, 6], [], [], [8, 9]] : List (List Nat)).getD i [] → (i, j) ∉ ([(0, 4), (0, 7), (4, 7), (6, 7)] : List (Nat × Nat)) → ∀ VS LO HI v lo hi w w', PMd23 W0 p nk kc ka L l t i VS LO HI v lo hi w → GrowC (WMd23 W0 p nk kc ka L l t j) w w' → PMd23 W0 p nk kc ka L l t i VS LO HI v lo hi w' := by
  intro i j hi hj hne hbs hx VS LO HI v lo hj2 w w' h hg
  match i, hi with
  | 0, _ =>
    simp only [PMd23] at h ⊢
    simp at hx
    obtain ⟨h1, h2, h3⟩ := h
    exact ⟨h1, h2, own_growx h3 (GrowX.of_growC (Y := fun _ => False) hg (fun k i hw => by simp only [WMd23] at hw; omega)) (fun _ _ hf => hf)⟩
  | 1, _ =>
    simp only [PMd23] at h ⊢
    exact h
  | 2, _ =>
    simp only [PMd23] at h ⊢
    exact h
  | 3, _ =>
    simp only [PMd23] at h ⊢
    exact h
  | 4, _ =>
    simp only [PMd23] at h ⊢
    simp at hx
    obtain ⟨gq, cq, h1, h2⟩ := h
    exact ⟨gq, cq, h1, own_growx h2 (GrowX.of_growC (Y := fun _ => False) hg (fun k i hw => by simp only [WMd23] at hw; omega)) (fun _ _ hf => hf)⟩
  | 5, _ =>
    simp only [PMd23] at h ⊢
    exact h
  | 6, _ =>
    simp only [PMd23] at h ⊢
    simp at hx
    obtain ⟨h1, h2, h3⟩ := h
    exact ⟨h1, h2, own_growx h3 (GrowX.of_growC (Y := fun _ => False) hg (fun k i hw => by simp only [WMd23] at hw; omega)) (fun _ _ hf => hf)⟩
  | 7, _ =>
    simp only [PMd23] at h ⊢
    obtain ⟨gq, cq, h1, h2⟩ := h
    exact ⟨gq, cq, h1, own_growx h2 (GrowX.of_growC (Y := fun _ => False) hg (fun k i hw => by simp only [WMd23] at hw; omega)) (fun _ _ hf => hf)⟩
  | 8, _ =>
    simp only [PMd23] at h ⊢
    exact h
  | 9, _ =>
    simp only [PMd23] at h ⊢
    exact h
  | 10, _ =>
    simp only [PMd23] at h ⊢
    exact h
  | (q + 11), hq => exact absurd hq (by omega)
theorem PMd23_cong (W0 : World) (p nk kc : Nat) (ka : Option Addr) (L : List (List UInt8)) (l : List UInt8) (t : Nat) : ∀ i, i < 11 → ∀ VS VS' LO LO' HI HI' v lz hz w, (∀ j ∈ ([[], [], [], [1, 2], [0, 1, 2, 3], [], [5], [0, 1, 2, 3, 4, 5, 6], [], [], [8, 9]] : List (List Nat)).getD i [], VS j = VS' j ∧ LO j = LO' j ∧ HI j = HI' j) → PMd23 W0 p nk kc ka L l t i VS LO HI v lz hz w → PMd23 W0 p nk kc ka L l t i VS' LO' HI' v lz hz w := by
  intro i hi VS VS' LO LO' HI HI' v lz hz w he h
  match i, hi with
  | 0, _ =>
    simp only [PMd23] at h ⊢
    exact h
  | 1, _ =>
    simp only [PMd23] at h ⊢
    exact h
  | 2, _ =>
    simp only [PMd23] at h ⊢
    exact h
  | 3, _ =>
    simp only [PMd23] at h ⊢
    exact h
  | 4, _ =>
    simp only [PMd23] at h ⊢
    exact h
  | 5, _ =>
    simp only [PMd23] at h ⊢
    exact h
  | 6, _ =>
    simp only [PMd23] at h ⊢
    exact h
  | 7, _ =>
    simp only [PMd23] at h ⊢
    exact h
  | 8, _ =>
    simp only [PMd23] at h ⊢
    exact h
  | 9, _ =>
    simp only [PMd23] at h ⊢
    exact h
  | 10, _ =>
    simp only [PMd23] at h ⊢
    exact h
  | (q + 11), hq => exact absurd hq (by omega)
def WMd24 (W0 : World) (p nk kc : Nat) (ka : Option Addr) (L : List (List UInt8)) (l : List UInt8) (t : Nat) (j b o : Nat) : Prop := (j = 7 ∧ W0.heap.size ≤ b)
def PMd24 (W0 : World) (p nk kc : Nat) (ka : Option Addr) (L : List (List UInt8)) (l : List UInt8) (t : Nat) (i : Nat) (VS : Nat → Value) (LO HI : Nat → Nat) (v : Value) (lo hi : Nat) (w : World) : Prop :=
  match i with
  | 0 => v = .slice (some ⟨lo, 0, none⟩) 0 0 ∧ W0.heap.size ≤ lo ∧ w.ownsRow W0.heap.size 9 1 (.slice (some ⟨lo, 0, none⟩) 0 0) 0 []
  | 1 => v = .slice ka nk kc
  | 2 => v = .int .i64 ((p : Nat) : Int)
  | 3 => v = .slice ka p kc
  | 4 => ∃ gq cq, v = .slice (some ⟨gq, 0, none⟩) p cq ∧ w.ownsRow W0.heap.size 9 1 (.slice (some ⟨gq, 0, none⟩) p cq) p ((L.take p).map S)
  | 5 => v = .string ⟨#[UInt8.ofNat t]⟩
  | 6 => v = .slice (some ⟨lo, 0, none⟩) 1 1 ∧ W0.heap.size ≤ lo ∧ w.ownsRow W0.heap.size 9 1 (.slice (some ⟨lo, 0, none⟩) 1 1) 1 [S l]
  | 7 => ∃ gq cq, v = .slice (some ⟨gq, 0, none⟩) (p + 1) cq ∧ w.ownsRow W0.heap.size 9 1 (.slice (some ⟨gq, 0, none⟩) (p + 1) cq) (p + 1) ((L.take p ++ [l]).map S)
  | 8 => v = .slice ka nk kc
  | 9 => v = .int .i64 ((p : Nat) : Int)
  | 10 => ∃ a cq, v = .slice a (nk - p) cq ∧ Kept (fun k => W0.heap.size ≤ k) W0 (fun w2 => Reads 1 w2 (.slice a (nk - p) cq) (nk - p) ((L.drop p).map S))
  | _ => True
theorem PMd24_stable (W0 : World) (p nk kc : Nat) (ka : Option Addr) (L : List (List UInt8)) (l : List UInt8) (t : Nat)  : ∀ i j, i < 11 → j < 11 → j ≠ i → j ∉ ([[], [], [], [1, 2], [0, 1, 2, 3], [], [5], [0, 1, 2, 3, 4, 5, 6], [], [], [8, 9]] : List (List Nat)).getD i [] → (i, j) ∉ ([(0, 4), (0, 7), (4, 7), (6, 7)] : List (Nat × Nat)) → ∀ VS LO HI v lo hi w w', PMd24 W0 p nk kc ka L l t i VS LO HI v lo hi w → GrowC (WMd24 W0 p nk kc ka L l t j) w w' → PMd24 W0 p nk kc ka L l t i VS LO HI v lo hi w' := by
  intro i j hi hj hne hbs hx VS LO HI v lo hj2 w w' h hg
  match i, hi with
  | 0, _ =>
    simp only [PMd24] at h ⊢
    simp at hx
    obtain ⟨h1, h2, h3⟩ := h
    exact ⟨h1, h2, own_growx h3 (GrowX.of_growC (Y := fun _ => False) hg (fun k i hw => by simp only [WMd24] at hw; omega)) (fun _ _ hf => hf)⟩
  | 1, _ =>
    simp only [PMd24] at h ⊢
    exact h
  | 2, _ =>
    simp only [PMd24] at h ⊢
    exact h
  | 3, _ =>
    simp only [PMd24] at h ⊢
    exact h
  | 4, _ =>
    simp only [PMd24] at h ⊢
    simp at hx
    obtain ⟨gq, cq, h1, h2⟩ := h
    exact ⟨gq, cq, h1, own_growx h2 (GrowX.of_growC (Y := fun _ => False) hg (fun k i hw => by simp only [WMd24] at hw; omega)) (fun _ _ hf => hf)⟩
  | 5, _ =>
    simp only [PMd24] at h ⊢
    exact h
  | 6, _ =>
    simp only [PMd24] at h ⊢
    simp at hx
    obtain ⟨h1, h2, h3⟩ := h
    exact ⟨h1, h2, own_growx h3 (GrowX.of_growC (Y := fun _ => False) hg (fun k i hw => by simp only [WMd24] at hw; omega)) (fun _ _ hf => hf)⟩
  | 7, _ =>
    simp only [PMd24] at h ⊢
    obtain ⟨gq, cq, h1, h2⟩ := h
    exact ⟨gq, cq, h1, own_growx h2 (GrowX.of_growC (Y := fun _ => False) hg (fun k i hw => by simp only [WMd24] at hw; omega)) (fun _ _ hf => hf)⟩
  | 8, _ =>
    simp only [PMd24] at h ⊢
    exact h
  | 9, _ =>
    simp only [PMd24] at h ⊢
    exact h
  | 10, _ =>
    simp only [PMd24] at h ⊢
    exact h
  | (q + 11), hq => exact absurd hq (by omega)
theorem PMd24_cong (W0 : World) (p nk kc : Nat) (ka : Option Addr) (L : List (List UInt8)) (l : List UInt8) (t : Nat) : ∀ i, i < 11 → ∀ VS VS' LO LO' HI HI' v lz hz w, (∀ j ∈ ([[], [], [], [1, 2], [0, 1, 2, 3], [], [5], [0, 1, 2, 3, 4, 5, 6], [], [], [8, 9]] : List (List Nat)).getD i [], VS j = VS' j ∧ LO j = LO' j ∧ HI j = HI' j) → PMd24 W0 p nk kc ka L l t i VS LO HI v lz hz w → PMd24 W0 p nk kc ka L l t i VS' LO' HI' v lz hz w := by
  intro i hi VS VS' LO LO' HI HI' v lz hz w he h
  match i, hi with
  | 0, _ =>
    simp only [PMd24] at h ⊢
    exact h
  | 1, _ =>
    simp only [PMd24] at h ⊢
    exact h
  | 2, _ =>
    simp only [PMd24] at h ⊢
    exact h
  | 3, _ =>
    simp only [PMd24] at h ⊢
    exact h
  | 4, _ =>
    simp only [PMd24] at h ⊢
    exact h
  | 5, _ =>
    simp only [PMd24] at h ⊢
    exact h
  | 6, _ =>
    simp only [PMd24] at h ⊢
    exact h
  | 7, _ =>
    simp only [PMd24] at h ⊢
    exact h
  | 8, _ =>
    simp only [PMd24] at h ⊢
    exact h
  | 9, _ =>
    simp only [PMd24] at h ⊢
    exact h
  | 10, _ =>
    simp only [PMd24] at h ⊢
    exact h
  | (q + 11), hq => exact absurd hq (by omega)
def WMd17 (W0 : World) (p nk kc : Nat) (ka : Option Addr) (L : List (List UInt8)) (j b o : Nat) : Prop := (j = 4 ∧ W0.heap.size ≤ b)
def PMd17 (W0 : World) (p nk kc : Nat) (ka : Option Addr) (L : List (List UInt8)) (i : Nat) (VS : Nat → Value) (LO HI : Nat → Nat) (v : Value) (lo hi : Nat) (w : World) : Prop :=
  match i with
  | 0 => v = .slice (some ⟨lo, 0, none⟩) 0 0 ∧ W0.heap.size ≤ lo ∧ w.ownsRow W0.heap.size 9 1 (.slice (some ⟨lo, 0, none⟩) 0 0) 0 []
  | 1 => v = .slice ka nk kc
  | 2 => v = .int .i64 ((p : Nat) : Int)
  | 3 => v = .slice ka p kc
  | 4 => ∃ gq cq, v = .slice (some ⟨gq, 0, none⟩) p cq ∧ w.ownsRow W0.heap.size 9 1 (.slice (some ⟨gq, 0, none⟩) p cq) p ((L.take p).map S)
  | 5 => v = .slice ka nk kc
  | 6 => v = .int .i64 ((p : Nat) : Int)
  | 7 => v = .int .i64 (((p : Nat) : Int) + 1)
  | 8 => ∃ a cq, v = .slice a (nk - (p + 1)) cq ∧ Kept (fun k => W0.heap.size ≤ k) W0 (fun w2 => Reads 1 w2 (.slice a (nk - (p + 1)) cq) (nk - (p + 1)) ((L.drop (p + 1)).map S))
  | _ => True
theorem PMd17_stable (W0 : World) (p nk kc : Nat) (ka : Option Addr) (L : List (List UInt8))  : ∀ i j, i < 9 → j < 9 → j ≠ i → j ∉ ([[], [], [], [1, 2], [0, 1, 2, 3], [], [], [6], [5, 6, 7]] : List (List Nat)).getD i [] → (i, j) ∉ ([(0, 4)] : List (Nat × Nat)) → ∀ VS LO HI v lo hi w w', PMd17 W0 p nk kc ka L i VS LO HI v lo hi w → GrowC (WMd17 W0 p nk kc ka L j) w w' → PMd17 W0 p nk kc ka L i VS LO HI v lo hi w' := by
  intro i j hi hj hne hbs hx VS LO HI v lo hj2 w w' h hg
  match i, hi with
  | 0, _ =>
    simp only [PMd17] at h ⊢
    simp at hx
    obtain ⟨h1, h2, h3⟩ := h
    exact ⟨h1, h2, own_growx h3 (GrowX.of_growC (Y := fun _ => False) hg (fun k i hw => by simp only [WMd17] at hw; omega)) (fun _ _ hf => hf)⟩
  | 1, _ =>
    simp only [PMd17] at h ⊢
    exact h
  | 2, _ =>
    simp only [PMd17] at h ⊢
    exact h
  | 3, _ =>
    simp only [PMd17] at h ⊢
    exact h
  | 4, _ =>
    simp only [PMd17] at h ⊢
    obtain ⟨gq, cq, h1, h2⟩ := h
    exact ⟨gq, cq, h1, own_growx h2 (GrowX.of_growC (Y := fun _ => False) hg (fun k i hw => by simp only [WMd17] at hw; omega)) (fun _ _ hf => hf)⟩
  | 5, _ =>
    simp only [PMd17] at h ⊢
    exact h
  | 6, _ =>
    simp only [PMd17] at h ⊢
    exact h
  | 7, _ =>
    simp only [PMd17] at h ⊢
    exact h
  | 8, _ =>
    simp only [PMd17] at h ⊢
    exact h
  | (q + 9), hq => exact absurd hq (by omega)
theorem PMd17_cong (W0 : World) (p nk kc : Nat) (ka : Option Addr) (L : List (List UInt8)) : ∀ i, i < 9 → ∀ VS VS' LO LO' HI HI' v lz hz w, (∀ j ∈ ([[], [], [], [1, 2], [0, 1, 2, 3], [], [], [6], [5, 6, 7]] : List (List Nat)).getD i [], VS j = VS' j ∧ LO j = LO' j ∧ HI j = HI' j) → PMd17 W0 p nk kc ka L i VS LO HI v lz hz w → PMd17 W0 p nk kc ka L i VS' LO' HI' v lz hz w := by
  intro i hi VS VS' LO LO' HI HI' v lz hz w he h
  match i, hi with
  | 0, _ =>
    simp only [PMd17] at h ⊢
    exact h
  | 1, _ =>
    simp only [PMd17] at h ⊢
    exact h
  | 2, _ =>
    simp only [PMd17] at h ⊢
    exact h
  | 3, _ =>
    simp only [PMd17] at h ⊢
    exact h
  | 4, _ =>
    simp only [PMd17] at h ⊢
    exact h
  | 5, _ =>
    simp only [PMd17] at h ⊢
    exact h
  | 6, _ =>
    simp only [PMd17] at h ⊢
    exact h
  | 7, _ =>
    simp only [PMd17] at h ⊢
    exact h
  | 8, _ =>
    simp only [PMd17] at h ⊢
    exact h
  | (q + 9), hq => exact absurd hq (by omega)
def WMd18 (W0 : World) (p nk kc : Nat) (ka : Option Addr) (L : List (List UInt8)) (j b o : Nat) : Prop := (j = 4 ∧ W0.heap.size ≤ b)
def PMd18 (W0 : World) (p nk kc : Nat) (ka : Option Addr) (L : List (List UInt8)) (i : Nat) (VS : Nat → Value) (LO HI : Nat → Nat) (v : Value) (lo hi : Nat) (w : World) : Prop :=
  match i with
  | 0 => v = .slice (some ⟨lo, 0, none⟩) 0 0 ∧ W0.heap.size ≤ lo ∧ w.ownsRow W0.heap.size 9 1 (.slice (some ⟨lo, 0, none⟩) 0 0) 0 []
  | 1 => v = .slice ka nk kc
  | 2 => v = .int .i64 ((p : Nat) : Int)
  | 3 => v = .slice ka p kc
  | 4 => ∃ gq cq, v = .slice (some ⟨gq, 0, none⟩) p cq ∧ w.ownsRow W0.heap.size 9 1 (.slice (some ⟨gq, 0, none⟩) p cq) p ((L.take p).map S)
  | 5 => v = .slice ka nk kc
  | 6 => v = .int .i64 ((p : Nat) : Int)
  | 7 => v = .int .i64 (((p : Nat) : Int) + 1)
  | 8 => ∃ a cq, v = .slice a (nk - (p + 1)) cq ∧ Kept (fun k => W0.heap.size ≤ k) W0 (fun w2 => Reads 1 w2 (.slice a (nk - (p + 1)) cq) (nk - (p + 1)) ((L.drop (p + 1)).map S))
  | _ => True
theorem PMd18_stable (W0 : World) (p nk kc : Nat) (ka : Option Addr) (L : List (List UInt8))  : ∀ i j, i < 9 → j < 9 → j ≠ i → j ∉ ([[], [], [], [1, 2], [0, 1, 2, 3], [], [], [6], [5, 6, 7]] : List (List Nat)).getD i [] → (i, j) ∉ ([(0, 4)] : List (Nat × Nat)) → ∀ VS LO HI v lo hi w w', PMd18 W0 p nk kc ka L i VS LO HI v lo hi w → GrowC (WMd18 W0 p nk kc ka L j) w w' → PMd18 W0 p nk kc ka L i VS LO HI v lo hi w' := by
  intro i j hi hj hne hbs hx VS LO HI v lo hj2 w w' h hg
  match i, hi with
  | 0, _ =>
    simp only [PMd18] at h ⊢
    simp at hx
    obtain ⟨h1, h2, h3⟩ := h
    exact ⟨h1, h2, own_growx h3 (GrowX.of_growC (Y := fun _ => False) hg (fun k i hw => by simp only [WMd18] at hw; omega)) (fun _ _ hf => hf)⟩
  | 1, _ =>
    simp only [PMd18] at h ⊢
    exact h
  | 2, _ =>
    simp only [PMd18] at h ⊢
    exact h
  | 3, _ =>
    simp only [PMd18] at h ⊢
    exact h
  | 4, _ =>
    simp only [PMd18] at h ⊢
    obtain ⟨gq, cq, h1, h2⟩ := h
    exact ⟨gq, cq, h1, own_growx h2 (GrowX.of_growC (Y := fun _ => False) hg (fun k i hw => by simp only [WMd18] at hw; omega)) (fun _ _ hf => hf)⟩
  | 5, _ =>
    simp only [PMd18] at h ⊢
    exact h
  | 6, _ =>
    simp only [PMd18] at h ⊢
    exact h
  | 7, _ =>
    simp only [PMd18] at h ⊢
    exact h
  | 8, _ =>
    simp only [PMd18] at h ⊢
    exact h
  | (q + 9), hq => exact absurd hq (by omega)
theorem PMd18_cong (W0 : World) (p nk kc : Nat) (ka : Option Addr) (L : List (List UInt8)) : ∀ i, i < 9 → ∀ VS VS' LO LO' HI HI' v lz hz w, (∀ j ∈ ([[], [], [], [1, 2], [0, 1, 2, 3], [], [], [6], [5, 6, 7]] : List (List Nat)).getD i [], VS j = VS' j ∧ LO j = LO' j ∧ HI j = HI' j) → PMd18 W0 p nk kc ka L i VS LO HI v lz hz w → PMd18 W0 p nk kc ka L i VS' LO' HI' v lz hz w := by
  intro i hi VS VS' LO LO' HI HI' v lz hz w he h
  match i, hi with
  | 0, _ =>
    simp only [PMd18] at h ⊢
    exact h
  | 1, _ =>
    simp only [PMd18] at h ⊢
    exact h
  | 2, _ =>
    simp only [PMd18] at h ⊢
    exact h
  | 3, _ =>
    simp only [PMd18] at h ⊢
    exact h
  | 4, _ =>
    simp only [PMd18] at h ⊢
    exact h
  | 5, _ =>
    simp only [PMd18] at h ⊢
    exact h
  | 6, _ =>
    simp only [PMd18] at h ⊢
    exact h
  | 7, _ =>
    simp only [PMd18] at h ⊢
    exact h
  | 8, _ =>
    simp only [PMd18] at h ⊢
    exact h
  | (q + 9), hq => exact absurd hq (by omega)
set_option maxRecDepth 100000 in
set_option maxHeartbeats 12800000 in
theorem maps_any (KS : List (List UInt8)) (DS : List Bool) (kv dv : Value) (w : World) (hk : Texts w kv KS) (hd : Reads 1 w dv DS.length (DS.map Bo)) (hkm : KS.length ≤ 1048576) (hdm : DS.length ≤ 1048576) (hkl : ∀ l ∈ KS, l.length ≤ 1048576) :
    Calls Try.prog 6 #[kv, dv] w fun e w' => e = .returned (.bool true) ∧ Below w.heap.size w w' := by
  obtain ⟨_, ⟨pa, pc, rfl, _⟩, _⟩ := id hk
  obtain ⟨qa, qc, rfl⟩ := hd.shape
  obtain ⟨pn, hpn⟩ : ∃ q, KS.length = q := ⟨_, rfl⟩
  obtain ⟨qn, hqn⟩ : ∃ q, DS.length = q := ⟨_, rfl⟩
  rw [hpn] at hk hkm ⊢
  rw [hqn] at hd hdm ⊢
  obtain ⟨g, hg0⟩ : ∃ g, w.heap.size = g := ⟨_, rfl⟩
  have ba := Box.new w #[.bool true, .slice none 0 0, .slice none 0 0, .slice none 0 0, .int .i64 0] 25 hg0.symm
  have hB := (Below.refl w.heap.size w).alloc (Nat.le_refl _) (.cells #[.bool true, .slice none 0 0, .slice none 0 0, .slice none 0 0, .int .i64 0] 25)
  have hms : MS w g (w.alloc (.cells #[.bool true, .slice none 0 0, .slice none 0 0, .slice none 0 0, .int .i64 0] 25)) (.slice none 0 0) (.slice none 0 0) (.slice none 0 0) (.slice none 0 0) (.slice none 0 0) ⟨true, [], [], [], 0⟩ :=
    ⟨ba, hB, World.ownsRow_nil _ _ _ _, World.ownsRow_nil _ _ _ _, (fun q e => by cases e), (fun _ _ => ⟨⟨[], Reads.empty, TextsAt.nil⟩, ⟨[], Reads.empty, TextsAt.nil⟩, Reads.empty⟩), rfl, rfl, rfl, Nat.le_of_eq hg0, by simp; omega⟩
  have HMS := Lib.hid hms
  have HK := Lib.hid hk
  have HD := Lib.hid hd
  have HKL := Lib.hid hkl
  have HPN := Lib.hid hpn
  have HQN := Lib.hid hqn
  have HG := Lib.hid hg0
  clear hk hd hkl hpn hqn hms hg0 ba hB
  go_enter Try.func6, Try.ntmps6
  go_wp2_with fail
  rw [HG.out]
  refine wp_world (fun u => MS w g u (.slice none 0 0) (.slice none 0 0) (.slice none 0 0) (.slice none 0 0) (.slice none 0 0) ⟨true, [], [], [], 0⟩) HMS.out ?_
  clear HMS
  intro w0 hms
  have hlt0 := hms.lt
  go_loopw [8, 6, 7] (fun i vk vv wr => ∃ (t : Nat) (ks vs ds : Value) (x : Nd), t ≤ 40 ∧ i = .int .i64 t ∧ x.keys.length ≤ t ∧ Hid ((∀ l ∈ x.keys, l.length ≤ 1048576) ∧ (∀ l ∈ x.vals, l.length ≤ 1048576)) ∧ MS w g wr ks vs ds vk vv x) (fun i _ _ _ => 40 - (intOf i).toNat)
  case atStart => exact ⟨0, .slice none 0 0, .slice none 0 0, .slice none 0 0, ⟨true, [], [], [], 0⟩, by omega, rfl, Nat.le_refl _, Lib.hid ⟨fun l h => absurd h List.not_mem_nil, fun l h => absurd h List.not_mem_nil⟩, hms⟩
  case round =>
    clear hms
    obtain ⟨t, n1, n2, n3, x, ht, rfl, hxk, HXL, hms⟩ := hrel
    obtain ⟨nk, hnk⟩ : ∃ q, x.keys.length = q := ⟨_, rfl⟩
    obtain ⟨nv, hnv⟩ : ∃ q, x.vals.length = q := ⟨_, rfl⟩
    obtain ⟨hvk, hkd⟩ := fits_leaf hms.leaf hms.fits
    have hnvk : nv = nk := by omega
    have HKD := Lib.hid hkd
    have ha := hms.a
    have hb := hms.b
    rw [hnk] at hxk ha
    rw [hnv] at hb
    have HNK := Lib.hid hnk
    have HNV := Lib.hid hnv
    have HNVK := Lib.hid hnvk
    have HMS := Lib.hid hms
    have hBr := hms.below
    have hler := hms.le
    have hA := Lib.hid ha
    have hBB := Lib.hid hb
    clear hnk hnv hvk hkd hnvk hms
    obtain ⟨ka, kc, rfl⟩ := own_shape ha
    obtain ⟨va, vc, rfl⟩ := own_shape hb
    have hokc := own_cap ha
    have hovc := own_cap hb
    have hacell : 0 < nk → ∃ gk, ka = some ⟨gk, 0, none⟩ ∧ ∀ j u, (x.keys.map S)[j]? = some u → wr.cell? ⟨gk, j, none⟩ = some u := by
      intro h0
      obtain ⟨gk, ck, he, _⟩ := own_some ha (fun e => by injection e with _ e2 _; omega)
      obtain rfl := (Value.slice.inj he).1
      exact ⟨gk, rfl, fun j u hu => by have := own_cells ha j u hu; rwa [Addr.add_lit, Nat.zero_add] at this⟩
    have HAC := Lib.hid hacell
    clear ha hb hacell
    by_cases hgo : t < pn ∧ t < 40
    · obtain ⟨hg1, hg2⟩ := hgo
      have d1 : decide (t < pn) = true := by simp [hg1]
      have d2 : decide ((t : Int) < 40) = true := by simp; omega
      have hkl2 : t < KS.length := by rw [HPN.out]; exact hg1
      have hu : KS[t]? = some KS[t] := List.getElem?_eq_getElem hkl2
      have hlm := HKL.out _ (List.getElem_mem hkl2)
      generalize KS[t] = l at *
      obtain ⟨b1, p1, q1, a0, c0, e1, hd1, hb1, hrs⟩ := HK.out.at' t l hu
      obtain rfl := (Value.slice.inj e1).1
      obtain ⟨ll, hll⟩ : ∃ q, l.length = q := ⟨_, rfl⟩
      rw [hll] at hd1 hrs hlm
      have hcr := (hBr.cell (p := ⟨b1, p1 + t, none⟩) hb1).trans hd1
      have hrs2 := hrs.below hBr (Nat.le_refl _)
      have cv := run_str_reads (P := Try.prog) (src := 28) (dst := 9) Try.underlying28 Try.underlying5 Try.underlying9 _ hrs2
      have HRS := Lib.hid hrs
      have HLL := Lib.hid hll
      have HCR := Lib.hid hcr
      have q1' : (t : Int) < (pn : Int) := by omega
      clear e1 hu hkl2 hd1 hrs hrs2 hll
      go_upto_block 2 with (fail)
      clear cv hcr
      go_cut [10] (fun z wx => z = .int .i64 ((fpos x.keys l : Nat) : Int) ∧ wx = wr)
      case first =>
        go_wp2_with fail
        go_loop [10] (fun a => ∃ j : Nat, j ≤ nk ∧ a = .int .i64 j ∧ Hid (∀ i x', i < j → x.keys[i]? = some x' → lessB x' l = true)) (fun a => nk - (intOf a).toNat)
        case atStart => exact ⟨0, Nat.zero_le _, rfl, Lib.hid (fun i x h => absurd h (Nat.not_lt_zero _))⟩
        case round =>
          obtain ⟨j, hj, rfl, HT⟩ := hrel
          by_cases hlt : j < nk
          · have hkj : j < x.keys.length := by rw [HNK.out]; exact hlt
            have hu : x.keys[j]? = some x.keys[j] := List.getElem?_eq_getElem hkj
            generalize x.keys[j] = m at *
            obtain ⟨gk, rfl, hac⟩ := HAC.out (by omega)
            have hcm := hac j (S m) (by rw [List.getElem?_map, hu]; rfl)
            have HU := Lib.hid hu
            clear hac hu hkj
            simp only [S] at hcm
            cases hle : lessB m l with
            | true =>
              have HL := Lib.hid hle
              have d : Op.bytesLess m l = true := hle
              clear hle
              go_wp2
              go_round
              case rel => exact ⟨j + 1, by omega, by go_num, Lib.hid (fun i x' hi hx' => by
                by_cases e : i = j
                · subst e; rw [HU.out] at hx'; obtain rfl := Option.some.inj hx'; exact HL.out
                · exact HT.out i x' (by omega) hx')⟩
              case measure => simp [intOf]; omega
            | false =>
              have hp : fpos x.keys l = j := fpos_is x.keys l j (by rw [HNK.out]; exact hj) HT.out (fun x' hx' => by rw [HU.out] at hx'; obtain rfl := Option.some.inj hx'; exact hle)
              have HP := Lib.hid hp
              have d : Op.bytesLess m l = false := hle
              clear hle hp
              go_wp2
              go_meet
              exact ⟨by rw [HP.out], rfl⟩
          · obtain rfl : j = nk := by omega
            have hp : fpos x.keys l = j := fpos_is x.keys l j (by rw [HNK.out]; exact Nat.le_refl _) HT.out (fun x' hx' => by rw [List.getElem?_eq_none (by rw [HNK.out]; exact Nat.le_refl _)] at hx'; cases hx')
            have HP := Lib.hid hp
            clear hp
            go_wp2
            go_meet
            exact ⟨by rw [HP.out], rfl⟩
      case rest =>
        obtain ⟨rfl, hw⟩ := hcut
        obtain rfl := hw.symm
        clear hw
        obtain ⟨p, hp⟩ : ∃ q, fpos x.keys l = q := ⟨_, rfl⟩
        have hpk : p ≤ nk := by have := fpos_le x.keys l; rw [hp, HNK.out] at this; exact this
        rw [hp]
        obtain ⟨h, hh⟩ : ∃ q, fhas x.keys l = q := ⟨_, rfl⟩
        have HPP := Lib.hid hp
        have HH := Lib.hid hh
        clear hp hh
        go_upto_region 10 with (fail)
        go_cut [11] (fun z wx => z = .bool h ∧ wx = wr)
        case first =>
          by_cases hpl : p < nk
          · have hkp : p < x.keys.length := by rw [HNK.out]; exact hpl
            have hu : x.keys[p]? = some x.keys[p] := List.getElem?_eq_getElem hkp
            generalize x.keys[p] = m at *
            obtain ⟨gk, rfl, hac⟩ := HAC.out (by omega)
            have hcm := hac p (S m) (by rw [List.getElem?_map, hu]; rfl)
            have hh : h = (m == l) := by
              rw [← HH.out]
              unfold fhas
              rw [HPP.out, hu, Bool.eq_iff_iff, decide_eq_true_eq, beq_iff_eq]
              exact ⟨fun h => Option.some.inj h, fun h => by rw [h]⟩
            have HHE := Lib.hid hh
            clear hac hu hkp hh
            simp only [S] at hcm
            go_wp2
            go_meet
            exact ⟨by rw [HHE.out], rfl⟩
          · have hpe : p = nk := by omega
            have hh : h = false := by
              rw [← HH.out]
              unfold fhas
              rw [HPP.out, List.getElem?_eq_none (by rw [HNK.out]; omega)]
              simp
            have HHE := Lib.hid hh
            have d : decide (p < nk) = false := by simp; omega
            clear hh hpe
            go_wp2
            go_meet
            exact ⟨by rw [HHE.out], rfl⟩
        case rest =>
          obtain ⟨rfl, hw⟩ := hcut
          obtain rfl := hw.symm
          clear hw
          obtain ⟨dl, hdl⟩ : ∃ q, (decide (DS[t]? = some true)) = q := ⟨_, rfl⟩
          have HDL := Lib.hid hdl
          clear hdl
          go_upto_region 11 with (fail)
          go_cut [67] (fun z wx => z = .bool dl ∧ wx = wr)
          case first =>
            by_cases hq : t < qn
            · have hkq : t < DS.length := by rw [HQN.out]; exact hq
              have hu : DS[t]? = some DS[t] := List.getElem?_eq_getElem hkq
              generalize DS[t] = m at *
              obtain ⟨b2, p2, q2, e2, hb2, _, hd2⟩ := HD.out.at t hq (Bo m) (by rw [List.getElem?_map, hu]; rfl)
              obtain rfl := (Value.slice.inj e2).1
              have hcm := (hBr.cell (p := ⟨b2, p2 + t, none⟩) hb2).trans hd2
              have hh : dl = m := by
                rw [← HDL.out, hu]
                cases m <;> rfl
              have HHE := Lib.hid hh
              have d : decide (t < qn) = true := by simp [hq]
              have qq : (t : Int) < (qn : Int) := by omega
              simp only [Bo] at hcm
              clear hu hkq hh e2 hd2
              go_wp2
              go_meet
              exact ⟨by rw [HHE.out], rfl⟩
            · have hh : dl = false := by
                rw [← HDL.out, List.getElem?_eq_none (by rw [HQN.out]; omega)]
                simp
              have HHE := Lib.hid hh
              have d : decide (t < qn) = false := by simp; omega
              clear hh
              go_wp2
              go_meet
              exact ⟨by rw [HHE.out], rfl⟩
          case rest =>
            obtain ⟨rfl, hw⟩ := hcut
            obtain rfl := hw.symm
            clear hw
            cases dl with
            | true =>
              obtain ⟨y, hy⟩ : ∃ y, x.del l = y := ⟨_, rfl⟩
              have hms := HMS.out
              have hxs : x.small := ⟨by rw [HNK.out]; omega, by rw [HNV.out]; have := HNVK.out; omega, by rw [HKD.out]; omega, HXL.out.1, HXL.out.2⟩
              have hok : x.delOk l = h := (Nd.delOk_leaf l hms.leaf hms.fits).trans HH.out
              have hyl : y.leaf = true := by rw [← hy, Nd.del_leaf]; exact hms.leaf
              have hyn : y.next = 0 := by rw [← hy, Nd.del_next]; exact hms.next
              have hyf : y.fits = true := by rw [← hy]; exact Nd.del_fits l hms.leaf hms.fits
              have hys : y.small := by rw [← hy]; exact hxs.del l
              obtain ⟨mk, hmk⟩ : ∃ q, y.keys.length = q := ⟨_, rfl⟩
              obtain ⟨mv, hmv⟩ : ∃ q, y.vals.length = q := ⟨_, rfl⟩
              obtain ⟨md, hmd⟩ : ∃ q, y.kids.length = q := ⟨_, rfl⟩
              have HY := Lib.hid hy
              have HYL := Lib.hid hyl
              have HYN := Lib.hid hyn
              have HYF := Lib.hid hyf
              have HYS := Lib.hid hys
              have HMK := Lib.hid hmk
              have HMV := Lib.hid hmv
              have HMD := Lib.hid hmd
              have HOK := Lib.hid hok
              have ba := hms.box
              have hB := hBr
              have hgW : g < wr.heap.size := by omega
              have hb1r : b1 < wr.heap.size := by have := hBr.size; omega
              clear hms hy hyl hyn hyf hys hmk hmv hmd hok
              go_wp2_with fail
              refine wp_region_partsDV (WMd12 wr g pn pc t b1 p1 ll c0 mk mv md h a0 n1 n2 n3 y) 11 [[], [], [], [1, 2], [1, 2, 3], [0, 1, 2, 3, 4], [0, 1, 2, 3, 4, 5], [0, 1, 2, 3, 4, 5, 6], [0, 1, 2, 3, 4, 5, 6], [], [0, 1, 2, 3, 4, 5, 6, 7, 9]] [some 69, some 70, some 71, some 72, some 73, some 74, some 68, some 75, some 76, some 12, none, some 13] [[], [], [], [1, 2], [3], [0, 4], [5], [5, 6], [6], [], [5, 7, 9]] [0, 1, 2, 3, 4, 6, 8, 10] [(5, 10), (7, 10), (9, 10)] (by decide) (by kernel_rfl) (by kernel_rfl) rfl (PMd12 wr g pn pc t b1 p1 ll c0 mk mv md h a0 n1 n2 n3 y) (PMd12_cong wr g pn pc t b1 p1 ll c0 mk mv md h a0 n1 n2 n3 y) (PMd12_stable wr g pn pc t b1 p1 ll c0 mk mv md h a0 n1 n2 n3 y hgW) ?pMd12 ?_
              case pMd12 =>
                intro i hi o ho vs lo hx_ w' hg hp hdd
                match i, hi with
                | 0, _ =>
                  obtain rfl := Option.some.inj ho
                  clear ho
                  simp only [actsD, List.getD_cons_zero, List.getD_cons_succ, List.foldl_cons, List.foldl_nil, Act.put, List.setIfInBounds_toArray, List.set_cons_succ, List.set_cons_zero]
                  have hsz := hg.size
                  have e0 := (hg.cell (g) 0 ba.lt (by rintro ⟨j, _, hne, hb, hw⟩; simp only [WMd12] at hw; omega)).trans (ba.cell 0 _ rfl)
                  have e1 := (hg.cell (g) 1 ba.lt (by rintro ⟨j, _, hne, hb, hw⟩; simp only [WMd12] at hw; omega)).trans (ba.cell 1 _ rfl)
                  have e2 := (hg.cell (g) 2 ba.lt (by rintro ⟨j, _, hne, hb, hw⟩; simp only [WMd12] at hw; omega)).trans (ba.cell 2 _ rfl)
                  have e3 := (hg.cell (g) 3 ba.lt (by rintro ⟨j, _, hne, hb, hw⟩; simp only [WMd12] at hw; omega)).trans (ba.cell 3 _ rfl)
                  have e4 := (hg.cell (g) 4 ba.lt (by rintro ⟨j, _, hne, hb, hw⟩; simp only [WMd12] at hw; omega)).trans (ba.cell 4 _ rfl)
                  go_wp2
                  exact ⟨_, rfl, GrowC.refl _, rfl⟩
                | 1, _ =>
                  obtain rfl := Option.some.inj ho
                  clear ho
                  simp only [actsD, List.getD_cons_zero, List.getD_cons_succ, List.foldl_cons, List.foldl_nil, Act.put, List.setIfInBounds_toArray, List.set_cons_succ, List.set_cons_zero]
                  have hsz := hg.size
                  go_wp2
                  exact ⟨_, rfl, GrowC.refl _, rfl⟩
                | 2, _ =>
                  obtain rfl := Option.some.inj ho
                  clear ho
                  simp only [actsD, List.getD_cons_zero, List.getD_cons_succ, List.foldl_cons, List.foldl_nil, Act.put, List.setIfInBounds_toArray, List.set_cons_succ, List.set_cons_zero]
                  have hsz := hg.size
                  go_wp2
                  exact ⟨_, rfl, GrowC.refl _, rfl⟩
                | 3, _ =>
                  obtain rfl := Option.some.inj ho
                  clear ho
                  simp only [actsD, List.getD_cons_zero, List.getD_cons_succ, List.foldl_cons, List.foldl_nil, Act.put, List.setIfInBounds_toArray, List.set_cons_succ, List.set_cons_zero]
                  obtain ⟨_, _, _, h1⟩ := hp 1 (by simp)
                  simp only [PMd12] at h1
                  obtain ⟨_, _, _, h2⟩ := hp 2 (by simp)
                  simp only [PMd12] at h2
                  have hsz := hg.size
                  rw [h1, h2]
                  have q1 : (t : Int) < (pn : Int) := by omega
                  go_wp2
                  exact ⟨_, rfl, GrowC.refl _, rfl⟩
                | 4, _ =>
                  obtain rfl := Option.some.inj ho
                  clear ho
                  simp only [actsD, List.getD_cons_zero, List.getD_cons_succ, List.foldl_cons, List.foldl_nil, Act.put, List.setIfInBounds_toArray, List.set_cons_succ, List.set_cons_zero]
                  obtain ⟨_, _, _, h3⟩ := hp 3 (by simp)
                  simp only [PMd12] at h3
                  have hsz := hg.size
                  rw [h3]
                  have hc := (hg.cell b1 (p1 + t) hb1r (by rintro ⟨j, _, hne, hb, hw⟩; simp only [WMd12] at hw; omega)).trans HCR.out
                  go_wp2
                  exact ⟨_, rfl, GrowC.refl _, rfl⟩
                | 5, _ =>
                  obtain rfl := Option.some.inj ho
                  clear ho
                  simp only [actsD, List.getD_cons_zero, List.getD_cons_succ, List.foldl_cons, List.foldl_nil, Act.put, List.setIfInBounds_toArray, List.set_cons_succ, List.set_cons_zero]
                  obtain ⟨_, _, _, h0⟩ := hp 0 (by simp)
                  simp only [PMd12] at h0
                  obtain ⟨_, _, _, h4⟩ := hp 4 (by simp)
                  simp only [PMd12] at h4
                  have hsz := hg.size
                  rw [h0, h4]
                  have hgB : Below w.heap.size w w' := hBr.trans (hg.below (fun k hk => ⟨by omega, fun o => by rintro ⟨j, _, _, _, hw⟩; simp only [WMd12] at hw; omega⟩))
                  have hna : NodeAt w' n1 n2 n3 x := (HMS.out.n _ (GrowX.of_growC hg (fun q i hw => by obtain ⟨j, h1, h2, h3, h4⟩ := hw; simp only [WMd12] at h4; exact absurd (by obtain ⟨rfl, _⟩ := h4; decide) h3)))
                  go_wp2_with fail
                  have hdel := del_any x hxs n1 n2 n3 l (.slice a0 ll c0) w' hna (by rw [HLL.out]; exact HRS.out.below hgB (Nat.le_refl _)) (by rw [HLL.out]; exact hlm)
                  rw [HMS.out.leaf, HMS.out.next, HOK.out] at hdel
                  refine hdel.mono ?_
                  rintro e wz ⟨r, rfl, ak, av, ad, rfl, hky, hb⟩
                  rw [HY.out, HMK.out, HMV.out, HMD.out] at hky
                  simp only [nodeV, HY.out, HYL.out, HYN.out, HMK.out, HMV.out, HMD.out]
                  go_wp2
                  exact ⟨_, rfl, GrowC.of_grow hb, ak, av, ad, rfl, (hky.imp (fun _ hh => hh.node)).mono (fun k hk hh => by rcases hh with hh | hh; exact hh; omega)⟩
                | 6, _ =>
                  obtain rfl := Option.some.inj ho
                  clear ho
                  simp only [actsD, List.getD_cons_zero, List.getD_cons_succ, List.foldl_cons, List.foldl_nil, Act.put, List.setIfInBounds_toArray, List.set_cons_succ, List.set_cons_zero]
                  obtain ⟨_, _, _, h5⟩ := hp 5 (by simp)
                  simp only [PMd12] at h5
                  have hsz := hg.size
                  obtain ⟨ak, av, ad, e5, hk5⟩ := h5
                  go_wp2
                  exact ⟨_, rfl, GrowC.refl _, rfl, _, e5⟩
                | 7, _ =>
                  obtain rfl := Option.some.inj ho
                  clear ho
                  simp only [actsD, List.getD_cons_zero, List.getD_cons_succ, List.foldl_cons, List.foldl_nil, Act.put, List.setIfInBounds_toArray, List.set_cons_succ, List.set_cons_zero]
                  obtain ⟨_, _, _, h5⟩ := hp 5 (by simp)
                  simp only [PMd12] at h5
                  obtain ⟨_, _, _, h6⟩ := hp 6 (by simp)
                  simp only [PMd12] at h6
                  have hsz := hg.size
                  obtain ⟨ak, av, ad, e5, hk5⟩ := h5
                  obtain ⟨h6, _⟩ := h6
                  rw [h6, e5]
                  go_wp2
                  exact ⟨_, rfl, GrowC.refl _, ak, av, ad, rfl, hk5⟩
                | 8, _ =>
                  obtain rfl := Option.some.inj ho
                  clear ho
                  simp only [actsD, List.getD_cons_zero, List.getD_cons_succ, List.foldl_cons, List.foldl_nil, Act.put, List.setIfInBounds_toArray, List.set_cons_succ, List.set_cons_zero]
                  obtain ⟨_, _, _, h6⟩ := hp 6 (by simp)
                  simp only [PMd12] at h6
                  have hsz := hg.size
                  obtain ⟨h6, r, e6⟩ := h6
                  rw [e6]
                  go_wp2
                  exact ⟨_, rfl, GrowC.refl _, rfl⟩
                | 9, _ =>
                  obtain rfl := Option.some.inj ho
                  clear ho
                  simp only [actsD, List.getD_cons_zero, List.getD_cons_succ, List.foldl_cons, List.foldl_nil, Act.put, List.setIfInBounds_toArray, List.set_cons_succ, List.set_cons_zero]
                  have hsz := hg.size
                  have hbx := Box.new w' #[.bool false, .slice none 0 0, .slice none 0 0, .slice none 0 0, .int .i64 0] 25 rfl
                  go_wp2
                  exact ⟨_, rfl, GrowC.of_grow ((Grow.refl _).alloc _), rfl, by omega, by simp, hbx⟩
                | 10, _ =>
                  obtain rfl := Option.some.inj ho
                  clear ho
                  simp only [actsD, List.getD_cons_zero, List.getD_cons_succ, List.foldl_cons, List.foldl_nil, Act.put, List.setIfInBounds_toArray, List.set_cons_succ, List.set_cons_zero]
                  obtain ⟨_, _, _, h5⟩ := hp 5 (by simp)
                  simp only [PMd12] at h5
                  obtain ⟨_, _, _, h7⟩ := hp 7 (by simp)
                  simp only [PMd12] at h7
                  obtain ⟨_, _, _, h9⟩ := hp 9 (by simp)
                  simp only [PMd12] at h9
                  have hsz := hg.size
                  have hb5 := (hp 5 (by simp)).1
                  have hd59 := hdd 5 (by simp) 9 (by simp) (by decide)
                  obtain ⟨e9, hlo9, hlh9, hbx⟩ := h9
                  obtain ⟨ak, av, ad, e7, hk7⟩ := h7
                  rw [e9, e7]
                  have hst := hbx.set5 (.bool true) (.slice ak mk mk) (.slice av mv mv) (.slice ad md md) (.int .i64 0)
                  have hkp := (hk7.grow (GrowX.of_growC hst.2 (fun k i e => by subst e; omega))).mono (Y := fun k => k < wr.heap.size) (fun k _ hk => .inl (by omega))
                  have hgr := hst.2.mono (Y := WMd12 wr g pn pc t b1 p1 ll c0 mk mv md h a0 n1 n2 n3 y 10) (fun k i e => ⟨rfl, by omega⟩)
                  have hst1 := hst.1
                  have H1 := Lib.hid (And.intro hst1 (And.intro hkp hgr))
                  clear hst hkp hgr hst1
                  have z0 := hbx.cell 0 _ rfl
                  have z1 := hbx.cell 1 _ rfl
                  have z2 := hbx.cell 2 _ rfl
                  have z3 := hbx.cell 3 _ rfl
                  have z4 := hbx.cell 4 _ rfl
                  have fz := hbx.free
                  go_wp2
                  exact ⟨.bool true, rfl, H1.out.2.2, _, ak, av, ad, e9, hlo9, e7, H1.out.1, H1.out.2.1⟩
                | (q + 11), hq => exact absurd hq (by omega)
              intro vS lo hi w1 hg hp hd
              obtain ⟨_, _, _, h0⟩ := hp 0 (by omega)
              replace h0 := h0 (by decide)
              obtain ⟨_, _, _, h1⟩ := hp 1 (by omega)
              replace h1 := h1 (by decide)
              obtain ⟨_, _, _, h2⟩ := hp 2 (by omega)
              replace h2 := h2 (by decide)
              obtain ⟨_, _, _, h3⟩ := hp 3 (by omega)
              replace h3 := h3 (by decide)
              obtain ⟨_, _, _, h4⟩ := hp 4 (by omega)
              replace h4 := h4 (by decide)
              obtain ⟨_, _, _, h6⟩ := hp 6 (by omega)
              replace h6 := h6 (by decide)
              obtain ⟨_, _, _, h8⟩ := hp 8 (by omega)
              replace h8 := h8 (by decide)
              obtain ⟨_, _, _, h10⟩ := hp 10 (by omega)
              replace h10 := h10 (by decide)
              simp only [PMd12] at h0 h1 h2 h3 h4 h6 h8 h10
              clear hp hd
              have hsz := hg.size
              replace ba := ba.grow hg (by intro i _; rintro ⟨j, _, hw⟩; simp only [WMd12] at hw; omega)
              replace hB := hB.trans (hg.below (fun k hk => ⟨by omega, fun o => by rintro ⟨j, _, hw⟩; simp only [WMd12] at hw; omega⟩))
              have hr : List.range 11 = [0, 1, 2, 3, 4, 5, 6, 7, 8, 9, 10] := rfl
              rw [hr]
              clear hr
              simp only [List.drop_succ_cons, List.drop_zero, List.drop_nil, actsD, List.getD_cons_zero, List.getD_cons_succ, List.foldl_cons, List.foldl_nil, Act.put, List.setIfInBounds_toArray, List.set_cons_succ, List.set_cons_zero, h0, h1, h2, h3, h4]
              clear h0 h1 h2 h3 h4
              obtain ⟨b, ak, av, ad, e9, hlb, e7, hbx, hky⟩ := h10
              simp only [e9, h8]
              clear e9 e7 h8 h6
              have hgo := GrowX.of_growC (Y := fun q => wr.heap.size ≤ q) hg (fun q i hw => by obtain ⟨j, _, hw⟩ := hw; simp only [WMd12] at hw; omega)
              have hka := own_growx hA.out hgo (fun q e hq => by have := (hA.out.lt q e).2; omega)
              have hva := own_growx hBB.out hgo (fun q e hq => by have := (hBB.out.lt q e).2; omega)
              have hst := ba.set5 (.bool true) (.slice ak mk mk) (.slice av mv mv) (.slice ad md md) (.int .i64 0)
              have hgx := GrowX.of_growC (Y := fun q => q < g + 1) hst.2 (fun q i e => by omega)
              have hs1 : g + 1 ≤ w1.heap.size := by omega
              have hkx : Kept (XR (g + 1) (.slice ka nk kc) (.slice va nv vc)) w1 (fun w2 => NodeAt w2 (.slice ak mk mk) (.slice av mv mv) (.slice ad md md) y) := hky.mono (fun k _ hk => by
                rcases hk with hk | hk | hk
                · show k < _; omega
                · exact (hA.out.lt k hk).2
                · exact (hBB.out.lt k hk).2)
              have HW := Lib.hid (And.intro hst.1 (And.intro (hB.trans (hst.2.below (fun k hk => ⟨by omega, fun _ => by omega⟩))) (And.intro (own_growx hka hgx (fun q e hq => by have := (hka.lt q e).1; omega)) (And.intro (own_growx hva hgx (fun q e hq => by have := (hva.lt q e).1; omega)) (And.intro (hkx.grow (hgx.mono (fun k hk => .inl hk))) (Nat.le_trans hs1 hst.2.size))))))
              have HNE := Lib.hid HMS.out.ne
              have bb := hbx
              clear hg hgo hka hva hst hgx hkx hky hB hbx
              have cb0 := bb.cell 0 _ rfl
              have cb1 := bb.cell 1 _ rfl
              have cb2 := bb.cell 2 _ rfl
              have cb3 := bb.cell 3 _ rfl
              have cb4 := bb.cell 4 _ rfl
              have fb := bb.free
              have cn0 := ba.cell 0 _ rfl
              have cn1 := ba.cell 1 _ rfl
              have cn2 := ba.cell 2 _ rfl
              have cn3 := ba.cell 3 _ rfl
              have cn4 := ba.cell 4 _ rfl
              have fn := ba.free
              go_upto_region 16 with (fail)
              clear cb0 cb1 cb2 cb3 cb4 fb
              clear cn0 cn1 cn2 cn3 cn4 fn ba bb hs1
              refine wp_world (fun u => Box u g [.bool true, .slice ak mk mk, .slice av mv mv, .slice ad md md, .int .i64 0] ∧ Below w.heap.size w u ∧ u.ownsRow (g + 1) 9 1 (.slice ka nk kc) nk (x.keys.map S) ∧ u.ownsRow (g + 1) 9 1 (.slice va nv vc) nv (x.vals.map S) ∧ Kept (XR (g + 1) (.slice ka nk kc) (.slice va nv vc)) u (fun w2 => NodeAt w2 (.slice ak mk mk) (.slice av mv mv) (.slice ad md md) y) ∧ g + 1 ≤ u.heap.size) HW.out ?_
              clear HW
              rintro w2 ⟨ba, hB, hka, hva, hkx, hs2⟩
              cases h with
              | false =>
                have hyx : y = x := by rw [← HY.out]; exact Nd.del_no HOK.out
                have hMS2 : MS w g w2 (.slice ak mk mk) (.slice av mv mv) (.slice ad md md) (.slice ka nk kc) (.slice va nv vc) x :=
                  ⟨ba, hB, by rw [HNK.out]; exact hka, by rw [HNV.out]; exact hva, HNE.out, by rw [← hyx]; exact hkx, HMS.out.leaf, HMS.out.fits, HMS.out.next, hlt0, hs2⟩
                have HM2 := Lib.hid hMS2
                clear hyx hMS2 ba hB hka hva hkx
                go_wp2
                go_roundw
                case rel => exact ⟨t + 1, .slice ak mk mk, .slice av mv mv, .slice ad md md, x, by omega, by go_num, by rw [HNK.out]; omega, HXL, HM2.out⟩
                case measure => simp [intOf]; omega
              | true =>
                have hpl : p < nk := by have := (fhas_lt HH.out).1; rw [HPP.out, HNK.out] at this; exact this
                have hpv : p < nv := by have := HNVK.out; omega
                obtain ⟨gk, ck', he, hgk1, hgk2, _, _⟩ := own_some hka (fun e => by injection e with _ e2 _; omega)
                obtain rfl := (Value.slice.inj he).1
                clear he
                have HRK := Lib.hid ((Reads.of_own hka).kept (X := fun k => w2.heap.size ≤ k) (fun k hk h => by omega))
                have HKA := Lib.hid hka
                have HVA := Lib.hid hva
                have HKX := Lib.hid hkx
                clear hka hva hkx
                have r1 : (p : Int) ≤ (nk : Int) := by omega
                have r2 : (p : Int) ≤ (kc : Int) := by omega
                have r3 : ((p : Int) + 1).toNat = p + 1 := by omega
                have r4 : 0 ≤ (p : Int) + 1 := by omega
                have r5 : (p : Int) + 1 ≤ (nk : Int) := by omega
                have hB2 := hB
                go_upto_region 17 with (fail)
                refine wp_region_partsDV (WMd17 w2 p nk kc (some ⟨gk, 0, none⟩) x.keys) 9 [[], [], [], [1, 2], [0, 1, 2, 3], [], [], [6], [5, 6, 7]] [some 82, some 83, some 84, some 85, some 86, some 87, some 88, some 89, some 90, some 91, some 6] [[], [], [], [1, 2], [0, 3], [], [], [6], [5, 7]] [1, 2, 3, 4, 5, 6, 7, 8] [(0, 4)] (by decide) (by kernel_rfl) (by kernel_rfl) rfl (PMd17 w2 p nk kc (some ⟨gk, 0, none⟩) x.keys) (PMd17_cong w2 p nk kc (some ⟨gk, 0, none⟩) x.keys) (PMd17_stable w2 p nk kc (some ⟨gk, 0, none⟩) x.keys ) ?pMd17 ?_
                case pMd17 =>
                  intro i hi o ho vs lo hx_ w' hg hp hdd
                  match i, hi with
                  | 0, _ =>
                    obtain rfl := Option.some.inj ho
                    clear ho
                    simp only [actsD, List.getD_cons_zero, List.getD_cons_succ, List.foldl_cons, List.foldl_nil, Act.put, List.setIfInBounds_toArray, List.set_cons_succ, List.set_cons_zero]
                    have hsz := hg.size
                    have ho := own_lit (w1 := w') (base := w2.heap.size) (T := 9) (n := 0) (arr := #[]) (l := []) rfl hsz rfl rfl (by omega)
                    go_wp2
                    exact ⟨_, rfl, GrowC.of_grow ((Grow.refl _).alloc _), rfl, hsz, ho⟩
                  | 1, _ =>
                    obtain rfl := Option.some.inj ho
                    clear ho
                    simp only [actsD, List.getD_cons_zero, List.getD_cons_succ, List.foldl_cons, List.foldl_nil, Act.put, List.setIfInBounds_toArray, List.set_cons_succ, List.set_cons_zero]
                    have hsz := hg.size
                    go_wp2
                    exact ⟨_, rfl, GrowC.refl _, rfl⟩
                  | 2, _ =>
                    obtain rfl := Option.some.inj ho
                    clear ho
                    simp only [actsD, List.getD_cons_zero, List.getD_cons_succ, List.foldl_cons, List.foldl_nil, Act.put, List.setIfInBounds_toArray, List.set_cons_succ, List.set_cons_zero]
                    have hsz := hg.size
                    go_wp2
                    exact ⟨_, rfl, GrowC.refl _, rfl⟩
                  | 3, _ =>
                    obtain rfl := Option.some.inj ho
                    clear ho
                    simp only [actsD, List.getD_cons_zero, List.getD_cons_succ, List.foldl_cons, List.foldl_nil, Act.put, List.setIfInBounds_toArray, List.set_cons_succ, List.set_cons_zero]
                    obtain ⟨_, _, _, h1⟩ := hp 1 (by simp)
                    simp only [PMd17] at h1
                    obtain ⟨_, _, _, h2⟩ := hp 2 (by simp)
                    simp only [PMd17] at h2
                    have hsz := hg.size
                    rw [h1, h2]
                    go_wp2
                    exact ⟨_, rfl, GrowC.refl _, rfl⟩
                  | 4, _ =>
                    obtain rfl := Option.some.inj ho
                    clear ho
                    simp only [actsD, List.getD_cons_zero, List.getD_cons_succ, List.foldl_cons, List.foldl_nil, Act.put, List.setIfInBounds_toArray, List.set_cons_succ, List.set_cons_zero]
                    obtain ⟨_, _, _, h0⟩ := hp 0 (by simp)
                    simp only [PMd17] at h0
                    obtain ⟨_, _, _, h3⟩ := hp 3 (by simp)
                    simp only [PMd17] at h3
                    have hsz := hg.size
                    obtain ⟨e0, hlo0, ho0⟩ := h0
                    rw [e0]
                    have hrr := (HRK.out.now.below (hg.below (fun k hk => ⟨hk, fun o => by rintro ⟨j, _, _, _, hw⟩; simp only [WMd17] at hw; omega⟩)) (Nat.le_refl _)).take1 (k := p) (by omega)
                    rw [← List.map_take] at hrr
                    rw [h3]
                    go_wp2_with (first
                      | (at_builtin; refine wpList_append_own3 sl_strs (.tmp 82) (.tmp 85) rfl rfl (base := w2.heap.size) rfl ho0 rfl hrr (Ss_one _) (by omega) (by omega) hsz ?_; intro gq cq wz hle hgz hor hown))
                    simp only [Nat.zero_add, List.nil_append] at hown hle ⊢
                    exact ⟨_, rfl, hgz.mono (fun k i e => ⟨rfl, by omega⟩), gq, cq, rfl, hown⟩
                  | 5, _ =>
                    obtain rfl := Option.some.inj ho
                    clear ho
                    simp only [actsD, List.getD_cons_zero, List.getD_cons_succ, List.foldl_cons, List.foldl_nil, Act.put, List.setIfInBounds_toArray, List.set_cons_succ, List.set_cons_zero]
                    have hsz := hg.size
                    go_wp2
                    exact ⟨_, rfl, GrowC.refl _, rfl⟩
                  | 6, _ =>
                    obtain rfl := Option.some.inj ho
                    clear ho
                    simp only [actsD, List.getD_cons_zero, List.getD_cons_succ, List.foldl_cons, List.foldl_nil, Act.put, List.setIfInBounds_toArray, List.set_cons_succ, List.set_cons_zero]
                    have hsz := hg.size
                    go_wp2
                    exact ⟨_, rfl, GrowC.refl _, rfl⟩
                  | 7, _ =>
                    obtain rfl := Option.some.inj ho
                    clear ho
                    simp only [actsD, List.getD_cons_zero, List.getD_cons_succ, List.foldl_cons, List.foldl_nil, Act.put, List.setIfInBounds_toArray, List.set_cons_succ, List.set_cons_zero]
                    obtain ⟨_, _, _, h6⟩ := hp 6 (by simp)
                    simp only [PMd17] at h6
                    have hsz := hg.size
                    rw [h6]
                    go_wp2
                    exact ⟨_, rfl, GrowC.refl _, rfl⟩
                  | 8, _ =>
                    obtain rfl := Option.some.inj ho
                    clear ho
                    simp only [actsD, List.getD_cons_zero, List.getD_cons_succ, List.foldl_cons, List.foldl_nil, Act.put, List.setIfInBounds_toArray, List.set_cons_succ, List.set_cons_zero]
                    obtain ⟨_, _, _, h5⟩ := hp 5 (by simp)
                    simp only [PMd17] at h5
                    obtain ⟨_, _, _, h7⟩ := hp 7 (by simp)
                    simp only [PMd17] at h7
                    have hsz := hg.size
                    rw [h5, h7]
                    by_cases hkc : kc = p + 1
                    · have hn0 : nk - (p + 1) = 0 := by omega
                      go_wp2
                      exact ⟨_, rfl, GrowC.refl _, (some ⟨gk, 0, none⟩), 0, by rw [hn0], fun w2 _ => Reads.none1 (by rw [List.length_map, List.length_drop, HNK.out]; exact hn0) hn0⟩
                    · go_wp2
                      exact ⟨_, rfl, GrowC.refl _, _, _, rfl, by rw [List.map_drop]; exact HRK.out.imp (fun w2 hh => by have h2 := hh.drop1 (k := p + 1) (by omega) hkc; rwa [Nat.zero_add] at h2)⟩
                  | (q + 9), hq => exact absurd hq (by omega)
                intro vS lo hi w3 hg hp hd
                obtain ⟨_, _, _, h1⟩ := hp 1 (by omega)
                replace h1 := h1 (by decide)
                obtain ⟨_, _, _, h2⟩ := hp 2 (by omega)
                replace h2 := h2 (by decide)
                obtain ⟨_, _, _, h3⟩ := hp 3 (by omega)
                replace h3 := h3 (by decide)
                obtain ⟨_, _, _, h4⟩ := hp 4 (by omega)
                replace h4 := h4 (by decide)
                obtain ⟨_, _, _, h5⟩ := hp 5 (by omega)
                replace h5 := h5 (by decide)
                obtain ⟨_, _, _, h6⟩ := hp 6 (by omega)
                replace h6 := h6 (by decide)
                obtain ⟨_, _, _, h7⟩ := hp 7 (by omega)
                replace h7 := h7 (by decide)
                obtain ⟨_, _, _, h8⟩ := hp 8 (by omega)
                replace h8 := h8 (by decide)
                simp only [PMd17] at h1 h2 h3 h4 h5 h6 h7 h8
                clear hp hd
                have hsz := hg.size
                replace hB := hB.trans (hg.below (fun k hk => ⟨by omega, fun o => by rintro ⟨j, _, hw⟩; simp only [WMd17] at hw; omega⟩))
                have hr : List.range 9 = [0, 1, 2, 3, 4, 5, 6, 7, 8] := rfl
                rw [hr]
                clear hr
                simp only [List.drop_succ_cons, List.drop_zero, List.drop_nil, actsD, List.getD_cons_zero, List.getD_cons_succ, List.foldl_cons, List.foldl_nil, Act.put, List.setIfInBounds_toArray, List.set_cons_succ, List.set_cons_zero, h1, h2, h3, h5, h6, h7]
                clear h1 h2 h3 h5 h6 h7
                obtain ⟨gq, cq, e4, ho4⟩ := h4
                obtain ⟨a8, c8, e8, hr8⟩ := h8
                simp only [e4, e8]
                have hrd := hr8 _ (GrowX.of_growC (Y := fun k => w2.heap.size ≤ k) hg (fun k i hw => by obtain ⟨j, _, hw⟩ := hw; simp only [WMd17] at hw; omega))
                have hgr0 : Grow w2 w3 := hg.below (fun k hk => ⟨hk, fun o => by rintro ⟨j, _, hw⟩; simp only [WMd17] at hw; omega⟩)
                have hgq := (ho4.lt gq rfl).1
                clear e4 e8 hr8 hg
                go_wp2_with (first
                  | (at_builtin; refine wpList_append_own3 sl_strs (.tmp 86) (.tmp 90) rfl rfl (base := w2.heap.size) rfl ho4 rfl hrd (Ss_one _) (by omega) (by omega) hsz ?_; intro k4 c4 w4 hle4 hgz4 hor4 hown4; rw [← List.map_append] at hown4; have hg4 : Grow w2 w4 := hgr0.trans' hgz4 hgq; have hk4 : w2.heap.size ≤ k4 := (by rcases hor4 with e | e <;> omega); clear hle4 hgz4 hor4 ho4 hrd hgr0 hgq))
                replace ba := ba.below hg4 (Nat.le_refl _)
                replace hB := hB2.trans (hg4.mono (by omega))
                clear hB2
                have hkx4 := XR.turnA (n := p + (nk - (p + 1))) (c := c4) HKX.out hg4 hk4
                have hva4 := own_below HVA.out hg4 (fun q e => (HVA.out.lt q e).2)
                have hka4 := own_base hown4 hs2
                replace hs2 := Nat.le_trans hs2 hg4.size
                clear hown4
                obtain ⟨gv, cv', he, hgv1, hgv2, _, _⟩ := own_some hva4 (fun e => by injection e with _ e2 _; omega)
                obtain rfl := (Value.slice.inj he).1
                clear he
                have HRV := Lib.hid ((Reads.of_own hva4).kept (X := fun k => w4.heap.size ≤ k) (fun k hk h => by omega))
                have HKA4 := Lib.hid hka4
                have HKX4 := Lib.hid hkx4
                have HVA4 := Lib.hid hva4
                clear hka4 hkx4 hva4 hg4 r1 r2 r5
                have hnv40 : nv ≤ 40 := by have := HNVK.out; omega
                have r1 : (p : Int) ≤ (nv : Int) := by omega
                have r2 : (p : Int) ≤ (vc : Int) := by omega
                have r5 : (p : Int) + 1 ≤ (nv : Int) := by omega
                have hB4 := hB
                go_upto_region 18 with (fail)
                refine wp_region_partsDV (WMd18 w4 p nv vc (some ⟨gv, 0, none⟩) x.vals) 9 [[], [], [], [1, 2], [0, 1, 2, 3], [], [], [6], [5, 6, 7]] [some 92, some 93, some 94, some 95, some 96, some 97, some 98, some 99, some 100, some 101, some 7] [[], [], [], [1, 2], [0, 3], [], [], [6], [5, 7]] [1, 2, 3, 4, 5, 6, 7, 8] [(0, 4)] (by decide) (by kernel_rfl) (by kernel_rfl) rfl (PMd18 w4 p nv vc (some ⟨gv, 0, none⟩) x.vals) (PMd18_cong w4 p nv vc (some ⟨gv, 0, none⟩) x.vals) (PMd18_stable w4 p nv vc (some ⟨gv, 0, none⟩) x.vals ) ?pMd18 ?_
                case pMd18 =>
                  intro i hi o ho vs lo hx_ w' hg hp hdd
                  match i, hi with
                  | 0, _ =>
                    obtain rfl := Option.some.inj ho
                    clear ho
                    simp only [actsD, List.getD_cons_zero, List.getD_cons_succ, List.foldl_cons, List.foldl_nil, Act.put, List.setIfInBounds_toArray, List.set_cons_succ, List.set_cons_zero]
                    have hsz := hg.size
                    have ho := own_lit (w1 := w') (base := w4.heap.size) (T := 9) (n := 0) (arr := #[]) (l := []) rfl hsz rfl rfl (by omega)
                    go_wp2
                    exact ⟨_, rfl, GrowC.of_grow ((Grow.refl _).alloc _), rfl, hsz, ho⟩
                  | 1, _ =>
                    obtain rfl := Option.some.inj ho
                    clear ho
                    simp only [actsD, List.getD_cons_zero, List.getD_cons_succ, List.foldl_cons, List.foldl_nil, Act.put, List.setIfInBounds_toArray, List.set_cons_succ, List.set_cons_zero]
                    have hsz := hg.size
                    go_wp2
                    exact ⟨_, rfl, GrowC.refl _, rfl⟩
                  | 2, _ =>
                    obtain rfl := Option.some.inj ho
                    clear ho
                    simp only [actsD, List.getD_cons_zero, List.getD_cons_succ, List.foldl_cons, List.foldl_nil, Act.put, List.setIfInBounds_toArray, List.set_cons_succ, List.set_cons_zero]
                    have hsz := hg.size
                    go_wp2
                    exact ⟨_, rfl, GrowC.refl _, rfl⟩
                  | 3, _ =>
                    obtain rfl := Option.some.inj ho
                    clear ho
                    simp only [actsD, List.getD_cons_zero, List.getD_cons_succ, List.foldl_cons, List.foldl_nil, Act.put, List.setIfInBounds_toArray, List.set_cons_succ, List.set_cons_zero]
                    obtain ⟨_, _, _, h1⟩ := hp 1 (by simp)
                    simp only [PMd18] at h1
                    obtain ⟨_, _, _, h2⟩ := hp 2 (by simp)
                    simp only [PMd18] at h2
                    have hsz := hg.size
                    rw [h1, h2]
                    go_wp2
                    exact ⟨_, rfl, GrowC.refl _, rfl⟩
                  | 4, _ =>
                    obtain rfl := Option.some.inj ho
                    clear ho
                    simp only [actsD, List.getD_cons_zero, List.getD_cons_succ, List.foldl_cons, List.foldl_nil, Act.put, List.setIfInBounds_toArray, List.set_cons_succ, List.set_cons_zero]
                    obtain ⟨_, _, _, h0⟩ := hp 0 (by simp)
                    simp only [PMd18] at h0
                    obtain ⟨_, _, _, h3⟩ := hp 3 (by simp)
                    simp only [PMd18] at h3
                    have hsz := hg.size
                    obtain ⟨e0, hlo0, ho0⟩ := h0
                    rw [e0]
                    have hrr := (HRV.out.now.below (hg.below (fun k hk => ⟨hk, fun o => by rintro ⟨j, _, _, _, hw⟩; simp only [WMd18] at hw; omega⟩)) (Nat.le_refl _)).take1 (k := p) (by omega)
                    rw [← List.map_take] at hrr
                    rw [h3]
                    go_wp2_with (first
                      | (at_builtin; refine wpList_append_own3 sl_strs (.tmp 92) (.tmp 95) rfl rfl (base := w4.heap.size) rfl ho0 rfl hrr (Ss_one _) (by omega) (by omega) hsz ?_; intro gq cq wz hle hgz hor hown))
                    simp only [Nat.zero_add, List.nil_append] at hown hle ⊢
                    exact ⟨_, rfl, hgz.mono (fun k i e => ⟨rfl, by omega⟩), gq, cq, rfl, hown⟩
                  | 5, _ =>
                    obtain rfl := Option.some.inj ho
                    clear ho
                    simp only [actsD, List.getD_cons_zero, List.getD_cons_succ, List.foldl_cons, List.foldl_nil, Act.put, List.setIfInBounds_toArray, List.set_cons_succ, List.set_cons_zero]
                    have hsz := hg.size
                    go_wp2
                    exact ⟨_, rfl, GrowC.refl _, rfl⟩
                  | 6, _ =>
                    obtain rfl := Option.some.inj ho
                    clear ho
                    simp only [actsD, List.getD_cons_zero, List.getD_cons_succ, List.foldl_cons, List.foldl_nil, Act.put, List.setIfInBounds_toArray, List.set_cons_succ, List.set_cons_zero]
                    have hsz := hg.size
                    go_wp2
                    exact ⟨_, rfl, GrowC.refl _, rfl⟩
                  | 7, _ =>
                    obtain rfl := Option.some.inj ho
                    clear ho
                    simp only [actsD, List.getD_cons_zero, List.getD_cons_succ, List.foldl_cons, List.foldl_nil, Act.put, List.setIfInBounds_toArray, List.set_cons_succ, List.set_cons_zero]
                    obtain ⟨_, _, _, h6⟩ := hp 6 (by simp)
                    simp only [PMd18] at h6
                    have hsz := hg.size
                    rw [h6]
                    go_wp2
                    exact ⟨_, rfl, GrowC.refl _, rfl⟩
                  | 8, _ =>
                    obtain rfl := Option.some.inj ho
                    clear ho
                    simp only [actsD, List.getD_cons_zero, List.getD_cons_succ, List.foldl_cons, List.foldl_nil, Act.put, List.setIfInBounds_toArray, List.set_cons_succ, List.set_cons_zero]
                    obtain ⟨_, _, _, h5⟩ := hp 5 (by simp)
                    simp only [PMd18] at h5
                    obtain ⟨_, _, _, h7⟩ := hp 7 (by simp)
                    simp only [PMd18] at h7
                    have hsz := hg.size
                    rw [h5, h7]
                    by_cases hkc : vc = p + 1
                    · have hn0 : nv - (p + 1) = 0 := by omega
                      go_wp2
                      exact ⟨_, rfl, GrowC.refl _, (some ⟨gv, 0, none⟩), 0, by rw [hn0], fun w2 _ => Reads.none1 (by rw [List.length_map, List.length_drop, HNV.out]; exact hn0) hn0⟩
                    · go_wp2
                      exact ⟨_, rfl, GrowC.refl _, _, _, rfl, by rw [List.map_drop]; exact HRV.out.imp (fun w2 hh => by have h2 := hh.drop1 (k := p + 1) (by omega) hkc; rwa [Nat.zero_add] at h2)⟩
                  | (q + 9), hq => exact absurd hq (by omega)
                intro vS lo hi w5 hg hp hd
                obtain ⟨_, _, _, h1⟩ := hp 1 (by omega)
                replace h1 := h1 (by decide)
                obtain ⟨_, _, _, h2⟩ := hp 2 (by omega)
                replace h2 := h2 (by decide)
                obtain ⟨_, _, _, h3⟩ := hp 3 (by omega)
                replace h3 := h3 (by decide)
                obtain ⟨_, _, _, h4⟩ := hp 4 (by omega)
                replace h4 := h4 (by decide)
                obtain ⟨_, _, _, h5⟩ := hp 5 (by omega)
                replace h5 := h5 (by decide)
                obtain ⟨_, _, _, h6⟩ := hp 6 (by omega)
                replace h6 := h6 (by decide)
                obtain ⟨_, _, _, h7⟩ := hp 7 (by omega)
                replace h7 := h7 (by decide)
                obtain ⟨_, _, _, h8⟩ := hp 8 (by omega)
                replace h8 := h8 (by decide)
                simp only [PMd18] at h1 h2 h3 h4 h5 h6 h7 h8
                clear hp hd
                have hsz := hg.size
                replace hB := hB.trans (hg.below (fun k hk => ⟨by omega, fun o => by rintro ⟨j, _, hw⟩; simp only [WMd18] at hw; omega⟩))
                have hr : List.range 9 = [0, 1, 2, 3, 4, 5, 6, 7, 8] := rfl
                rw [hr]
                clear hr
                simp only [List.drop_succ_cons, List.drop_zero, List.drop_nil, actsD, List.getD_cons_zero, List.getD_cons_succ, List.foldl_cons, List.foldl_nil, Act.put, List.setIfInBounds_toArray, List.set_cons_succ, List.set_cons_zero, h1, h2, h3, h5, h6, h7]
                clear h1 h2 h3 h5 h6 h7
                obtain ⟨gq, cq, e4, ho4⟩ := h4
                obtain ⟨a8, c8, e8, hr8⟩ := h8
                simp only [e4, e8]
                have hrd := hr8 _ (GrowX.of_growC (Y := fun k => w4.heap.size ≤ k) hg (fun k i hw => by obtain ⟨j, _, hw⟩ := hw; simp only [WMd18] at hw; omega))
                have hgr0 : Grow w4 w5 := hg.below (fun k hk => ⟨hk, fun o => by rintro ⟨j, _, hw⟩; simp only [WMd18] at hw; omega⟩)
                have hgq := (ho4.lt gq rfl).1
                clear e4 e8 hr8 hg
                go_wp2_with (first
                  | (at_builtin; refine wpList_append_own3 sl_strs (.tmp 96) (.tmp 100) rfl rfl (base := w4.heap.size) rfl ho4 rfl hrd (Ss_one _) (by omega) (by omega) hsz ?_; intro k6 c6 w6 hle4 hgz4 hor4 hown6; rw [← List.map_append] at hown6; have hg6 : Grow w4 w6 := hgr0.trans' hgz4 hgq; have hk6 : w4.heap.size ≤ k6 := (by rcases hor4 with e | e <;> omega); clear hle4 hgz4 hor4 ho4 hrd hgr0 hgq))
                replace ba := ba.below hg6 (Nat.le_refl _)
                replace hB := hB4.trans (hg6.mono (by omega))
                clear hB4
                have hkx6 := XR.turnB (n := p + (nv - (p + 1))) (c := c6) HKX4.out hg6 hk6
                have hka6 := own_below HKA4.out hg6 (fun q e => (HKA4.out.lt q e).2)
                have hva6 := own_base hown6 hs2
                have hk4lt : k4 < w4.heap.size := (HKA4.out.lt k4 rfl).2
                replace hs2 := Nat.le_trans hs2 hg6.size
                have hyk : y.keys = x.keys.take p ++ x.keys.drop (p + 1) := by rw [← HY.out, Nd.del_yes HOK.out]; simp only [HPP.out, List.eraseIdx_eq_take_drop_succ]
                have hyv : y.vals = x.vals.take p ++ x.vals.drop (p + 1) := by rw [← HY.out, Nd.del_yes HOK.out]; simp only [HPP.out, List.eraseIdx_eq_take_drop_succ]
                have lk : y.keys.length = p + (nk - (p + 1)) := by rw [hyk, List.length_append, List.length_take, List.length_drop, HNK.out]; omega
                have lv : y.vals.length = p + (nv - (p + 1)) := by rw [hyv, List.length_append, List.length_take, List.length_drop, HNV.out]; omega
                have hMS6 : MS w g w6 (.slice ak mk mk) (.slice av mv mv) (.slice ad md md) (.slice (some ⟨k4, 0, none⟩) (p + (nk - (p + 1))) c4) (.slice (some ⟨k6, 0, none⟩) (p + (nv - (p + 1))) c6) y :=
                  ⟨ba, hB, by rw [lk, hyk]; exact hka6, by rw [lv, hyv]; exact hva6, (fun q e1 e2 => by
                    have e1 : some k4 = some q := e1
                    have e2 : some k6 = some q := e2
                    injection e1 with e1; injection e2 with e2; omega), hkx6, HYL.out, HYF.out, HYN.out, hlt0, hs2⟩
                have HM6 := Lib.hid hMS6
                have HXL6 := Lib.hid (And.intro HYS.out.keys2 HYS.out.vals2)
                have HLK := Lib.hid lk
                clear hyk hyv lk lv hMS6 ba hB hkx6 hka6 hva6 hg6 hown6
                go_wp2
                go_roundw
                case rel => exact ⟨t + 1, .slice ak mk mk, .slice av mv mv, .slice ad md md, y, by omega, by go_num, by rw [HLK.out]; omega, HXL6, HM6.out⟩
                case measure => simp [intOf]; omega
            | false =>
              have ho := own_lit (w1 := wr) (base := wr.heap.size) (T := 5) (n := 1) (arr := #[.int .u8 (t : Int)]) (l := [.int .u8 (t : Int)]) rfl (Nat.le_refl _) rfl rfl (by omega)
              have hBt : [UInt8.ofNat t].map B = [.int .u8 (t : Int)] := by
                show [B (UInt8.ofNat t)] = _
                simp [B, UInt8.toNat_ofNat']; omega
              have hv1 : Reads 1 (wr.alloc (.cells #[.int .u8 (t : Int)] 5)) (.slice (some ⟨wr.heap.size, 0, none⟩) 1 1) 1 ([UInt8.ofNat t].map B) := by rw [hBt]; exact Reads.of_own ho
              have cv := run_str_reads (P := Try.prog) (src := 28) (dst := 9) Try.underlying28 Try.underlying5 Try.underlying9 _ hv1
              clear ho hBt hv1
              have ba := HMS.out.box
              go_upto_region 20 with (fail)
              have hal := (Below.refl wr.heap.size wr).alloc (Nat.le_refl _) (.cells #[.int .u8 (t : Int)] 5)
              clear cv ba
              refine wp_world (fun u => Grow wr u) hal ?_
              clear hal
              intro wq hq
              obtain ⟨y, hy⟩ : ∃ y, x.put l [UInt8.ofNat t] = y := ⟨_, rfl⟩
              have hms := HMS.out
              have hxs : x.small := ⟨by rw [HNK.out]; omega, by rw [HNV.out]; have := HNVK.out; omega, by rw [HKD.out]; omega, HXL.out.1, HXL.out.2⟩
              have hyl : y.leaf = true := by rw [← hy, Nd.put_leaf]; exact hms.leaf
              have hyn : y.next = 0 := by rw [← hy, Nd.put_next]; exact hms.next
              have hyf : y.fits = true := by rw [← hy]; exact Nd.put_fits l _ hms.leaf hms.fits
              have hys : y.small := by rw [← hy]; exact hxs.put (by rw [HNK.out]; omega) (by rw [HNV.out]; have := HNVK.out; omega) (by rw [HLL.out]; exact hlm) (by simp)
              obtain ⟨mk, hmk⟩ : ∃ q, y.keys.length = q := ⟨_, rfl⟩
              obtain ⟨mv, hmv⟩ : ∃ q, y.vals.length = q := ⟨_, rfl⟩
              obtain ⟨md, hmd⟩ : ∃ q, y.kids.length = q := ⟨_, rfl⟩
              have HY := Lib.hid hy
              have HYL := Lib.hid hyl
              have HYN := Lib.hid hyn
              have HYF := Lib.hid hyf
              have HYS := Lib.hid hys
              have HMK := Lib.hid hmk
              have HMV := Lib.hid hmv
              have HMD := Lib.hid hmd
              have ba := hms.box.below hq (Nat.le_refl _)
              have hB := hBr.trans (hq.mono hBr.size)
              have hszq := hB.size
              have hb1r : b1 < wq.heap.size := by have := hBr.size; have := hq.size; omega
              have HCQ := Lib.hid ((hq.cell (p := ⟨b1, p1 + t, none⟩) (show b1 < wr.heap.size by have := hBr.size; omega)).trans HCR.out)
              clear hms hy hyl hyn hyf hys hmk hmv hmd
              refine wp_region_partsDC (WMd20 wq g pn pc t b1 p1 ll c0 mk mv md a0 n1 n2 n3 y) 8 [[], [], [], [1, 2], [1, 2, 3], [], [5], [0, 1, 2, 3, 4, 5, 6]] [some 106, some 107, some 108, some 109, some 110, some 111, some 112, some 113, none] (by kernel_rfl) (by kernel_rfl) rfl (PMd20 wq g pn pc t b1 p1 ll c0 mk mv md a0 n1 n2 n3 y) (PMd20_stable wq g pn pc t b1 p1 ll c0 mk mv md a0 n1 n2 n3 y ) ?pMd20 ?_
              case pMd20 =>
                intro i hi o ho vs lo hx_ w' hg hp
                match i, hi with
                | 0, _ =>
                  obtain rfl := Option.some.inj ho
                  clear ho
                  simp only [actsD, List.getD_cons_zero, List.getD_cons_succ, List.foldl_cons, List.foldl_nil, Act.put, List.setIfInBounds_toArray, List.set_cons_succ, List.set_cons_zero]
                  have hsz := hg.size
                  have e0 := (hg.cell (g) 0 ba.lt (by rintro ⟨j, _, hne, hb, hw⟩; exact False.elim hw)).trans (ba.cell 0 _ rfl)
                  have e1 := (hg.cell (g) 1 ba.lt (by rintro ⟨j, _, hne, hb, hw⟩; exact False.elim hw)).trans (ba.cell 1 _ rfl)
                  have e2 := (hg.cell (g) 2 ba.lt (by rintro ⟨j, _, hne, hb, hw⟩; exact False.elim hw)).trans (ba.cell 2 _ rfl)
                  have e3 := (hg.cell (g) 3 ba.lt (by rintro ⟨j, _, hne, hb, hw⟩; exact False.elim hw)).trans (ba.cell 3 _ rfl)
                  have e4 := (hg.cell (g) 4 ba.lt (by rintro ⟨j, _, hne, hb, hw⟩; exact False.elim hw)).trans (ba.cell 4 _ rfl)
                  go_wp2
                  exact ⟨_, rfl, GrowC.refl _, rfl⟩
                | 1, _ =>
                  obtain rfl := Option.some.inj ho
                  clear ho
                  simp only [actsD, List.getD_cons_zero, List.getD_cons_succ, List.foldl_cons, List.foldl_nil, Act.put, List.setIfInBounds_toArray, List.set_cons_succ, List.set_cons_zero]
                  have hsz := hg.size
                  go_wp2
                  exact ⟨_, rfl, GrowC.refl _, rfl⟩
                | 2, _ =>
                  obtain rfl := Option.some.inj ho
                  clear ho
                  simp only [actsD, List.getD_cons_zero, List.getD_cons_succ, List.foldl_cons, List.foldl_nil, Act.put, List.setIfInBounds_toArray, List.set_cons_succ, List.set_cons_zero]
                  have hsz := hg.size
                  go_wp2
                  exact ⟨_, rfl, GrowC.refl _, rfl⟩
                | 3, _ =>
                  obtain rfl := Option.some.inj ho
                  clear ho
                  simp only [actsD, List.getD_cons_zero, List.getD_cons_succ, List.foldl_cons, List.foldl_nil, Act.put, List.setIfInBounds_toArray, List.set_cons_succ, List.set_cons_zero]
                  obtain ⟨_, _, _, h1⟩ := hp 1 (by simp)
                  simp only [PMd20] at h1
                  obtain ⟨_, _, _, h2⟩ := hp 2 (by simp)
                  simp only [PMd20] at h2
                  have hsz := hg.size
                  rw [h1, h2]
                  have q1 : (t : Int) < (pn : Int) := by omega
                  go_wp2
                  exact ⟨_, rfl, GrowC.refl _, rfl⟩
                | 4, _ =>
                  obtain rfl := Option.some.inj ho
                  clear ho
                  simp only [actsD, List.getD_cons_zero, List.getD_cons_succ, List.foldl_cons, List.foldl_nil, Act.put, List.setIfInBounds_toArray, List.set_cons_succ, List.set_cons_zero]
                  obtain ⟨_, _, _, h3⟩ := hp 3 (by simp)
                  simp only [PMd20] at h3
                  have hsz := hg.size
                  rw [h3]
                  have hc := (hg.cell b1 (p1 + t) hb1r (by rintro ⟨j, _, hne, _, hw⟩; exact hw)).trans HCQ.out
                  go_wp2
                  exact ⟨_, rfl, GrowC.refl _, rfl⟩
                | 5, _ =>
                  obtain rfl := Option.some.inj ho
                  clear ho
                  simp only [actsD, List.getD_cons_zero, List.getD_cons_succ, List.foldl_cons, List.foldl_nil, Act.put, List.setIfInBounds_toArray, List.set_cons_succ, List.set_cons_zero]
                  have hsz := hg.size
                  go_wp2
                  exact ⟨_, rfl, GrowC.refl _, rfl⟩
                | 6, _ =>
                  obtain rfl := Option.some.inj ho
                  clear ho
                  simp only [actsD, List.getD_cons_zero, List.getD_cons_succ, List.foldl_cons, List.foldl_nil, Act.put, List.setIfInBounds_toArray, List.set_cons_succ, List.set_cons_zero]
                  obtain ⟨_, _, _, h5⟩ := hp 5 (by simp)
                  simp only [PMd20] at h5
                  have hsz := hg.size
                  rw [h5]
                  have cb := run_bytes_of_string (P := Try.prog) w' 9 28 5 ⟨#[UInt8.ofNat t]⟩ Try.underlying9 Try.underlying28 Try.underlying5
                  have hrb := fun ff => reads_bytesRow (w := w'.drew) (f := ff) (e := 5) [UInt8.ofNat t] rfl (grownCap_ge w' 1 0 5)
                  go_wp2
                  exact ⟨_, rfl, GrowC.of_grow (Grow.alloc (show Grow w' w'.drew from ⟨rfl, rfl, rfl, Nat.le_refl _, fun _ _ => rfl⟩) _), _, _, rfl, (hrb _).kept (fun _ _ h => h)⟩
                | 7, _ =>
                  obtain rfl := Option.some.inj ho
                  clear ho
                  simp only [actsD, List.getD_cons_zero, List.getD_cons_succ, List.foldl_cons, List.foldl_nil, Act.put, List.setIfInBounds_toArray, List.set_cons_succ, List.set_cons_zero]
                  obtain ⟨_, _, _, h0⟩ := hp 0 (by simp)
                  simp only [PMd20] at h0
                  obtain ⟨_, _, _, h4⟩ := hp 4 (by simp)
                  simp only [PMd20] at h4
                  obtain ⟨_, _, _, h6⟩ := hp 6 (by simp)
                  simp only [PMd20] at h6
                  have hsz := hg.size
                  obtain ⟨a6, c6, e6, hr6⟩ := h6
                  rw [e6]
                  rw [h0, h4]
                  have hgq : Below wr.heap.size wr w' := hq.trans (hg.below (fun k hk => ⟨by have := hq.size; omega, fun o => by rintro ⟨j, _, _, _, hw⟩; exact hw⟩))
                  have hgB : Below w.heap.size w w' := hBr.trans (hgq.mono hBr.size)
                  have hna : NodeAt w' n1 n2 n3 x := HMS.out.n.now.below hgq (Nat.le_refl _)
                  go_wp2_with fail
                  have hput := put_any x hxs n1 n2 n3 l [UInt8.ofNat t] (.slice a0 ll c0) (.slice a6 1 c6) w' hna (by rw [HLL.out]; exact HRS.out.below hgB (Nat.le_refl _)) hr6.now (by rw [HLL.out]; exact hlm) (by simp)
                  rw [HMS.out.leaf, HMS.out.next] at hput
                  refine hput.mono ?_
                  rintro e wz ⟨r, rfl, ak, av, ad, rfl, hky, hb⟩
                  rw [HY.out, HMK.out, HMV.out, HMD.out] at hky
                  simp only [nodeV, HY.out, HYL.out, HYN.out, HMK.out, HMV.out, HMD.out]
                  go_wp2
                  exact ⟨_, rfl, GrowC.of_grow hb, ak, av, ad, rfl, (hky.imp (fun _ hh => hh.node)).mono (fun k hk hh => Nat.lt_of_lt_of_le hh hsz)⟩
                | (q + 8), hq => exact absurd hq (by omega)
              intro vS lo hi w1 hg hp hd
              obtain ⟨_, _, _, h0⟩ := hp 0 (by omega)
              obtain ⟨_, _, _, h1⟩ := hp 1 (by omega)
              obtain ⟨_, _, _, h2⟩ := hp 2 (by omega)
              obtain ⟨_, _, _, h3⟩ := hp 3 (by omega)
              obtain ⟨_, _, _, h4⟩ := hp 4 (by omega)
              obtain ⟨_, _, _, h5⟩ := hp 5 (by omega)
              obtain ⟨_, _, _, h6⟩ := hp 6 (by omega)
              obtain ⟨_, _, _, h7⟩ := hp 7 (by omega)
              simp only [PMd20] at h0 h1 h2 h3 h4 h5 h6 h7
              clear hp hd
              have hsz := hg.size
              replace ba := ba.grow hg (by intro i _; rintro ⟨j, _, hw⟩; exact False.elim hw)
              replace hB := hB.trans (hg.below (fun k hk => ⟨by omega, fun o => by rintro ⟨j, _, hw⟩; exact False.elim hw⟩))
              have hr : List.range 8 = [0, 1, 2, 3, 4, 5, 6, 7] := rfl
              rw [hr]
              clear hr
              simp only [List.drop_succ_cons, List.drop_zero, List.drop_nil, actsD, List.getD_cons_zero, List.getD_cons_succ, List.foldl_cons, List.foldl_nil, Act.put, List.setIfInBounds_toArray, List.set_cons_succ, List.set_cons_zero, h0, h1, h2, h3, h4, h5]
              clear h0 h1 h2 h3 h4 h5
              obtain ⟨ak, av, ad, e7, hky⟩ := h7
              simp only [e7]
              clear e7 h6
              have hgo : Grow wr w1 := hq.trans (hg.below (fun k hk => ⟨by have := hq.size; omega, fun o => by rintro ⟨j, _, hw⟩; exact hw⟩))
              have hka := own_below hA.out hgo (fun q e => (hA.out.lt q e).2)
              have hva := own_below hBB.out hgo (fun q e => (hBB.out.lt q e).2)
              have hst := ba.set5 (.bool true) (.slice ak mk mk) (.slice av mv mv) (.slice ad md md) (.int .i64 0)
              have hgx := GrowX.of_growC (Y := fun q => q < g + 1) hst.2 (fun q i e => by omega)
              have hs1 : g + 1 ≤ w1.heap.size := by have := hgo.size; omega
              have hkx : Kept (XR (g + 1) (.slice ka nk kc) (.slice va nv vc)) w1 (fun w2 => NodeAt w2 (.slice ak mk mk) (.slice av mv mv) (.slice ad md md) y) := hky.mono (fun k _ hk => by
                have hqs := hq.size
                rcases hk with hk | hk | hk
                · show k < _; omega
                · exact Nat.lt_of_lt_of_le (hA.out.lt k hk).2 hqs
                · exact Nat.lt_of_lt_of_le (hBB.out.lt k hk).2 hqs)
              have HW := Lib.hid (And.intro hst.1 (And.intro (hB.trans (hst.2.below (fun k hk => ⟨by omega, fun _ => by omega⟩))) (And.intro (own_growx hka hgx (fun q e hq => by have := (hka.lt q e).1; omega)) (And.intro (own_growx hva hgx (fun q e hq => by have := (hva.lt q e).1; omega)) (And.intro (hkx.grow (hgx.mono (fun k hk => .inl hk))) (Nat.le_trans hs1 hst.2.size))))))
              have HNE := Lib.hid HMS.out.ne
              clear hg hgo hka hva hst hgx hkx hky hB hq HCQ
              have cn0 := ba.cell 0 _ rfl
              have cn1 := ba.cell 1 _ rfl
              have cn2 := ba.cell 2 _ rfl
              have cn3 := ba.cell 3 _ rfl
              have cn4 := ba.cell 4 _ rfl
              have fn := ba.free
              go_upto_region 21 with (fail)
              clear cn0 cn1 cn2 cn3 cn4 fn ba hs1
              refine wp_world (fun u => Box u g [.bool true, .slice ak mk mk, .slice av mv mv, .slice ad md md, .int .i64 0] ∧ Below w.heap.size w u ∧ u.ownsRow (g + 1) 9 1 (.slice ka nk kc) nk (x.keys.map S) ∧ u.ownsRow (g + 1) 9 1 (.slice va nv vc) nv (x.vals.map S) ∧ Kept (XR (g + 1) (.slice ka nk kc) (.slice va nv vc)) u (fun w2 => NodeAt w2 (.slice ak mk mk) (.slice av mv mv) (.slice ad md md) y) ∧ g + 1 ≤ u.heap.size) HW.out ?_
              clear HW
              rintro w2 ⟨ba, hB, hka, hva, hkx, hs2⟩
              cases h with
              | true =>
                have hpl : p < nk := by have := (fhas_lt HH.out).1; rw [HPP.out, HNK.out] at this; exact this
                have hpv : p < nv := by have := HNVK.out; omega
                obtain ⟨gv, cv', he, hgv1, hgv2, _, _⟩ := own_some hva (fun e => by injection e with _ e2 _; omega)
                obtain rfl := (Value.slice.inj he).1
                clear he
                have hpvl : p < x.vals.length := by rw [HNV.out]; exact hpv
                have hu : (x.vals.map S)[p]? = some (S x.vals[p]) := by rw [List.getElem?_map, List.getElem?_eq_getElem hpvl]; rfl
                have hcv := own_cells hva p _ hu
                rw [Addr.add_lit, Nat.zero_add] at hcv
                generalize x.vals[p] = m0 at hcv
                simp only [S] at hcv
                have hfv : w2.frozen? ⟨gv, p, none⟩ = false := ((NewS.own (m := nv) (c2 := vc) hva) gv 0 nv vc rfl (by omega)).2 p
                have q1 : (p : Int) < (nv : Int) := by omega
                have hyx : y = ⟨x.leaf, x.keys, x.vals.set p [UInt8.ofNat t], x.kids, x.next⟩ := by rw [← HY.out, Nd.put_has l _ HMS.out.leaf HMS.out.fits HH.out, HPP.out]
                have hyk : y.keys = x.keys := by rw [hyx]
                have hyv : y.vals = x.vals.set p [UInt8.ofNat t] := by rw [hyx]
                have hX : GrowX (fun k => k = gv) w2 (w2.setCell ⟨gv, p, none⟩ (S [UInt8.ofNat t])) := (GrowX.refl w2).setCell (X := fun k => k = gv) rfl _
                have hXC : GrowC (fun k _ => k = gv) w2 (w2.setCell ⟨gv, p, none⟩ (S [UInt8.ofNat t])) := (GrowC.refl w2).setCell (X := fun k _ => k = gv) rfl hgv2 _
                have hMS3 : MS w g (w2.setCell ⟨gv, p, none⟩ (S [UInt8.ofNat t])) (.slice ak mk mk) (.slice av mv mv) (.slice ad md md) (.slice ka nk kc) (.slice (some ⟨gv, 0, none⟩) nv vc) y :=
                  ⟨ba.grow hXC (by intros; omega), hB.trans (hXC.below (fun k hk => ⟨by omega, fun _ => by omega⟩)), by rw [hyk, HNK.out]; exact own_growx hka hX (fun q e e2 => HNE.out q e (by subst e2; rfl)),
                    by rw [hyv, List.length_set, HNV.out, List.map_set]; exact ownsRow_set hva hpv _, HNE.out, hkx.grow (hX.mono (fun k e => .inr (.inr (by subst e; rfl)))), HYL.out, HYF.out, HYN.out, hlt0, Nat.le_trans hs2 hX.size⟩
                have HM3 := Lib.hid hMS3
                have HXL3 := Lib.hid (And.intro HYS.out.keys2 HYS.out.vals2)
                have HYK := Lib.hid hyk
                clear hMS3 hX hXC hyx hyk hyv ba hB hka hva hkx hu hpvl
                go_wp2
                go_roundw
                case rel => exact ⟨t + 1, .slice ak mk mk, .slice av mv mv, .slice ad md md, y, by omega, by go_num, by rw [HYK.out, HNK.out]; omega, HXL3, HM3.out⟩
                case measure => simp [intOf]; omega
              | false =>
                have HRK := Lib.hid ((Reads.of_own hka).kept (X := fun k => w2.heap.size ≤ k) (fun k hk h => by omega))
                have HKA := Lib.hid hka
                have HVA := Lib.hid hva
                have HKX := Lib.hid hkx
                clear hka hva hkx
                have hnv40 : nv ≤ 40 := by have := HNVK.out; omega
                have hpv : p ≤ nv := by have := HNVK.out; omega
                have r1 : (p : Int) ≤ (nk : Int) := by omega
                have r2 : (p : Int) ≤ (kc : Int) := by omega
                have hB2 := hB
                go_upto_region 23 with (fail)
                refine wp_region_partsDV (WMd23 w2 p nk kc ka x.keys l t) 11 [[], [], [], [1, 2], [0, 1, 2, 3], [], [5], [0, 1, 2, 3, 4, 5, 6], [], [], [8, 9]] [some 119, some 120, some 121, some 122, some 123, some 124, some 125, some 126, some 127, some 128, some 129, some 130, some 6] [[], [], [], [1, 2], [0, 3], [], [5], [4, 6], [], [], [8, 9]] [1, 2, 3, 5, 7, 8, 9, 10] [(0, 4), (0, 7), (4, 7), (6, 7)] (by decide) (by kernel_rfl) (by kernel_rfl) rfl (PMd23 w2 p nk kc ka x.keys l t) (PMd23_cong w2 p nk kc ka x.keys l t) (PMd23_stable w2 p nk kc ka x.keys l t ) ?pMd23 ?_
                case pMd23 =>
                  intro i hi o ho vs lo hx_ w' hg hp hdd
                  match i, hi with
                  | 0, _ =>
                    obtain rfl := Option.some.inj ho
                    clear ho
                    simp only [actsD, List.getD_cons_zero, List.getD_cons_succ, List.foldl_cons, List.foldl_nil, Act.put, List.setIfInBounds_toArray, List.set_cons_succ, List.set_cons_zero]
                    have hsz := hg.size
                    have ho := own_lit (w1 := w') (base := w2.heap.size) (T := 9) (n := 0) (arr := #[]) (l := []) rfl hsz rfl rfl (by omega)
                    go_wp2
                    exact ⟨_, rfl, GrowC.of_grow ((Grow.refl _).alloc _), rfl, hsz, ho⟩
                  | 1, _ =>
                    obtain rfl := Option.some.inj ho
                    clear ho
                    simp only [actsD, List.getD_cons_zero, List.getD_cons_succ, List.foldl_cons, List.foldl_nil, Act.put, List.setIfInBounds_toArray, List.set_cons_succ, List.set_cons_zero]
                    have hsz := hg.size
                    go_wp2
                    exact ⟨_, rfl, GrowC.refl _, rfl⟩
                  | 2, _ =>
                    obtain rfl := Option.some.inj ho
                    clear ho
                    simp only [actsD, List.getD_cons_zero, List.getD_cons_succ, List.foldl_cons, List.foldl_nil, Act.put, List.setIfInBounds_toArray, List.set_cons_succ, List.set_cons_zero]
                    have hsz := hg.size
                    go_wp2
                    exact ⟨_, rfl, GrowC.refl _, rfl⟩
                  | 3, _ =>
                    obtain rfl := Option.some.inj ho
                    clear ho
                    simp only [actsD, List.getD_cons_zero, List.getD_cons_succ, List.foldl_cons, List.foldl_nil, Act.put, List.setIfInBounds_toArray, List.set_cons_succ, List.set_cons_zero]
                    obtain ⟨_, _, _, h1⟩ := hp 1 (by simp)
                    simp only [PMd23] at h1
                    obtain ⟨_, _, _, h2⟩ := hp 2 (by simp)
                    simp only [PMd23] at h2
                    have hsz := hg.size
                    rw [h1, h2]
                    go_wp2
                    exact ⟨_, rfl, GrowC.refl _, rfl⟩
                  | 4, _ =>
                    obtain rfl := Option.some.inj ho
                    clear ho
                    simp only [actsD, List.getD_cons_zero, List.getD_cons_succ, List.foldl_cons, List.foldl_nil, Act.put, List.setIfInBounds_toArray, List.set_cons_succ, List.set_cons_zero]
                    obtain ⟨_, _, _, h0⟩ := hp 0 (by simp)
                    simp only [PMd23] at h0
                    obtain ⟨_, _, _, h3⟩ := hp 3 (by simp)
                    simp only [PMd23] at h3
                    have hsz := hg.size
                    obtain ⟨e0, hlo0, ho0⟩ := h0
                    rw [e0]
                    have hrr := (HRK.out.now.below (hg.below (fun k hk => ⟨hk, fun o => by rintro ⟨j, _, _, _, hw⟩; simp only [WMd23] at hw; omega⟩)) (Nat.le_refl _)).take1 (k := p) (by omega)
                    rw [← List.map_take] at hrr
                    rw [h3]
                    go_wp2_with (first
                      | (at_builtin; refine wpList_append_lit sl_strs (.tmp 119) (.tmp 122) rfl rfl (base := w2.heap.size) rfl ho0 rfl hrr (Ss_one _) (by omega) (by omega) hsz ?_; intro gq cq wz hle hgz hor hown))
                    simp only [Nat.zero_add, List.nil_append] at hown hle ⊢
                    exact ⟨_, rfl, GrowC.of_grow hgz, gq, cq, rfl, hown⟩
                  | 5, _ =>
                    obtain rfl := Option.some.inj ho
                    clear ho
                    simp only [actsD, List.getD_cons_zero, List.getD_cons_succ, List.foldl_cons, List.foldl_nil, Act.put, List.setIfInBounds_toArray, List.set_cons_succ, List.set_cons_zero]
                    have hsz := hg.size
                    go_wp2
                    exact ⟨_, rfl, GrowC.refl _, rfl⟩
                  | 6, _ =>
                    obtain rfl := Option.some.inj ho
                    clear ho
                    simp only [actsD, List.getD_cons_zero, List.getD_cons_succ, List.foldl_cons, List.foldl_nil, Act.put, List.setIfInBounds_toArray, List.set_cons_succ, List.set_cons_zero]
                    obtain ⟨_, _, _, h5⟩ := hp 5 (by simp)
                    simp only [PMd23] at h5
                    have hsz := hg.size
                    rw [h5]
                    have ho := own_lit (w1 := w') (base := w2.heap.size) (T := 9) (n := 1) (arr := #[S l]) (l := [S l]) rfl hsz rfl rfl (by omega)
                    simp only [S] at ho
                    go_wp2
                    exact ⟨_, rfl, GrowC.of_grow ((Grow.refl _).alloc _), rfl, hsz, ho⟩
                  | 7, _ =>
                    obtain rfl := Option.some.inj ho
                    clear ho
                    simp only [actsD, List.getD_cons_zero, List.getD_cons_succ, List.foldl_cons, List.foldl_nil, Act.put, List.setIfInBounds_toArray, List.set_cons_succ, List.set_cons_zero]
                    obtain ⟨_, _, _, h4⟩ := hp 4 (by simp)
                    simp only [PMd23] at h4
                    obtain ⟨_, _, _, h6⟩ := hp 6 (by simp)
                    simp only [PMd23] at h6
                    have hsz := hg.size
                    obtain ⟨gq, cq, e4, ho4⟩ := h4
                    obtain ⟨e6, hlo6, ho6⟩ := h6
                    rw [e4, e6]
                    have hr6 := Reads.of_own ho6
                    have hgq := (ho4.lt gq rfl).1
                    go_wp2_with (first
                      | (at_builtin; refine wpList_append_own3 sl_strs (.tmp 123) (.tmp 125) rfl rfl (base := w2.heap.size) rfl ho4 rfl hr6 (Ss_one [l]) (by omega) (by omega) hsz ?_; intro gz cz wz hle hgz hor hown))
                    exact ⟨_, rfl, hgz.mono (fun k i e => ⟨rfl, by omega⟩), gz, cz, rfl, by rw [List.map_append]; exact hown⟩
                  | 8, _ =>
                    obtain rfl := Option.some.inj ho
                    clear ho
                    simp only [actsD, List.getD_cons_zero, List.getD_cons_succ, List.foldl_cons, List.foldl_nil, Act.put, List.setIfInBounds_toArray, List.set_cons_succ, List.set_cons_zero]
                    have hsz := hg.size
                    go_wp2
                    exact ⟨_, rfl, GrowC.refl _, rfl⟩
                  | 9, _ =>
                    obtain rfl := Option.some.inj ho
                    clear ho
                    simp only [actsD, List.getD_cons_zero, List.getD_cons_succ, List.foldl_cons, List.foldl_nil, Act.put, List.setIfInBounds_toArray, List.set_cons_succ, List.set_cons_zero]
                    have hsz := hg.size
                    go_wp2
                    exact ⟨_, rfl, GrowC.refl _, rfl⟩
                  | 10, _ =>
                    obtain rfl := Option.some.inj ho
                    clear ho
                    simp only [actsD, List.getD_cons_zero, List.getD_cons_succ, List.foldl_cons, List.foldl_nil, Act.put, List.setIfInBounds_toArray, List.set_cons_succ, List.set_cons_zero]
                    obtain ⟨_, _, _, h8⟩ := hp 8 (by simp)
                    simp only [PMd23] at h8
                    obtain ⟨_, _, _, h9⟩ := hp 9 (by simp)
                    simp only [PMd23] at h9
                    have hsz := hg.size
                    rw [h8, h9]
                    by_cases hkc : kc = p
                    · have hn0 : nk - p = 0 := by omega
                      go_wp2
                      exact ⟨_, rfl, GrowC.refl _, ka, 0, by rw [hn0], fun w2 _ => Reads.none1 (by rw [List.length_map, List.length_drop, HNK.out]; exact hn0) hn0⟩
                    · obtain ⟨gk, ck', he, _⟩ := own_some HKA.out (fun e => by injection e with _ e2 _; omega)
                      obtain rfl := (Value.slice.inj he).1
                      clear he
                      go_wp2
                      exact ⟨_, rfl, GrowC.refl _, _, _, rfl, by rw [List.map_drop]; exact HRK.out.imp (fun w2 hh => by have h2 := hh.drop1 (k := p) (by omega) hkc; rwa [Nat.zero_add] at h2)⟩
                  | (q + 11), hq => exact absurd hq (by omega)
                intro vS lo hi w3 hg hp hd
                obtain ⟨_, _, _, h1⟩ := hp 1 (by omega)
                replace h1 := h1 (by decide)
                obtain ⟨_, _, _, h2⟩ := hp 2 (by omega)
                replace h2 := h2 (by decide)
                obtain ⟨_, _, _, h3⟩ := hp 3 (by omega)
                replace h3 := h3 (by decide)
                obtain ⟨_, _, _, h5⟩ := hp 5 (by omega)
                replace h5 := h5 (by decide)
                obtain ⟨_, _, _, h7⟩ := hp 7 (by omega)
                replace h7 := h7 (by decide)
                obtain ⟨_, _, _, h8⟩ := hp 8 (by omega)
                replace h8 := h8 (by decide)
                obtain ⟨_, _, _, h9⟩ := hp 9 (by omega)
                replace h9 := h9 (by decide)
                obtain ⟨_, _, _, h10⟩ := hp 10 (by omega)
                replace h10 := h10 (by decide)
                simp only [PMd23] at h1 h2 h3 h5 h7 h8 h9 h10
                clear hp hd
                have hsz := hg.size
                replace hB := hB.trans (hg.below (fun k hk => ⟨by omega, fun o => by rintro ⟨j, _, hw⟩; simp only [WMd23] at hw; omega⟩))
                have hr : List.range 11 = [0, 1, 2, 3, 4, 5, 6, 7, 8, 9, 10] := rfl
                rw [hr]
                clear hr
                simp only [List.drop_succ_cons, List.drop_zero, List.drop_nil, actsD, List.getD_cons_zero, List.getD_cons_succ, List.foldl_cons, List.foldl_nil, Act.put, List.setIfInBounds_toArray, List.set_cons_succ, List.set_cons_zero, h1, h2, h3, h5, h8, h9]
                clear h1 h2 h3 h5 h8 h9
                obtain ⟨gq, cq, e7, ho7⟩ := h7
                obtain ⟨a8, c8, e8, hr8⟩ := h10
                simp only [e7, e8]
                have hrd := hr8 _ (GrowX.of_growC (Y := fun k => w2.heap.size ≤ k) hg (fun k i hw => by obtain ⟨j, _, hw⟩ := hw; simp only [WMd23] at hw; omega))
                have hgr0 : Grow w2 w3 := hg.below (fun k hk => ⟨hk, fun o => by rintro ⟨j, _, hw⟩; simp only [WMd23] at hw; omega⟩)
                have hgq := (ho7.lt gq rfl).1
                clear e7 e8 hr8 hg
                go_wp2_with (first
                  | (at_builtin; refine wpList_append_own3 sl_strs (.tmp 126) (.tmp 129) rfl rfl (base := w2.heap.size) rfl ho7 rfl hrd (Ss_one _) (by omega) (by omega) hsz ?_; intro k4 c4 w4 hle4 hgz4 hor4 hown4; rw [← List.map_append] at hown4; have hg4 : Grow w2 w4 := hgr0.trans' hgz4 hgq; have hk4 : w2.heap.size ≤ k4 := (by rcases hor4 with e | e <;> omega); clear hle4 hgz4 hor4 ho7 hrd hgr0 hgq))
                replace ba := ba.below hg4 (Nat.le_refl _)
                replace hB := hB2.trans (hg4.mono (by omega))
                clear hB2
                have hkx4 := XR.turnA (n := p + 1 + (nk - p)) (c := c4) HKX.out hg4 hk4
                have hva4 := own_below HVA.out hg4 (fun q e => (HVA.out.lt q e).2)
                have hka4 := own_base hown4 hs2
                replace hs2 := Nat.le_trans hs2 hg4.size
                clear hown4
                have HRV := Lib.hid ((Reads.of_own hva4).kept (X := fun k => w4.heap.size ≤ k) (fun k hk h => by omega))
                have HKA4 := Lib.hid hka4
                have HKX4 := Lib.hid hkx4
                have HVA4 := Lib.hid hva4
                clear hka4 hkx4 hva4 hg4 r1 r2
                have r1 : (p : Int) ≤ (nv : Int) := by omega
                have r2 : (p : Int) ≤ (vc : Int) := by omega
                have hB4 := hB
                go_upto_region 24 with (fail)
                refine wp_region_partsDV (WMd24 w4 p nv vc va x.vals [UInt8.ofNat t] t) 11 [[], [], [], [1, 2], [0, 1, 2, 3], [], [5], [0, 1, 2, 3, 4, 5, 6], [], [], [8, 9]] [some 131, some 132, some 133, some 134, some 135, some 136, some 137, some 138, some 139, some 140, some 141, some 142, some 7] [[], [], [], [1, 2], [0, 3], [], [5], [4, 6], [], [], [8, 9]] [1, 2, 3, 5, 7, 8, 9, 10] [(0, 4), (0, 7), (4, 7), (6, 7)] (by decide) (by kernel_rfl) (by kernel_rfl) rfl (PMd24 w4 p nv vc va x.vals [UInt8.ofNat t] t) (PMd24_cong w4 p nv vc va x.vals [UInt8.ofNat t] t) (PMd24_stable w4 p nv vc va x.vals [UInt8.ofNat t] t ) ?pMd24 ?_
                case pMd24 =>
                  intro i hi o ho vs lo hx_ w' hg hp hdd
                  match i, hi with
                  | 0, _ =>
                    obtain rfl := Option.some.inj ho
                    clear ho
                    simp only [actsD, List.getD_cons_zero, List.getD_cons_succ, List.foldl_cons, List.foldl_nil, Act.put, List.setIfInBounds_toArray, List.set_cons_succ, List.set_cons_zero]
                    have hsz := hg.size
                    have ho := own_lit (w1 := w') (base := w4.heap.size) (T := 9) (n := 0) (arr := #[]) (l := []) rfl hsz rfl rfl (by omega)
                    go_wp2
                    exact ⟨_, rfl, GrowC.of_grow ((Grow.refl _).alloc _), rfl, hsz, ho⟩
                  | 1, _ =>
                    obtain rfl := Option.some.inj ho
                    clear ho
                    simp only [actsD, List.getD_cons_zero, List.getD_cons_succ, List.foldl_cons, List.foldl_nil, Act.put, List.setIfInBounds_toArray, List.set_cons_succ, List.set_cons_zero]
                    have hsz := hg.size
                    go_wp2
                    exact ⟨_, rfl, GrowC.refl _, rfl⟩
                  | 2, _ =>
                    obtain rfl := Option.some.inj ho
                    clear ho
                    simp only [actsD, List.getD_cons_zero, List.getD_cons_succ, List.foldl_cons, List.foldl_nil, Act.put, List.setIfInBounds_toArray, List.set_cons_succ, List.set_cons_zero]
                    have hsz := hg.size
                    go_wp2
                    exact ⟨_, rfl, GrowC.refl _, rfl⟩
                  | 3, _ =>
                    obtain rfl := Option.some.inj ho
                    clear ho
                    simp only [actsD, List.getD_cons_zero, List.getD_cons_succ, List.foldl_cons, List.foldl_nil, Act.put, List.setIfInBounds_toArray, List.set_cons_succ, List.set_cons_zero]
                    obtain ⟨_, _, _, h1⟩ := hp 1 (by simp)
                    simp only [PMd24] at h1
                    obtain ⟨_, _, _, h2⟩ := hp 2 (by simp)
                    simp only [PMd24] at h2
                    have hsz := hg.size
                    rw [h1, h2]
                    go_wp2
                    exact ⟨_, rfl, GrowC.refl _, rfl⟩
                  | 4, _ =>
                    obtain rfl := Option.some.inj ho
                    clear ho
                    simp only [actsD, List.getD_cons_zero, List.getD_cons_succ, List.foldl_cons, List.foldl_nil, Act.put, List.setIfInBounds_toArray, List.set_cons_succ, List.set_cons_zero]
                    obtain ⟨_, _, _, h0⟩ := hp 0 (by simp)
                    simp only [PMd24] at h0
                    obtain ⟨_, _, _, h3⟩ := hp 3 (by simp)
                    simp only [PMd24] at h3
                    have hsz := hg.size
                    obtain ⟨e0, hlo0, ho0⟩ := h0
                    rw [e0]
                    have hrr := (HRV.out.now.below (hg.below (fun k hk => ⟨hk, fun o => by rintro ⟨j, _, _, _, hw⟩; simp only [WMd24] at hw; omega⟩)) (Nat.le_refl _)).take1 (k := p) (by omega)
                    rw [← List.map_take] at hrr
                    rw [h3]
                    go_wp2_with (first
                      | (at_builtin; refine wpList_append_lit sl_strs (.tmp 131) (.tmp 134) rfl rfl (base := w4.heap.size) rfl ho0 rfl hrr (Ss_one _) (by omega) (by omega) hsz ?_; intro gq cq wz hle hgz hor hown))
                    simp only [Nat.zero_add, List.nil_append] at hown hle ⊢
                    exact ⟨_, rfl, GrowC.of_grow hgz, gq, cq, rfl, hown⟩
                  | 5, _ =>
                    obtain rfl := Option.some.inj ho
                    clear ho
                    simp only [actsD, List.getD_cons_zero, List.getD_cons_succ, List.foldl_cons, List.foldl_nil, Act.put, List.setIfInBounds_toArray, List.set_cons_succ, List.set_cons_zero]
                    have hsz := hg.size
                    go_wp2
                    exact ⟨_, rfl, GrowC.refl _, rfl⟩
                  | 6, _ =>
                    obtain rfl := Option.some.inj ho
                    clear ho
                    simp only [actsD, List.getD_cons_zero, List.getD_cons_succ, List.foldl_cons, List.foldl_nil, Act.put, List.setIfInBounds_toArray, List.set_cons_succ, List.set_cons_zero]
                    obtain ⟨_, _, _, h5⟩ := hp 5 (by simp)
                    simp only [PMd24] at h5
                    have hsz := hg.size
                    rw [h5]
                    have ho := own_lit (w1 := w') (base := w4.heap.size) (T := 9) (n := 1) (arr := #[S [UInt8.ofNat t]]) (l := [S [UInt8.ofNat t]]) rfl hsz rfl rfl (by omega)
                    simp only [S] at ho
                    go_wp2
                    exact ⟨_, rfl, GrowC.of_grow ((Grow.refl _).alloc _), rfl, hsz, ho⟩
                  | 7, _ =>
                    obtain rfl := Option.some.inj ho
                    clear ho
                    simp only [actsD, List.getD_cons_zero, List.getD_cons_succ, List.foldl_cons, List.foldl_nil, Act.put, List.setIfInBounds_toArray, List.set_cons_succ, List.set_cons_zero]
                    obtain ⟨_, _, _, h4⟩ := hp 4 (by simp)
                    simp only [PMd24] at h4
                    obtain ⟨_, _, _, h6⟩ := hp 6 (by simp)
                    simp only [PMd24] at h6
                    have hsz := hg.size
                    obtain ⟨gq, cq, e4, ho4⟩ := h4
                    obtain ⟨e6, hlo6, ho6⟩ := h6
                    rw [e4, e6]
                    have hr6 := Reads.of_own ho6
                    have hgq := (ho4.lt gq rfl).1
                    go_wp2_with (first
                      | (at_builtin; refine wpList_append_own3 sl_strs (.tmp 135) (.tmp 137) rfl rfl (base := w4.heap.size) rfl ho4 rfl hr6 (Ss_one [[UInt8.ofNat t]]) (by omega) (by omega) hsz ?_; intro gz cz wz hle hgz hor hown))
                    exact ⟨_, rfl, hgz.mono (fun k i e => ⟨rfl, by omega⟩), gz, cz, rfl, by rw [List.map_append]; exact hown⟩
                  | 8, _ =>
                    obtain rfl := Option.some.inj ho
                    clear ho
                    simp only [actsD, List.getD_cons_zero, List.getD_cons_succ, List.foldl_cons, List.foldl_nil, Act.put, List.setIfInBounds_toArray, List.set_cons_succ, List.set_cons_zero]
                    have hsz := hg.size
                    go_wp2
                    exact ⟨_, rfl, GrowC.refl _, rfl⟩
                  | 9, _ =>
                    obtain rfl := Option.some.inj ho
                    clear ho
                    simp only [actsD, List.getD_cons_zero, List.getD_cons_succ, List.foldl_cons, List.foldl_nil, Act.put, List.setIfInBounds_toArray, List.set_cons_succ, List.set_cons_zero]
                    have hsz := hg.size
                    go_wp2
                    exact ⟨_, rfl, GrowC.refl _, rfl⟩
                  | 10, _ =>
                    obtain rfl := Option.some.inj ho
                    clear ho
                    simp only [actsD, List.getD_cons_zero, List.getD_cons_succ, List.foldl_cons, List.foldl_nil, Act.put, List.setIfInBounds_toArray, List.set_cons_succ, List.set_cons_zero]
                    obtain ⟨_, _, _, h8⟩ := hp 8 (by simp)
                    simp only [PMd24] at h8
                    obtain ⟨_, _, _, h9⟩ := hp 9 (by simp)
                    simp only [PMd24] at h9
                    have hsz := hg.size
                    rw [h8, h9]
                    by_cases hkc : vc = p
                    · have hn0 : nv - p = 0 := by omega
                      go_wp2
                      exact ⟨_, rfl, GrowC.refl _, va, 0, by rw [hn0], fun w2 _ => Reads.none1 (by rw [List.length_map, List.length_drop, HNV.out]; exact hn0) hn0⟩
                    · obtain ⟨gk, ck', he, _⟩ := own_some HVA4.out (fun e => by injection e with _ e2 _; omega)
                      obtain rfl := (Value.slice.inj he).1
                      clear he
                      go_wp2
                      exact ⟨_, rfl, GrowC.refl _, _, _, rfl, by rw [List.map_drop]; exact HRV.out.imp (fun w2 hh => by have h2 := hh.drop1 (k := p) (by omega) hkc; rwa [Nat.zero_add] at h2)⟩
                  | (q + 11), hq => exact absurd hq (by omega)
                intro vS lo hi w5 hg hp hd
                obtain ⟨_, _, _, h1⟩ := hp 1 (by omega)
                replace h1 := h1 (by decide)
                obtain ⟨_, _, _, h2⟩ := hp 2 (by omega)
                replace h2 := h2 (by decide)
                obtain ⟨_, _, _, h3⟩ := hp 3 (by omega)
                replace h3 := h3 (by decide)
                obtain ⟨_, _, _, h5⟩ := hp 5 (by omega)
                replace h5 := h5 (by decide)
                obtain ⟨_, _, _, h7⟩ := hp 7 (by omega)
                replace h7 := h7 (by decide)
                obtain ⟨_, _, _, h8⟩ := hp 8 (by omega)
                replace h8 := h8 (by decide)
                obtain ⟨_, _, _, h9⟩ := hp 9 (by omega)
                replace h9 := h9 (by decide)
                obtain ⟨_, _, _, h10⟩ := hp 10 (by omega)
                replace h10 := h10 (by decide)
                simp only [PMd24] at h1 h2 h3 h5 h7 h8 h9 h10
                clear hp hd
                have hsz := hg.size
                replace hB := hB.trans (hg.below (fun k hk => ⟨by omega, fun o => by rintro ⟨j, _, hw⟩; simp only [WMd24] at hw; omega⟩))
                have hr : List.range 11 = [0, 1, 2, 3, 4, 5, 6, 7, 8, 9, 10] := rfl
                rw [hr]
                clear hr
                simp only [List.drop_succ_cons, List.drop_zero, List.drop_nil, actsD, List.getD_cons_zero, List.getD_cons_succ, List.foldl_cons, List.foldl_nil, Act.put, List.setIfInBounds_toArray, List.set_cons_succ, List.set_cons_zero, h1, h2, h3, h5, h8, h9]
                clear h1 h2 h3 h5 h8 h9
                obtain ⟨gq, cq, e7, ho7⟩ := h7
                obtain ⟨a8, c8, e8, hr8⟩ := h10
                simp only [e7, e8]
                have hrd := hr8 _ (GrowX.of_growC (Y := fun k => w4.heap.size ≤ k) hg (fun k i hw => by obtain ⟨j, _, hw⟩ := hw; simp only [WMd24] at hw; omega))
                have hgr0 : Grow w4 w5 := hg.below (fun k hk => ⟨hk, fun o => by rintro ⟨j, _, hw⟩; simp only [WMd24] at hw; omega⟩)
                have hgq := (ho7.lt gq rfl).1
                clear e7 e8 hr8 hg
                go_wp2_with (first
                  | (at_builtin; refine wpList_append_own3 sl_strs (.tmp 138) (.tmp 141) rfl rfl (base := w4.heap.size) rfl ho7 rfl hrd (Ss_one _) (by omega) (by omega) hsz ?_; intro k6 c6 w6 hle4 hgz4 hor4 hown6; rw [← List.map_append] at hown6; have hg6 : Grow w4 w6 := hgr0.trans' hgz4 hgq; have hk6 : w4.heap.size ≤ k6 := (by rcases hor4 with e | e <;> omega); clear hle4 hgz4 hor4 ho7 hrd hgr0 hgq))
                replace ba := ba.below hg6 (Nat.le_refl _)
                replace hB := hB4.trans (hg6.mono (by omega))
                clear hB4
                have hkx6 := XR.turnB (n := p + 1 + (nv - p)) (c := c6) HKX4.out hg6 hk6
                have hka6 := own_below HKA4.out hg6 (fun q e => (HKA4.out.lt q e).2)
                have hva6 := own_base hown6 hs2
                have hk4lt : k4 < w4.heap.size := (HKA4.out.lt k4 rfl).2
                replace hs2 := Nat.le_trans hs2 hg6.size
                have hyx := (HY.out.symm).trans (Nd.put_new l [UInt8.ofNat t] HMS.out.leaf HMS.out.fits HH.out)
                rw [HPP.out] at hyx
                have hyk : y.keys = x.keys.take p ++ [l] ++ x.keys.drop p := by rw [hyx]; simp
                have hyv : y.vals = x.vals.take p ++ [[UInt8.ofNat t]] ++ x.vals.drop p := by rw [hyx]; simp
                have lk : y.keys.length = p + 1 + (nk - p) := by rw [hyk]; simp only [List.length_append, List.length_take, List.length_drop, HNK.out, List.length_singleton]; omega
                have lv : y.vals.length = p + 1 + (nv - p) := by rw [hyv]; simp only [List.length_append, List.length_take, List.length_drop, HNV.out, List.length_singleton]; omega
                have hMS6 : MS w g w6 (.slice ak mk mk) (.slice av mv mv) (.slice ad md md) (.slice (some ⟨k4, 0, none⟩) (p + 1 + (nk - p)) c4) (.slice (some ⟨k6, 0, none⟩) (p + 1 + (nv - p)) c6) y :=
                  ⟨ba, hB, by rw [lk, hyk]; exact hka6, by rw [lv, hyv]; exact hva6, (fun q e1 e2 => by
                    have e1 : some k4 = some q := e1
                    have e2 : some k6 = some q := e2
                    injection e1 with e1; injection e2 with e2; omega), hkx6, HYL.out, HYF.out, HYN.out, hlt0, hs2⟩
                have HM6 := Lib.hid hMS6
                have HXL6 := Lib.hid (And.intro HYS.out.keys2 HYS.out.vals2)
                have HLK := Lib.hid lk
                clear hyx hyk hyv lk lv hMS6 ba hB hkx6 hka6 hva6 hg6 hown6
                go_wp2
                go_roundw
                case rel => exact ⟨t + 1, .slice ak mk mk, .slice av mv mv, .slice ad md md, y, by omega, by go_num, by rw [HLK.out]; omega, HXL6, HM6.out⟩
                case measure => simp [intOf]; omega
    · have hvk := HNVK.out
      have ba := HMS.out.box
      have hna := HMS.out.n.now
      obtain ⟨a1, c1, e1⟩ : ∃ a c, n1 = .slice a nk c := by
        obtain ⟨xs, hr, _⟩ := hna.keys
        obtain ⟨a, c, e⟩ := hr.shape
        exact ⟨a, c, by rw [e, HNK.out]⟩
      obtain ⟨a2, c2, e2⟩ : ∃ a c, n2 = .slice a nk c := by
        obtain ⟨xs, hr, _⟩ := hna.vals
        obtain ⟨a, c, e⟩ := hr.shape
        exact ⟨a, c, by rw [e, HNV.out, hvk]⟩
      subst e1
      subst e2
      have HTK := Lib.hid hna.keys
      have HTV := Lib.hid hna.vals
      have HAB := Lib.hid HMS.out.b
      rw [HNV.out] at HAB
      have HVC : Hid (0 < nk → ∃ gv, va = some ⟨gv, 0, none⟩ ∧ gv < wr.heap.size ∧ ∀ j u, (x.vals.map S)[j]? = some u → wr.cell? ⟨gv, j, none⟩ = some u) := Lib.hid (by
        intro h0
        obtain ⟨gv, cv', he, hgv1, hgv2, _, _⟩ := own_some HAB.out (fun e => by injection e with _ e2 _; omega)
        obtain rfl := (Value.slice.inj he).1
        exact ⟨gv, rfl, hgv2, fun j u hu => by have := own_cells HAB.out j u hu; rwa [Addr.add_lit, Nat.zero_add] at this⟩)
      have HNV2 : Hid (x.vals.length = nk) := Lib.hid (by rw [HNV.out, hvk])
      have HKC2 : Hid (∀ q, (.slice ka nk kc : Value).ownBlock = some q → q < wr.heap.size) := Lib.hid (fun q e => (hA.out.lt q e).2)
      have hgo' : decide (t < pn) = false ∨ (decide (t < pn) = true ∧ decide ((t : Int) < 40) = false) := by
        by_cases h1 : t < pn
        · exact .inr ⟨by simp [h1], by simp; omega⟩
        · exact .inl (by simp [h1])
      have hwg : w.heap.size ≤ wr.heap.size := hBr.size
      clear hna
      subst hvk
      clear hgo
      rcases hgo' with d1 | ⟨d1, d2⟩
      · have cn0 := ba.cell 0 _ rfl
        have cn1 := ba.cell 1 _ rfl
        have cn2 := ba.cell 2 _ rfl
        have fn := ba.free
        go_wp2_with fail
        clear cn0 cn1 cn2 fn
        go_loopw [15] (fun i wq => ∃ j : Nat, j ≤ nv ∧ i = .int .i64 j ∧ Below wr.heap.size wr wq) (fun i _ => nv - (intOf i).toNat)
        case atStart => exact ⟨0, Nat.zero_le _, rfl, Below.refl _ _⟩
        case round =>
          obtain ⟨j, hj, rfl, hbq⟩ := hrel
          have ba := ba.below hbq (Nat.le_refl _)
          by_cases hlt : j < nv
          · have hkj : j < x.keys.length := by rw [HNK.out]; exact hlt
            have hvj : j < x.vals.length := by rw [HNV2.out]; exact hlt
            have hu : x.keys[j]? = some x.keys[j] := List.getElem?_eq_getElem hkj
            have hv : x.vals[j]? = some x.vals[j] := List.getElem?_eq_getElem hvj
            generalize x.keys[j] = m at hu
            generalize x.vals[j] = m' at hv
            obtain ⟨b3, p3, q3, a3, c3, e3, hc3, hb3, hr3⟩ := HTK.out.at' j m hu
            obtain rfl := (Value.slice.inj e3).1
            obtain ⟨b4, p4, q4, a4, c4, e4, hc4, hb4, hr4⟩ := HTV.out.at' j m' hv
            obtain rfl := (Value.slice.inj e4).1
            obtain ⟨gk, rfl, hac⟩ := HAC.out (by omega)
            obtain ⟨gv, rfl, hgv, hvc⟩ := HVC.out (by omega)
            have hgk := HKC2.out gk rfl
            have k1 := (hbq.cell (p := ⟨gk, j, none⟩) hgk).trans (hac j (S m) (by rw [List.getElem?_map, hu]; rfl))
            have k2 := (hbq.cell (p := ⟨gv, j, none⟩) hgv).trans (hvc j (S m') (by rw [List.getElem?_map, hv]; rfl))
            have k3 := (hbq.cell (p := ⟨b3, p3 + j, none⟩) hb3).trans hc3
            have k4 := (hbq.cell (p := ⟨b4, p4 + j, none⟩) hb4).trans hc4
            simp only [S] at k1 k2
            have cv1 := fun n => run_str_reads (P := Try.prog) (src := 28) (dst := 9) Try.underlying28 Try.underlying5 Try.underlying9 _ ((hr3.below hbq (Nat.le_refl _)).below (below_dn (Below.refl wr.heap.size wr) n) (Nat.le_refl _))
            have cv2 := fun n => run_str_reads (P := Try.prog) (src := 28) (dst := 9) Try.underlying28 Try.underlying5 Try.underlying9 _ ((hr4.below hbq (Nat.le_refl _)).below (below_dn (Below.refl wr.heap.size wr) n) (Nat.le_refl _))
            obtain ⟨l3, hl3⟩ : ∃ q, m.length = q := ⟨_, rfl⟩
            obtain ⟨l4, hl4⟩ : ∃ q, m'.length = q := ⟨_, rfl⟩
            rw [hl3] at k3 cv1
            rw [hl4] at k4 cv2
            have cn1 := ba.cell 1 _ rfl
            have cn2 := ba.cell 2 _ rfl
            have fn := ba.free
            clear hac hvc hu hv hkj hvj hc3 hc4 e3 e4 hr3 hr4 hl3 hl4
            go_wp2_with fail
            go_quiet (fail)
            go_wp2
            have hq := below_dn hbq nq
            go_roundw
            case rel => exact ⟨j + 1, by omega, by go_num, hq⟩
            case measure => simp [intOf]; omega
          · obtain rfl : j = nv := by omega
            go_wp2_with fail
            refine (awake_any wr).mono ?_
            rintro e w3 ⟨rfl, hb3⟩
            have hB := (hBr.trans (hbq.mono hwg)).trans (hb3.mono (by have := hbq.size; omega))
            go_wp2
            go_ret
            exact ⟨rfl, hB⟩
      · have cn0 := ba.cell 0 _ rfl
        have cn1 := ba.cell 1 _ rfl
        have cn2 := ba.cell 2 _ rfl
        have fn := ba.free
        go_wp2_with fail
        clear cn0 cn1 cn2 fn
        go_loopw [15] (fun i wq => ∃ j : Nat, j ≤ nv ∧ i = .int .i64 j ∧ Below wr.heap.size wr wq) (fun i _ => nv - (intOf i).toNat)
        case atStart => exact ⟨0, Nat.zero_le _, rfl, Below.refl _ _⟩
        case round =>
          obtain ⟨j, hj, rfl, hbq⟩ := hrel
          have ba := ba.below hbq (Nat.le_refl _)
          by_cases hlt : j < nv
          · have hkj : j < x.keys.length := by rw [HNK.out]; exact hlt
            have hvj : j < x.vals.length := by rw [HNV2.out]; exact hlt
            have hu : x.keys[j]? = some x.keys[j] := List.getElem?_eq_getElem hkj
            have hv : x.vals[j]? = some x.vals[j] := List.getElem?_eq_getElem hvj
            generalize x.keys[j] = m at hu
            generalize x.vals[j] = m' at hv
            obtain ⟨b3, p3, q3, a3, c3, e3, hc3, hb3, hr3⟩ := HTK.out.at' j m hu
            obtain rfl := (Value.slice.inj e3).1
            obtain ⟨b4, p4, q4, a4, c4, e4, hc4, hb4, hr4⟩ := HTV.out.at' j m' hv
            obtain rfl := (Value.slice.inj e4).1
            obtain ⟨gk, rfl, hac⟩ := HAC.out (by omega)
            obtain ⟨gv, rfl, hgv, hvc⟩ := HVC.out (by omega)
            have hgk := HKC2.out gk rfl
            have k1 := (hbq.cell (p := ⟨gk, j, none⟩) hgk).trans (hac j (S m) (by rw [List.getElem?_map, hu]; rfl))
            have k2 := (hbq.cell (p := ⟨gv, j, none⟩) hgv).trans (hvc j (S m') (by rw [List.getElem?_map, hv]; rfl))
            have k3 := (hbq.cell (p := ⟨b3, p3 + j, none⟩) hb3).trans hc3
            have k4 := (hbq.cell (p := ⟨b4, p4 + j, none⟩) hb4).trans hc4
            simp only [S] at k1 k2
            have cv1 := fun n => run_str_reads (P := Try.prog) (src := 28) (dst := 9) Try.underlying28 Try.underlying5 Try.underlying9 _ ((hr3.below hbq (Nat.le_refl _)).below (below_dn (Below.refl wr.heap.size wr) n) (Nat.le_refl _))
            have cv2 := fun n => run_str_reads (P := Try.prog) (src := 28) (dst := 9) Try.underlying28 Try.underlying5 Try.underlying9 _ ((hr4.below hbq (Nat.le_refl _)).below (below_dn (Below.refl wr.heap.size wr) n) (Nat.le_refl _))
            obtain ⟨l3, hl3⟩ : ∃ q, m.length = q := ⟨_, rfl⟩
            obtain ⟨l4, hl4⟩ : ∃ q, m'.length = q := ⟨_, rfl⟩
            rw [hl3] at k3 cv1
            rw [hl4] at k4 cv2
            have cn1 := ba.cell 1 _ rfl
            have cn2 := ba.cell 2 _ rfl
            have fn := ba.free
            clear hac hvc hu hv hkj hvj hc3 hc4 e3 e4 hr3 hr4 hl3 hl4
            go_wp2_with fail
            go_quiet (fail)
            go_wp2
            have hq := below_dn hbq nq
            go_roundw
            case rel => exact ⟨j + 1, by omega, by go_num, hq⟩
            case measure => simp [intOf]; omega
          · obtain rfl : j = nv := by omega
            go_wp2_with fail
            refine (awake_any wr).mono ?_
            rintro e w3 ⟨rfl, hb3⟩
            have hB := (hBr.trans (hbq.mono hwg)).trans (hb3.mono (by have := hbq.size; omega))
            go_wp2
            go_ret
            exact ⟨rfl, hB⟩

end Go.Proofs.Ytfbblgcdggpehaa

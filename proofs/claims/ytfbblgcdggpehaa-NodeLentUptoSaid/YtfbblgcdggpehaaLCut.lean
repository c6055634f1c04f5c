/- Nodes in new memory that may be written, more of them; the ends of Cut, Split, Merge. Conditions: none. -/
import Derived.Test.YtfbblgcdggpehaaNOwn
namespace Go.Proofs.Ytfbblgcdggpehaa
set_option linter.unusedSimpArgs false
set_option linter.unusedVariables false
open Go.RowKit

theorem NodeO.mono {G G' : Nat} {w : World} {ks vs ds : Value} {x : Nd} (h : NodeO G w ks vs ds x) (hG : G' ≤ G) : NodeO G' w ks vs ds x := by
  obtain ⟨⟨xk, h1, h2⟩, ⟨xv, h3, h4⟩, h5, h6, h7, h8⟩ := h
  exact ⟨⟨xk, h1, h2.mono hG⟩, ⟨xv, h3, h4.mono hG⟩, h5, h6.mono hG, h7.mono hG, h8.mono hG⟩
theorem NewS.cut {G : Nat} {w : World} {a : Option Addr} {n c n' c' : Nat} (h : NewS G w (.slice a n c)) (hn : n' ≤ n) : NewS G w (.slice a n' c') := by
  intro b o m c2 he h0
  injection he with e1 e2 e3
  subst e1 e2
  exact h b o n c rfl (by omega)
theorem copied_own_sl (x : Nd) (ks vs ds : Value) (w : World) (hx : NodeAt w ks vs ds x) (hok : x.ok) (b : Bool) (n : Int) (nk nv nd : Nat) (hb : x.leaf = b) (hn : x.next = n) (hk : x.keys.length = nk) (hv : x.vals.length = nv) (hd : x.kids.length = nd) :
    Calls Try.prog 27 #[.agg #[.bool b, ks, vs, ds, .int .i64 n]] w fun e w' => ∃ ak av ad, e = .returned (.agg #[.bool b, .slice ak nk nk, .slice av nv nv, .slice ad nd nd, .int .i64 n]) ∧
      Kept (fun k => k < w.heap.size) w' (fun w2 => NodeO w.heap.size w2 (.slice ak nk nk) (.slice av nv nv) (.slice ad nd nd) x) ∧ Below w.heap.size w w' := by
  subst hb hn hk hv hd
  refine (copied_own x ks vs ds w hx hok).mono ?_
  intro e w' h
  obtain ⟨ak, ck, xk, av, cv, xv, ad, h1, h2, h3, h4⟩ := h
  exact ⟨ak, av, ad, h1, h2.node rfl rfl h3, h4⟩
theorem TOwn.at_kept {B0 G : Nat} {w : World} {b o n c : Nat} {L : List (List UInt8)} (hk : Kept (fun k => k < B0) w (fun w2 => ∃ xs, Reads 1 w2 (.slice (some ⟨b, o, none⟩) n c) L.length xs ∧ TOwn G w2 xs L)) (k : Nat) (hkl : k < L.length) {s : Value} (hs : w.cell? ⟨b, o + k, none⟩ = some s) :
    Kept (fun k => k < B0) w (fun w2 => NewS G w2 s) := by
  obtain ⟨_, _, _, ⟨hb, hnb⟩, _⟩ := Texts.at_kept (hk.imp (fun w2 h => by obtain ⟨xs, h1, h2⟩ := h; exact ⟨xs, h1, h2.reads⟩)) k hkl
  intro w2 hg
  obtain ⟨xs, hr, ht⟩ := hk w2 hg
  have hcell : w2.cell? ⟨b, o + k, none⟩ = w.cell? ⟨b, o + k, none⟩ := by
    have := hg.block b hb hnb
    simp only [World.cell?, this]
  have hx : k < xs.length := by rw [ht.reads.1]; exact hkl
  obtain ⟨_, _, he, hl, hc, hcs⟩ := hr
  obtain ⟨b2, o2, e2, _, hcc⟩ := hcs (by omega)
  injection he with he _ _
  subst he
  injection e2 with e2
  injection e2 with e3 e4 _
  subst e3 e4
  have := hcc k xs[k] (List.getElem?_eq_getElem hx)
  rw [hcell, hs] at this
  injection this with this
  rw [this]
  exact ht.new _ (List.getElem_mem hx)
/-- what Cut answers, in new memory -/
def CutEndO (x : Nd) (h : Nat) (w : World) (e : Ending) (w' : World) : Prop :=
  ∃ lk lv ld rk rv rd s, e = .returned (.tuple #[nodeV (x.cutL h) lk lv ld, s, nodeV (x.cutR h) rk rv rd]) ∧
    Kept (fun k => k < w.heap.size) w' (fun w2 => NodeO w.heap.size w2 lk lv ld (x.cutL h) ∧ NodeO w.heap.size w2 rk rv rd (x.cutR h) ∧ Reads 1 w2 s (x.keys.getD h []).length ((x.keys.getD h []).map B) ∧ NewS w.heap.size w2 s) ∧ Below w.heap.size w w'

def WLntA2 (g nk h kb ko vb vo : Nat) (n : Int) (ad : Option Addr) (j b o : Nat) : Prop := (j = 2 ∧ b = g + 1 ∧ o = 0) ∨ (j = 2 ∧ b = g + 1 ∧ o = 1) ∨ (j = 2 ∧ b = g + 1 ∧ o = 2) ∨ (j = 2 ∧ b = g + 1 ∧ o = 3) ∨ (j = 2 ∧ b = g + 1 ∧ o = 4) ∨ (j = 3 ∧ b = g + 1 + 1 ∧ o = 0) ∨ (j = 3 ∧ b = g + 1 + 1 ∧ o = 1) ∨ (j = 3 ∧ b = g + 1 + 1 ∧ o = 2) ∨ (j = 3 ∧ b = g + 1 + 1 ∧ o = 3) ∨ (j = 3 ∧ b = g + 1 + 1 ∧ o = 4)
def PLntA2 (g nk h kb ko vb vo : Nat) (n : Int) (ad : Option Addr) (i : Nat) (v : Value) (lo hi : Nat) (w : World) : Prop :=
  match i with
  | 0 => v = .agg #[.bool true, .slice (some ⟨kb, ko, none⟩) nk nk, .slice (some ⟨vb, vo, none⟩) nk nk, .slice ad 0 0, .int .i64 n]
  | 1 => v = .agg #[.bool true, .slice (some ⟨kb, ko, none⟩) nk nk, .slice (some ⟨vb, vo, none⟩) nk nk, .slice ad 0 0, .int .i64 n]
  | 2 => g + 1 < w.heap.size ∧ w.cell? ⟨g + 1, 0, none⟩ = some (.bool true) ∧ w.cell? ⟨g + 1, 1, none⟩ = some (.slice (some ⟨kb, ko, none⟩) nk nk) ∧ w.cell? ⟨g + 1, 2, none⟩ = some (.slice (some ⟨vb, vo, none⟩) nk nk) ∧ w.cell? ⟨g + 1, 3, none⟩ = some (.slice ad 0 0) ∧ w.cell? ⟨g + 1, 4, none⟩ = some (.int .i64 n)
  | 3 => g + 1 + 1 < w.heap.size ∧ w.cell? ⟨g + 1 + 1, 0, none⟩ = some (.bool true) ∧ w.cell? ⟨g + 1 + 1, 1, none⟩ = some (.slice (some ⟨kb, ko, none⟩) nk nk) ∧ w.cell? ⟨g + 1 + 1, 2, none⟩ = some (.slice (some ⟨vb, vo, none⟩) nk nk) ∧ w.cell? ⟨g + 1 + 1, 3, none⟩ = some (.slice ad 0 0) ∧ w.cell? ⟨g + 1 + 1, 4, none⟩ = some (.int .i64 n)
  | _ => True
theorem PLntA2_stable (g nk h kb ko vb vo : Nat) (n : Int) (ad : Option Addr)  : ∀ i j, i < 4 → j < 4 → j ≠ i → j ∉ ([[], [], [0], [0, 1, 2]] : List (List Nat)).getD i [] → ∀ v lo hi w w', PLntA2 g nk h kb ko vb vo n ad i v lo hi w → GrowC (WLntA2 g nk h kb ko vb vo n ad j) w w' → PLntA2 g nk h kb ko vb vo n ad i v lo hi w' := by
  intro i j hi hj hne hbs v lo hj2 w w' h hg
  match i, hi with
  | 0, _ =>
    simp only [PLntA2] at h ⊢
    exact h
  | 1, _ =>
    simp only [PLntA2] at h ⊢
    exact h
  | 2, _ =>
    simp only [PLntA2] at h ⊢
    obtain ⟨h0, h1, h2, h3, h4, h5⟩ := h
    exact ⟨Nat.lt_of_lt_of_le h0 hg.size, (hg.cell _ _ h0 (by simp only [WLntA2]; omega)).trans h1, (hg.cell _ _ h0 (by simp only [WLntA2]; omega)).trans h2, (hg.cell _ _ h0 (by simp only [WLntA2]; omega)).trans h3, (hg.cell _ _ h0 (by simp only [WLntA2]; omega)).trans h4, (hg.cell _ _ h0 (by simp only [WLntA2]; omega)).trans h5⟩
  | 3, _ =>
    simp only [PLntA2] at h ⊢
    obtain ⟨h0, h1, h2, h3, h4, h5⟩ := h
    exact ⟨Nat.lt_of_lt_of_le h0 hg.size, (hg.cell _ _ h0 (by simp only [WLntA2]; omega)).trans h1, (hg.cell _ _ h0 (by simp only [WLntA2]; omega)).trans h2, (hg.cell _ _ h0 (by simp only [WLntA2]; omega)).trans h3, (hg.cell _ _ h0 (by simp only [WLntA2]; omega)).trans h4, (hg.cell _ _ h0 (by simp only [WLntA2]; omega)).trans h5⟩
  | (q + 4), hq => exact absurd hq (by omega)
def WLntA5 (g nk h kb ko vb vo : Nat) (n : Int) (ad : Option Addr) (j b o : Nat) : Prop := (j = 9 ∧ b = g + 1 ∧ o = 1) ∨ (j = 11 ∧ b = g + 1 ∧ o = 2)
def PLntA5 (g nk h kb ko vb vo : Nat) (n : Int) (ad : Option Addr) (i : Nat) (v : Value) (lo hi : Nat) (w : World) : Prop :=
  match i with
  | 0 => v = .pointer (some ⟨g, 1, none⟩)
  | 1 => v = .slice (some ⟨kb, ko, none⟩) nk nk
  | 2 => v = .int .i64 h
  | 3 => v = .slice (some ⟨kb, ko, none⟩) h nk
  | 4 => v = .pointer (some ⟨g, 2, none⟩)
  | 5 => v = .slice (some ⟨vb, vo, none⟩) nk nk
  | 6 => v = .int .i64 h
  | 7 => v = .slice (some ⟨vb, vo, none⟩) h nk
  | 8 => v = .pointer (some ⟨g + 1, 1, none⟩)
  | 9 => g + 1 < w.heap.size ∧ w.cell? ⟨g + 1, 1, none⟩ = some (.slice (some ⟨kb, ko, none⟩) h nk)
  | 10 => v = .pointer (some ⟨g + 1, 2, none⟩)
  | 11 => g + 1 < w.heap.size ∧ w.cell? ⟨g + 1, 2, none⟩ = some (.slice (some ⟨vb, vo, none⟩) h nk)
  | _ => True
theorem PLntA5_stable (g nk h kb ko vb vo : Nat) (n : Int) (ad : Option Addr)  : ∀ i j, i < 12 → j < 12 → j ≠ i → j ∉ ([[], [0], [], [0, 1, 2], [], [4], [], [4, 5, 6], [0, 1, 2, 3], [0, 1, 2, 3, 8], [0, 1, 2, 3, 4, 5, 6, 7, 8, 9], [0, 1, 2, 3, 4, 5, 6, 7, 8, 9, 10]] : List (List Nat)).getD i [] → ∀ v lo hi w w', PLntA5 g nk h kb ko vb vo n ad i v lo hi w → GrowC (WLntA5 g nk h kb ko vb vo n ad j) w w' → PLntA5 g nk h kb ko vb vo n ad i v lo hi w' := by
  intro i j hi hj hne hbs v lo hj2 w w' h hg
  match i, hi with
  | 0, _ =>
    simp only [PLntA5] at h ⊢
    exact h
  | 1, _ =>
    simp only [PLntA5] at h ⊢
    exact h
  | 2, _ =>
    simp only [PLntA5] at h ⊢
    exact h
  | 3, _ =>
    simp only [PLntA5] at h ⊢
    exact h
  | 4, _ =>
    simp only [PLntA5] at h ⊢
    exact h
  | 5, _ =>
    simp only [PLntA5] at h ⊢
    exact h
  | 6, _ =>
    simp only [PLntA5] at h ⊢
    exact h
  | 7, _ =>
    simp only [PLntA5] at h ⊢
    exact h
  | 8, _ =>
    simp only [PLntA5] at h ⊢
    exact h
  | 9, _ =>
    simp only [PLntA5] at h ⊢
    obtain ⟨h0, h1⟩ := h
    exact ⟨Nat.lt_of_lt_of_le h0 hg.size, (hg.cell _ _ h0 (by simp only [WLntA5]; omega)).trans h1⟩
  | 10, _ =>
    simp only [PLntA5] at h ⊢
    exact h
  | 11, _ =>
    simp only [PLntA5] at h ⊢
    obtain ⟨h0, h1⟩ := h
    exact ⟨Nat.lt_of_lt_of_le h0 hg.size, (hg.cell _ _ h0 (by simp only [WLntA5]; omega)).trans h1⟩
  | (q + 12), hq => exact absurd hq (by omega)
def WLntA6 (g nk h kb ko vb vo : Nat) (n : Int) (ad : Option Addr) (j b o : Nat) : Prop := (j = 9 ∧ b = g + 1 + 1 ∧ o = 1) ∨ (j = 11 ∧ b = g + 1 + 1 ∧ o = 2)
def PLntA6 (g nk h kb ko vb vo : Nat) (n : Int) (ad : Option Addr) (i : Nat) (v : Value) (lo hi : Nat) (w : World) : Prop :=
  match i with
  | 0 => v = .pointer (some ⟨g, 1, none⟩)
  | 1 => v = .slice (some ⟨kb, ko, none⟩) nk nk
  | 2 => v = .int .i64 h
  | 3 => v = .slice (some ⟨kb, ko + h, none⟩) (nk - h) (nk - h)
  | 4 => v = .pointer (some ⟨g, 2, none⟩)
  | 5 => v = .slice (some ⟨vb, vo, none⟩) nk nk
  | 6 => v = .int .i64 h
  | 7 => v = .slice (some ⟨vb, vo + h, none⟩) (nk - h) (nk - h)
  | 8 => v = .pointer (some ⟨g + 1 + 1, 1, none⟩)
  | 9 => g + 1 + 1 < w.heap.size ∧ w.cell? ⟨g + 1 + 1, 1, none⟩ = some (.slice (some ⟨kb, ko + h, none⟩) (nk - h) (nk - h))
  | 10 => v = .pointer (some ⟨g + 1 + 1, 2, none⟩)
  | 11 => g + 1 + 1 < w.heap.size ∧ w.cell? ⟨g + 1 + 1, 2, none⟩ = some (.slice (some ⟨vb, vo + h, none⟩) (nk - h) (nk - h))
  | _ => True
theorem PLntA6_stable (g nk h kb ko vb vo : Nat) (n : Int) (ad : Option Addr)  : ∀ i j, i < 12 → j < 12 → j ≠ i → j ∉ ([[], [0], [], [0, 1, 2], [], [4], [], [4, 5, 6], [0, 1, 2, 3], [0, 1, 2, 3, 8], [0, 1, 2, 3, 4, 5, 6, 7, 8, 9], [0, 1, 2, 3, 4, 5, 6, 7, 8, 9, 10]] : List (List Nat)).getD i [] → ∀ v lo hi w w', PLntA6 g nk h kb ko vb vo n ad i v lo hi w → GrowC (WLntA6 g nk h kb ko vb vo n ad j) w w' → PLntA6 g nk h kb ko vb vo n ad i v lo hi w' := by
  intro i j hi hj hne hbs v lo hj2 w w' h hg
  match i, hi with
  | 0, _ =>
    simp only [PLntA6] at h ⊢
    exact h
  | 1, _ =>
    simp only [PLntA6] at h ⊢
    exact h
  | 2, _ =>
    simp only [PLntA6] at h ⊢
    exact h
  | 3, _ =>
    simp only [PLntA6] at h ⊢
    exact h
  | 4, _ =>
    simp only [PLntA6] at h ⊢
    exact h
  | 5, _ =>
    simp only [PLntA6] at h ⊢
    exact h
  | 6, _ =>
    simp only [PLntA6] at h ⊢
    exact h
  | 7, _ =>
    simp only [PLntA6] at h ⊢
    exact h
  | 8, _ =>
    simp only [PLntA6] at h ⊢
    exact h
  | 9, _ =>
    simp only [PLntA6] at h ⊢
    obtain ⟨h0, h1⟩ := h
    exact ⟨Nat.lt_of_lt_of_le h0 hg.size, (hg.cell _ _ h0 (by simp only [WLntA6]; omega)).trans h1⟩
  | 10, _ =>
    simp only [PLntA6] at h ⊢
    exact h
  | 11, _ =>
    simp only [PLntA6] at h ⊢
    obtain ⟨h0, h1⟩ := h
    exact ⟨Nat.lt_of_lt_of_le h0 hg.size, (hg.cell _ _ h0 (by simp only [WLntA6]; omega)).trans h1⟩
  | (q + 12), hq => exact absurd hq (by omega)
def WLntA7 (W0 : World) (h nk kb ko vb vo g m c0 : Nat) (n : Int) (ad a0 : Option Addr) (K V : List (List UInt8)) (l : List UInt8) (j b o : Nat) : Prop := False
def PLntA7 (W0 : World) (h nk kb ko vb vo g m c0 : Nat) (n : Int) (ad a0 : Option Addr) (K V : List (List UInt8)) (l : List UInt8) (i : Nat) (v : Value) (lo hi : Nat) (w : World) : Prop :=
  match i with
  | 0 => v = .agg #[.bool true, .slice (some ⟨kb, ko, none⟩) h nk, .slice (some ⟨vb, vo, none⟩) h nk, .slice ad 0 0, .int .i64 0]
  | 1 => ∃ a1 a2 a3, v = .agg #[.bool true, .slice a1 h h, .slice a2 h h, .slice a3 0 0, .int .i64 0] ∧ Kept (fun k => k < W0.heap.size) w (fun w2 => NodeO W0.heap.size w2 (.slice a1 h h) (.slice a2 h h) (.slice a3 0 0) ⟨true, K.take h, V.take h, [], 0⟩)
  | 2 => v = .pointer (some ⟨g, 1, none⟩)
  | 3 => v = .slice (some ⟨kb, ko, none⟩) nk nk
  | 4 => v = .int .i64 h
  | 5 => v = .pointer (some ⟨kb, ko + h, none⟩)
  | 6 => v = .slice a0 m c0
  | 7 => ∃ a1 c1, v = .slice a1 m c1 ∧ m ≤ c1 ∧ Kept (fun k => k < W0.heap.size) w (fun w2 => Reads 1 w2 (.slice a1 m c1) m (l.map B) ∧ NewS W0.heap.size w2 (.slice a1 m c1))
  | 8 => ∃ a1, v = .slice a1 m m ∧ Kept (fun k => k < W0.heap.size) w (fun w2 => Reads 1 w2 (.slice a1 m m) m (l.map B) ∧ NewS W0.heap.size w2 (.slice a1 m m))
  | 9 => v = .agg #[.bool true, .slice (some ⟨kb, ko + h, none⟩) (nk - h) (nk - h), .slice (some ⟨vb, vo + h, none⟩) (nk - h) (nk - h), .slice ad 0 0, .int .i64 n]
  | 10 => ∃ a1 a2 a3, v = .agg #[.bool true, .slice a1 (nk - h) (nk - h), .slice a2 (nk - h) (nk - h), .slice a3 0 0, .int .i64 n] ∧ Kept (fun k => k < W0.heap.size) w (fun w2 => NodeO W0.heap.size w2 (.slice a1 (nk - h) (nk - h)) (.slice a2 (nk - h) (nk - h)) (.slice a3 0 0) ⟨true, K.drop h, V.drop h, [], n⟩)
  | _ => True
theorem PLntA7_stable (W0 : World) (h nk kb ko vb vo g m c0 : Nat) (n : Int) (ad a0 : Option Addr) (K V : List (List UInt8)) (l : List UInt8)  : ∀ i j, i < 11 → j < 11 → j ≠ i → j ∉ ([[], [0], [], [2], [], [2, 3, 4], [2, 3, 4, 5], [0, 1, 2, 3, 4, 5, 6], [0, 1, 2, 3, 4, 5, 6, 7], [], [0, 1, 2, 3, 4, 5, 6, 7, 8, 9]] : List (List Nat)).getD i [] → ∀ v lo hi w w', PLntA7 W0 h nk kb ko vb vo g m c0 n ad a0 K V l i v lo hi w → GrowC (WLntA7 W0 h nk kb ko vb vo g m c0 n ad a0 K V l j) w w' → PLntA7 W0 h nk kb ko vb vo g m c0 n ad a0 K V l i v lo hi w' := by
  intro i j hi hj hne hbs v lo hj2 w w' h hg
  match i, hi with
  | 0, _ =>
    simp only [PLntA7] at h ⊢
    exact h
  | 1, _ =>
    simp only [PLntA7] at h ⊢
    obtain ⟨a1, a2, a3, h1, h2⟩ := h; exact ⟨a1, a2, a3, h1, h2.grow (GrowX.of_growC hg (fun _ _ hw => False.elim hw))⟩
  | 2, _ =>
    simp only [PLntA7] at h ⊢
    exact h
  | 3, _ =>
    simp only [PLntA7] at h ⊢
    exact h
  | 4, _ =>
    simp only [PLntA7] at h ⊢
    exact h
  | 5, _ =>
    simp only [PLntA7] at h ⊢
    exact h
  | 6, _ =>
    simp only [PLntA7] at h ⊢
    exact h
  | 7, _ =>
    simp only [PLntA7] at h ⊢
    obtain ⟨a1, c1, h1, h2, h3⟩ := h; exact ⟨a1, c1, h1, h2, h3.grow (GrowX.of_growC hg (fun _ _ hw => False.elim hw))⟩
  | 8, _ =>
    simp only [PLntA7] at h ⊢
    obtain ⟨a1, h1, h2⟩ := h; exact ⟨a1, h1, h2.grow (GrowX.of_growC hg (fun _ _ hw => False.elim hw))⟩
  | 9, _ =>
    simp only [PLntA7] at h ⊢
    exact h
  | 10, _ =>
    simp only [PLntA7] at h ⊢
    obtain ⟨a1, a2, a3, h1, h2⟩ := h; exact ⟨a1, a2, a3, h1, h2.grow (GrowX.of_growC hg (fun _ _ hw => False.elim hw))⟩
  | (q + 11), hq => exact absurd hq (by omega)

set_option maxRecDepth 100000 in
set_option maxHeartbeats 3200000 in
theorem cutO_leaf (K V : List (List UInt8)) (n : Int) (ks vs ds : Value) (h : Nat) (w : World) (hx : NodeAt w ks vs ds ⟨true, K, V, [], n⟩) (hok : (⟨true, K, V, [], n⟩ : Nd).ok) (hl : V.length = K.length) (hh : h < K.length) (h0 : 0 < h) :
    Calls Try.prog 28 #[.agg #[.bool true, ks, vs, ds, .int .i64 n], .int .i64 h] w fun e w' => CutEndO ⟨true, K, V, [], n⟩ h w e w' := by
  obtain ⟨g, hg0⟩ : ∃ g, w.heap.size = g := ⟨_, rfl⟩
  obtain ⟨nk, hnk⟩ : ∃ nk, K.length = nk := ⟨_, rfl⟩
  have hkb : nk ≤ 1099511627776 := hnk ▸ hok.keys
  rw [hnk] at hh
  have ba := ((Box.new w #[.bool true, ks, vs, ds, .int .i64 n] 25 hg0.symm).alloc (.cells #[.bool false, .slice none 0 0, .slice none 0 0, .slice none 0 0, .int .i64 0] 25)).alloc (.cells #[.bool false, .slice none 0 0, .slice none 0 0, .slice none 0 0, .int .i64 0] 25)
  have bb := (Box.new (w.alloc (.cells #[.bool true, ks, vs, ds, .int .i64 n] 25)) #[.bool false, .slice none 0 0, .slice none 0 0, .slice none 0 0, .int .i64 0] 25 (g := g + 1) (by simp; omega)).alloc (.cells #[.bool false, .slice none 0 0, .slice none 0 0, .slice none 0 0, .int .i64 0] 25)
  have bc := Box.new ((w.alloc (.cells #[.bool true, ks, vs, ds, .int .i64 n] 25)).alloc (.cells #[.bool false, .slice none 0 0, .slice none 0 0, .slice none 0 0, .int .i64 0] 25)) #[.bool false, .slice none 0 0, .slice none 0 0, .slice none 0 0, .int .i64 0] 25 (g := g + 1 + 1) (by simp; omega)
  have hB := (((Below.refl w.heap.size w).alloc (Nat.le_refl _) (.cells #[.bool true, ks, vs, ds, .int .i64 n] 25)).alloc (by simp) (.cells #[.bool false, .slice none 0 0, .slice none 0 0, .slice none 0 0, .int .i64 0] 25)).alloc (by simp; omega) (.cells #[.bool false, .slice none 0 0, .slice none 0 0, .slice none 0 0, .int .i64 0] 25)
  have HX := Lib.hid (hx.below hB (Nat.le_refl _))
  have HG := Lib.hid hg0
  have HNK := Lib.hid hnk
  have HL := Lib.hid hl
  have HW := Lib.hid (show ∃ W0 : World, W0 = ((w.alloc (.cells #[.bool true, ks, vs, ds, .int .i64 n] 25)).alloc (.cells #[.bool false, .slice none 0 0, .slice none 0 0, .slice none 0 0, .int .i64 0] 25)).alloc (.cells #[.bool false, .slice none 0 0, .slice none 0 0, .slice none 0 0, .int .i64 0] 25) from ⟨_, rfl⟩)
  simp only [] at ba bb bc
  clear hx hl hnk
  have ca0 := ba.cell 0 _ rfl
  have ca1 := ba.cell 1 _ rfl
  have ca2 := ba.cell 2 _ rfl
  have ca3 := ba.cell 3 _ rfl
  have ca4 := ba.cell 4 _ rfl
  have fa := ba.free
  go_enter Try.func28, Try.ntmps28
  go_wp2_with fail
  refine (copied_sl _ ks vs ds _ HX.out hok true n nk nk 0 rfl rfl HNK.out (HL.out.trans HNK.out) rfl).mono ?_
  rintro e w1 ⟨ak, av, ad, rfl, hk, hb1⟩
  clear ca0 ca1 ca2 ca3 ca4 fa
  replace ba := ba.below hb1 (Nat.le_refl _)
  replace bb := bb.below hb1 (Nat.le_refl _)
  replace bc := bc.below hb1 (Nat.le_refl _)
  have hgs := ba.lt
  replace hB := hB.trans (Below.mono hb1 (by simp; omega))
  have hb2 : g + 3 ≤ w1.heap.size := by have := hb1.size; simp at this; omega
  replace hk := hk.mono (Y := fun k => k < g + 3) (fun k _ h => by have := HG.out; simp; omega)
  clear hb1
  have ca0 := ba.cell 0 _ rfl
  have ca1 := ba.cell 1 _ rfl
  have ca2 := ba.cell 2 _ rfl
  have ca3 := ba.cell 3 _ rfl
  have ca4 := ba.cell 4 _ rfl
  have fa := ba.free
  go_wp2_with fail
  clear ca0 ca1 ca2 ca3 ca4 fa
  refine wp_world (fun w2 => Box w2 g [.bool true, .slice ak nk nk, .slice av nk nk, .slice ad 0 0, .int .i64 n] ∧ GrowC (fun b _ => b = g) w1 w2) (ba.set5 _ _ _ _ _) ?_
  clear ba
  rintro w2 ⟨ba, hgc⟩
  replace bb := bb.grow hgc (by intros; omega)
  replace bc := bc.grow hgc (by intros; omega)
  replace hB := hB.trans (hgc.below (fun k hk => ⟨by have := HG.out; omega, fun _ => by have := HG.out; omega⟩))
  replace hk := hk.grow (GrowX.of_growC hgc (fun k o h => by subst h; omega))
  replace hb2 := Nat.le_trans hb2 hgc.size
  clear hgc hgs
  obtain ⟨kb, ko, rfl⟩ := hk.now.keys.some_addr (by rw [HNK.out]; omega)
  obtain ⟨vb, vo, rfl⟩ := hk.now.vals.some_addr (by rw [HL.out, HNK.out]; omega)
  have hgw : w.heap.size ≤ g := Nat.le_of_eq HG.out
  refine wp_region_partsDC (WLntA2 g nk h kb ko vb vo n ad) 4 [[], [], [0], [0, 1, 2]] [some 9, some 10, none, none] (by kernel_rfl) (by kernel_rfl) rfl (PLntA2 g nk h kb ko vb vo n ad) (PLntA2_stable g nk h kb ko vb vo n ad ) ?pLntA2 ?_
  case pLntA2 =>
    intro i hi o ho vs lo hx_ w' hg hp
    match i, hi with
    | 0, _ =>
      obtain rfl := Option.some.inj ho
      clear ho
      simp only [actsD, List.getD_cons_zero, List.getD_cons_succ, List.foldl_cons, List.foldl_nil, Act.put, List.setIfInBounds_toArray, List.set_cons_succ, List.set_cons_zero]
      have hsz := hg.size
      have e0 := (hg.cell (g) 0 ba.lt (by rintro ⟨j, _, hne, hb, hw⟩; simp only [WLntA2] at hw; omega)).trans (ba.cell 0 _ rfl)
      have e1 := (hg.cell (g) 1 ba.lt (by rintro ⟨j, _, hne, hb, hw⟩; simp only [WLntA2] at hw; omega)).trans (ba.cell 1 _ rfl)
      have e2 := (hg.cell (g) 2 ba.lt (by rintro ⟨j, _, hne, hb, hw⟩; simp only [WLntA2] at hw; omega)).trans (ba.cell 2 _ rfl)
      have e3 := (hg.cell (g) 3 ba.lt (by rintro ⟨j, _, hne, hb, hw⟩; simp only [WLntA2] at hw; omega)).trans (ba.cell 3 _ rfl)
      have e4 := (hg.cell (g) 4 ba.lt (by rintro ⟨j, _, hne, hb, hw⟩; simp only [WLntA2] at hw; omega)).trans (ba.cell 4 _ rfl)
      go_wp2
      exact ⟨_, rfl, GrowC.refl _, rfl⟩
    | 1, _ =>
      obtain rfl := Option.some.inj ho
      clear ho
      simp only [actsD, List.getD_cons_zero, List.getD_cons_succ, List.foldl_cons, List.foldl_nil, Act.put, List.setIfInBounds_toArray, List.set_cons_succ, List.set_cons_zero]
      have hsz := hg.size
      have e0 := (hg.cell (g) 0 ba.lt (by rintro ⟨j, _, hne, hb, hw⟩; simp only [WLntA2] at hw; omega)).trans (ba.cell 0 _ rfl)
      have e1 := (hg.cell (g) 1 ba.lt (by rintro ⟨j, _, hne, hb, hw⟩; simp only [WLntA2] at hw; omega)).trans (ba.cell 1 _ rfl)
      have e2 := (hg.cell (g) 2 ba.lt (by rintro ⟨j, _, hne, hb, hw⟩; simp only [WLntA2] at hw; omega)).trans (ba.cell 2 _ rfl)
      have e3 := (hg.cell (g) 3 ba.lt (by rintro ⟨j, _, hne, hb, hw⟩; simp only [WLntA2] at hw; omega)).trans (ba.cell 3 _ rfl)
      have e4 := (hg.cell (g) 4 ba.lt (by rintro ⟨j, _, hne, hb, hw⟩; simp only [WLntA2] at hw; omega)).trans (ba.cell 4 _ rfl)
      go_wp2
      exact ⟨_, rfl, GrowC.refl _, rfl⟩
    | 2, _ =>
      obtain rfl := Option.some.inj ho
      clear ho
      simp only [actsD, List.getD_cons_zero, List.getD_cons_succ, List.foldl_cons, List.foldl_nil, Act.put, List.setIfInBounds_toArray, List.set_cons_succ, List.set_cons_zero]
      obtain ⟨_, _, _, h0⟩ := hp 0 (by simp)
      simp only [PLntA2] at h0
      have hsz := hg.size
      rw [h0]
      have o0 := (hg.cell (g + 1) 0 bb.lt (by rintro ⟨j, _, hne, hb, hw⟩; simp only [WLntA2] at hw; omega)).trans (bb.cell 0 _ rfl)
      have o1 := (hg.cell (g + 1) 1 bb.lt (by rintro ⟨j, _, hne, hb, hw⟩; simp only [WLntA2] at hw; omega)).trans (bb.cell 1 _ rfl)
      have o2 := (hg.cell (g + 1) 2 bb.lt (by rintro ⟨j, _, hne, hb, hw⟩; simp only [WLntA2] at hw; omega)).trans (bb.cell 2 _ rfl)
      have o3 := (hg.cell (g + 1) 3 bb.lt (by rintro ⟨j, _, hne, hb, hw⟩; simp only [WLntA2] at hw; omega)).trans (bb.cell 3 _ rfl)
      have o4 := (hg.cell (g + 1) 4 bb.lt (by rintro ⟨j, _, hne, hb, hw⟩; simp only [WLntA2] at hw; omega)).trans (bb.cell 4 _ rfl)
      have fz : ∀ o, w'.frozen? ⟨g + 1, o, none⟩ = false := fun o => (hg.frozen _ o bb.lt).trans (bb.free o)
      have hlt : g + 1 < w'.heap.size := by have := bb.lt; omega
      go_wp2
      exact ⟨.bool true, rfl, ((((((GrowC.refl _).setCell (by unfold WLntA2; omega) hlt _).setCell (by unfold WLntA2; omega) hlt _).setCell (by unfold WLntA2; omega) hlt _).setCell (by unfold WLntA2; omega) hlt _).setCell (by unfold WLntA2; omega) hlt _), by simpa [World.setCell] using hlt, ((World.cell?_setCell_other _ _ _ _ (by simp)).trans ((World.cell?_setCell_other _ _ _ _ (by simp)).trans ((World.cell?_setCell_other _ _ _ _ (by simp)).trans ((World.cell?_setCell_other _ _ _ _ (by simp)).trans (World.cell?_setCell_same _ _ _ o0))))), ((World.cell?_setCell_other _ _ _ _ (by simp)).trans ((World.cell?_setCell_other _ _ _ _ (by simp)).trans ((World.cell?_setCell_other _ _ _ _ (by simp)).trans (World.cell?_setCell_same _ _ _ ((World.cell?_setCell_other _ _ _ _ (by simp)).trans o1))))), ((World.cell?_setCell_other _ _ _ _ (by simp)).trans ((World.cell?_setCell_other _ _ _ _ (by simp)).trans (World.cell?_setCell_same _ _ _ ((World.cell?_setCell_other _ _ _ _ (by simp)).trans ((World.cell?_setCell_other _ _ _ _ (by simp)).trans o2))))), ((World.cell?_setCell_other _ _ _ _ (by simp)).trans (World.cell?_setCell_same _ _ _ ((World.cell?_setCell_other _ _ _ _ (by simp)).trans ((World.cell?_setCell_other _ _ _ _ (by simp)).trans ((World.cell?_setCell_other _ _ _ _ (by simp)).trans o3))))), (World.cell?_setCell_same _ _ _ ((World.cell?_setCell_other _ _ _ _ (by simp)).trans ((World.cell?_setCell_other _ _ _ _ (by simp)).trans ((World.cell?_setCell_other _ _ _ _ (by simp)).trans ((World.cell?_setCell_other _ _ _ _ (by simp)).trans o4)))))⟩
    | 3, _ =>
      obtain rfl := Option.some.inj ho
      clear ho
      simp only [actsD, List.getD_cons_zero, List.getD_cons_succ, List.foldl_cons, List.foldl_nil, Act.put, List.setIfInBounds_toArray, List.set_cons_succ, List.set_cons_zero]
      obtain ⟨_, _, _, h1⟩ := hp 1 (by simp)
      simp only [PLntA2] at h1
      obtain ⟨_, _, _, h2⟩ := hp 2 (by simp)
      simp only [PLntA2] at h2
      have hsz := hg.size
      rw [h1]
      have o0 := (hg.cell (g + 1 + 1) 0 bc.lt (by rintro ⟨j, _, hne, hb, hw⟩; simp only [WLntA2] at hw; omega)).trans (bc.cell 0 _ rfl)
      have o1 := (hg.cell (g + 1 + 1) 1 bc.lt (by rintro ⟨j, _, hne, hb, hw⟩; simp only [WLntA2] at hw; omega)).trans (bc.cell 1 _ rfl)
      have o2 := (hg.cell (g + 1 + 1) 2 bc.lt (by rintro ⟨j, _, hne, hb, hw⟩; simp only [WLntA2] at hw; omega)).trans (bc.cell 2 _ rfl)
      have o3 := (hg.cell (g + 1 + 1) 3 bc.lt (by rintro ⟨j, _, hne, hb, hw⟩; simp only [WLntA2] at hw; omega)).trans (bc.cell 3 _ rfl)
      have o4 := (hg.cell (g + 1 + 1) 4 bc.lt (by rintro ⟨j, _, hne, hb, hw⟩; simp only [WLntA2] at hw; omega)).trans (bc.cell 4 _ rfl)
      have fz : ∀ o, w'.frozen? ⟨g + 1 + 1, o, none⟩ = false := fun o => (hg.frozen _ o bc.lt).trans (bc.free o)
      have hlt : g + 1 + 1 < w'.heap.size := by have := bc.lt; omega
      go_wp2
      exact ⟨.bool true, rfl, ((((((GrowC.refl _).setCell (by unfold WLntA2; omega) hlt _).setCell (by unfold WLntA2; omega) hlt _).setCell (by unfold WLntA2; omega) hlt _).setCell (by unfold WLntA2; omega) hlt _).setCell (by unfold WLntA2; omega) hlt _), by simpa [World.setCell] using hlt, ((World.cell?_setCell_other _ _ _ _ (by simp)).trans ((World.cell?_setCell_other _ _ _ _ (by simp)).trans ((World.cell?_setCell_other _ _ _ _ (by simp)).trans ((World.cell?_setCell_other _ _ _ _ (by simp)).trans (World.cell?_setCell_same _ _ _ o0))))), ((World.cell?_setCell_other _ _ _ _ (by simp)).trans ((World.cell?_setCell_other _ _ _ _ (by simp)).trans ((World.cell?_setCell_other _ _ _ _ (by simp)).trans (World.cell?_setCell_same _ _ _ ((World.cell?_setCell_other _ _ _ _ (by simp)).trans o1))))), ((World.cell?_setCell_other _ _ _ _ (by simp)).trans ((World.cell?_setCell_other _ _ _ _ (by simp)).trans (World.cell?_setCell_same _ _ _ ((World.cell?_setCell_other _ _ _ _ (by simp)).trans ((World.cell?_setCell_other _ _ _ _ (by simp)).trans o2))))), ((World.cell?_setCell_other _ _ _ _ (by simp)).trans (World.cell?_setCell_same _ _ _ ((World.cell?_setCell_other _ _ _ _ (by simp)).trans ((World.cell?_setCell_other _ _ _ _ (by simp)).trans ((World.cell?_setCell_other _ _ _ _ (by simp)).trans o3))))), (World.cell?_setCell_same _ _ _ ((World.cell?_setCell_other _ _ _ _ (by simp)).trans ((World.cell?_setCell_other _ _ _ _ (by simp)).trans ((World.cell?_setCell_other _ _ _ _ (by simp)).trans ((World.cell?_setCell_other _ _ _ _ (by simp)).trans o4)))))⟩
    | (q + 4), hq => exact absurd hq (by omega)
  intro vS lo hi w3 hg hp hd
  obtain ⟨_, _, _, h0⟩ := hp 0 (by omega)
  obtain ⟨_, _, _, h1⟩ := hp 1 (by omega)
  obtain ⟨_, _, _, h2⟩ := hp 2 (by omega)
  obtain ⟨_, _, _, h3⟩ := hp 3 (by omega)
  simp only [PLntA2] at h0 h1 h2 h3
  clear hp hd
  have hsz := hg.size
  replace ba := ba.grow hg (by intro i _; rintro ⟨j, _, hw⟩; simp only [WLntA2] at hw; omega)
  replace bb : Box w3 (g + 1) [.bool true, .slice (some ⟨kb, ko, none⟩) nk nk, .slice (some ⟨vb, vo, none⟩) nk nk, .slice ad 0 0, .int .i64 n] := bb.upd hg (by
    intro i v hi
    match i, hi with
    | 0, hi => exact .inl (by obtain rfl := Option.some.inj hi; exact h2.2.1)
    | 1, hi => exact .inl (by obtain rfl := Option.some.inj hi; exact h2.2.2.1)
    | 2, hi => exact .inl (by obtain rfl := Option.some.inj hi; exact h2.2.2.2.1)
    | 3, hi => exact .inl (by obtain rfl := Option.some.inj hi; exact h2.2.2.2.2.1)
    | 4, hi => exact .inl (by obtain rfl := Option.some.inj hi; exact h2.2.2.2.2.2)
    | (q + 5), hi => cases hi)
  replace bc : Box w3 (g + 1 + 1) [.bool true, .slice (some ⟨kb, ko, none⟩) nk nk, .slice (some ⟨vb, vo, none⟩) nk nk, .slice ad 0 0, .int .i64 n] := bc.upd hg (by
    intro i v hi
    match i, hi with
    | 0, hi => exact .inl (by obtain rfl := Option.some.inj hi; exact h3.2.1)
    | 1, hi => exact .inl (by obtain rfl := Option.some.inj hi; exact h3.2.2.1)
    | 2, hi => exact .inl (by obtain rfl := Option.some.inj hi; exact h3.2.2.2.1)
    | 3, hi => exact .inl (by obtain rfl := Option.some.inj hi; exact h3.2.2.2.2.1)
    | 4, hi => exact .inl (by obtain rfl := Option.some.inj hi; exact h3.2.2.2.2.2)
    | (q + 5), hi => cases hi)
  replace hB := hB.trans (hg.below (fun k hk => ⟨by omega, fun o => by rintro ⟨j, _, hw⟩; simp only [WLntA2] at hw; omega⟩))
  have hr : List.range 4 = [0, 1, 2, 3] := rfl
  rw [hr]
  clear hr
  simp only [List.drop_succ_cons, List.drop_zero, List.drop_nil, actsD, List.getD_cons_zero, List.getD_cons_succ, List.foldl_cons, List.foldl_nil, Act.put, List.setIfInBounds_toArray, List.set_cons_succ, List.set_cons_zero, h0, h1]
  clear h0 h1 h2 h3
  replace hk := hk.grow (GrowX.of_growC hg (by rintro k o ⟨j, _, hw⟩; simp only [WLntA2] at hw; omega))
  replace hb2 := Nat.le_trans hb2 hg.size
  clear hg hsz
  have cb0 := bb.cell 0 _ rfl
  have cb1 := bb.cell 1 _ rfl
  have cb2 := bb.cell 2 _ rfl
  have cb3 := bb.cell 3 _ rfl
  have cb4 := bb.cell 4 _ rfl
  have fb := bb.free
  have ca0 := ba.cell 0 _ rfl
  have fa := ba.free
  go_wp2_with fail
  clear cb0 cb1 cb2 cb3 cb4 fb
  clear ca0 fa
  refine wp_world (fun w4 => Box w4 (g + 1) [.bool true, .slice (some ⟨kb, ko, none⟩) nk nk, .slice (some ⟨vb, vo, none⟩) nk nk, .slice ad 0 0, .int .i64 0] ∧ GrowC (fun b o => b = g + 1 ∧ o = 4) w3 w4) (bb.set1 4 _) ?_
  clear bb
  rintro w4 ⟨bb, hg⟩
  replace ba := ba.grow hg (by intros; omega)
  replace bc := bc.grow hg (by intros; omega)
  replace hB := hB.trans (hg.below (fun k hk => ⟨by omega, fun _ => by omega⟩))
  replace hk := hk.grow (GrowX.of_growC hg (by rintro k o ⟨rfl, _⟩; omega))
  replace hb2 := Nat.le_trans hb2 hg.size
  clear hg
  refine wp_region_partsDC (WLntA5 g nk h kb ko vb vo n ad) 12 [[], [0], [], [0, 1, 2], [], [4], [], [4, 5, 6], [0, 1, 2, 3], [0, 1, 2, 3, 8], [0, 1, 2, 3, 4, 5, 6, 7, 8, 9], [0, 1, 2, 3, 4, 5, 6, 7, 8, 9, 10]] [some 14, some 15, some 16, some 17, some 18, some 19, some 20, some 21, some 22, none, some 23, none] (by kernel_rfl) (by kernel_rfl) rfl (PLntA5 g nk h kb ko vb vo n ad) (PLntA5_stable g nk h kb ko vb vo n ad ) ?pLntA5 ?_
  case pLntA5 =>
    intro i hi o ho vs lo hx_ w' hg hp
    match i, hi with
    | 0, _ =>
      obtain rfl := Option.some.inj ho
      clear ho
      simp only [actsD, List.getD_cons_zero, List.getD_cons_succ, List.foldl_cons, List.foldl_nil, Act.put, List.setIfInBounds_toArray, List.set_cons_succ, List.set_cons_zero]
      have hsz := hg.size
      go_wp2
      exact ⟨_, rfl, GrowC.refl _, rfl⟩
    | 1, _ =>
      obtain rfl := Option.some.inj ho
      clear ho
      simp only [actsD, List.getD_cons_zero, List.getD_cons_succ, List.foldl_cons, List.foldl_nil, Act.put, List.setIfInBounds_toArray, List.set_cons_succ, List.set_cons_zero]
      obtain ⟨_, _, _, h0⟩ := hp 0 (by simp)
      simp only [PLntA5] at h0
      have hsz := hg.size
      rw [h0]
      have e0 := (hg.cell (g) 1 ba.lt (by rintro ⟨j, _, hne, hb, hw⟩; simp only [WLntA5] at hw; omega)).trans (ba.cell 1 _ rfl)
      go_wp2
      exact ⟨_, rfl, GrowC.refl _, rfl⟩
    | 2, _ =>
      obtain rfl := Option.some.inj ho
      clear ho
      simp only [actsD, List.getD_cons_zero, List.getD_cons_succ, List.foldl_cons, List.foldl_nil, Act.put, List.setIfInBounds_toArray, List.set_cons_succ, List.set_cons_zero]
      have hsz := hg.size
      go_wp2
      exact ⟨_, rfl, GrowC.refl _, rfl⟩
    | 3, _ =>
      obtain rfl := Option.some.inj ho
      clear ho
      simp only [actsD, List.getD_cons_zero, List.getD_cons_succ, List.foldl_cons, List.foldl_nil, Act.put, List.setIfInBounds_toArray, List.set_cons_succ, List.set_cons_zero]
      obtain ⟨_, _, _, h1⟩ := hp 1 (by simp)
      simp only [PLntA5] at h1
      obtain ⟨_, _, _, h2⟩ := hp 2 (by simp)
      simp only [PLntA5] at h2
      have hsz := hg.size
      rw [h1, h2]
      go_wp2
      exact ⟨_, rfl, GrowC.refl _, rfl⟩
    | 4, _ =>
      obtain rfl := Option.some.inj ho
      clear ho
      simp only [actsD, List.getD_cons_zero, List.getD_cons_succ, List.foldl_cons, List.foldl_nil, Act.put, List.setIfInBounds_toArray, List.set_cons_succ, List.set_cons_zero]
      have hsz := hg.size
      go_wp2
      exact ⟨_, rfl, GrowC.refl _, rfl⟩
    | 5, _ =>
      obtain rfl := Option.some.inj ho
      clear ho
      simp only [actsD, List.getD_cons_zero, List.getD_cons_succ, List.foldl_cons, List.foldl_nil, Act.put, List.setIfInBounds_toArray, List.set_cons_succ, List.set_cons_zero]
      obtain ⟨_, _, _, h4⟩ := hp 4 (by simp)
      simp only [PLntA5] at h4
      have hsz := hg.size
      rw [h4]
      have e0 := (hg.cell (g) 2 ba.lt (by rintro ⟨j, _, hne, hb, hw⟩; simp only [WLntA5] at hw; omega)).trans (ba.cell 2 _ rfl)
      go_wp2
      exact ⟨_, rfl, GrowC.refl _, rfl⟩
    | 6, _ =>
      obtain rfl := Option.some.inj ho
      clear ho
      simp only [actsD, List.getD_cons_zero, List.getD_cons_succ, List.foldl_cons, List.foldl_nil, Act.put, List.setIfInBounds_toArray, List.set_cons_succ, List.set_cons_zero]
      have hsz := hg.size
      go_wp2
      exact ⟨_, rfl, GrowC.refl _, rfl⟩
    | 7, _ =>
      obtain rfl := Option.some.inj ho
      clear ho
      simp only [actsD, List.getD_cons_zero, List.getD_cons_succ, List.foldl_cons, List.foldl_nil, Act.put, List.setIfInBounds_toArray, List.set_cons_succ, List.set_cons_zero]
      obtain ⟨_, _, _, h5⟩ := hp 5 (by simp)
      simp only [PLntA5] at h5
      obtain ⟨_, _, _, h6⟩ := hp 6 (by simp)
      simp only [PLntA5] at h6
      have hsz := hg.size
      rw [h5, h6]
      go_wp2
      exact ⟨_, rfl, GrowC.refl _, rfl⟩
    | 8, _ =>
      obtain rfl := Option.some.inj ho
      clear ho
      simp only [actsD, List.getD_cons_zero, List.getD_cons_succ, List.foldl_cons, List.foldl_nil, Act.put, List.setIfInBounds_toArray, List.set_cons_succ, List.set_cons_zero]
      have hsz := hg.size
      go_wp2
      exact ⟨_, rfl, GrowC.refl _, rfl⟩
    | 9, _ =>
      obtain rfl := Option.some.inj ho
      clear ho
      simp only [actsD, List.getD_cons_zero, List.getD_cons_succ, List.foldl_cons, List.foldl_nil, Act.put, List.setIfInBounds_toArray, List.set_cons_succ, List.set_cons_zero]
      obtain ⟨_, _, _, h3⟩ := hp 3 (by simp)
      simp only [PLntA5] at h3
      obtain ⟨_, _, _, h8⟩ := hp 8 (by simp)
      simp only [PLntA5] at h8
      have hsz := hg.size
      rw [h3, h8]
      have o0 := (hg.cell (g + 1) 1 bb.lt (by rintro ⟨j, _, hne, hb, hw⟩; simp only [WLntA5] at hw; omega)).trans (bb.cell 1 _ rfl)
      have fz : ∀ o, w'.frozen? ⟨g + 1, o, none⟩ = false := fun o => (hg.frozen _ o bb.lt).trans (bb.free o)
      have hlt : g + 1 < w'.heap.size := by have := bb.lt; omega
      go_wp2
      exact ⟨.bool true, rfl, ((GrowC.refl _).setCell (by unfold WLntA5; omega) hlt _), by simpa [World.setCell] using hlt, World.cell?_setCell_same _ _ _ o0⟩
    | 10, _ =>
      obtain rfl := Option.some.inj ho
      clear ho
      simp only [actsD, List.getD_cons_zero, List.getD_cons_succ, List.foldl_cons, List.foldl_nil, Act.put, List.setIfInBounds_toArray, List.set_cons_succ, List.set_cons_zero]
      obtain ⟨_, _, _, h9⟩ := hp 9 (by simp)
      simp only [PLntA5] at h9
      have hsz := hg.size
      go_wp2
      exact ⟨_, rfl, GrowC.refl _, rfl⟩
    | 11, _ =>
      obtain rfl := Option.some.inj ho
      clear ho
      simp only [actsD, List.getD_cons_zero, List.getD_cons_succ, List.foldl_cons, List.foldl_nil, Act.put, List.setIfInBounds_toArray, List.set_cons_succ, List.set_cons_zero]
      obtain ⟨_, _, _, h7⟩ := hp 7 (by simp)
      simp only [PLntA5] at h7
      obtain ⟨_, _, _, h9⟩ := hp 9 (by simp)
      simp only [PLntA5] at h9
      obtain ⟨_, _, _, h10⟩ := hp 10 (by simp)
      simp only [PLntA5] at h10
      have hsz := hg.size
      rw [h7, h10]
      have o0 := (hg.cell (g + 1) 2 bb.lt (by rintro ⟨j, _, hne, hb, hw⟩; simp only [WLntA5] at hw; omega)).trans (bb.cell 2 _ rfl)
      have fz : ∀ o, w'.frozen? ⟨g + 1, o, none⟩ = false := fun o => (hg.frozen _ o bb.lt).trans (bb.free o)
      have hlt : g + 1 < w'.heap.size := by have := bb.lt; omega
      go_wp2
      exact ⟨.bool true, rfl, ((GrowC.refl _).setCell (by unfold WLntA5; omega) hlt _), by simpa [World.setCell] using hlt, World.cell?_setCell_same _ _ _ o0⟩
    | (q + 12), hq => exact absurd hq (by omega)
  intro vS lo hi w5 hg hp hd
  obtain ⟨_, _, _, h0⟩ := hp 0 (by omega)
  obtain ⟨_, _, _, h1⟩ := hp 1 (by omega)
  obtain ⟨_, _, _, h2⟩ := hp 2 (by omega)
  obtain ⟨_, _, _, h3⟩ := hp 3 (by omega)
  obtain ⟨_, _, _, h4⟩ := hp 4 (by omega)
  obtain ⟨_, _, _, h5⟩ := hp 5 (by omega)
  obtain ⟨_, _, _, h6⟩ := hp 6 (by omega)
  obtain ⟨_, _, _, h7⟩ := hp 7 (by omega)
  obtain ⟨_, _, _, h8⟩ := hp 8 (by omega)
  obtain ⟨_, _, _, h9⟩ := hp 9 (by omega)
  obtain ⟨_, _, _, h10⟩ := hp 10 (by omega)
  obtain ⟨_, _, _, h11⟩ := hp 11 (by omega)
  simp only [PLntA5] at h0 h1 h2 h3 h4 h5 h6 h7 h8 h9 h10 h11
  clear hp hd
  have hsz := hg.size
  replace ba := ba.grow hg (by intro i _; rintro ⟨j, _, hw⟩; simp only [WLntA5] at hw; omega)
  replace bb : Box w5 (g + 1) [.bool true, .slice (some ⟨kb, ko, none⟩) h nk, .slice (some ⟨vb, vo, none⟩) h nk, .slice ad 0 0, .int .i64 0] := bb.upd hg (by
    intro i v hi
    match i, hi with
    | 0, hi => exact .inr ⟨(by rintro ⟨j, _, hw⟩; simp only [WLntA5] at hw; omega), hi⟩
    | 1, hi => exact .inl (by obtain rfl := Option.some.inj hi; exact h9.2)
    | 2, hi => exact .inl (by obtain rfl := Option.some.inj hi; exact h11.2)
    | 3, hi => exact .inr ⟨(by rintro ⟨j, _, hw⟩; simp only [WLntA5] at hw; omega), hi⟩
    | 4, hi => exact .inr ⟨(by rintro ⟨j, _, hw⟩; simp only [WLntA5] at hw; omega), hi⟩
    | (q + 5), hi => cases hi)
  replace bc := bc.grow hg (by intro i _; rintro ⟨j, _, hw⟩; simp only [WLntA5] at hw; omega)
  replace hB := hB.trans (hg.below (fun k hk => ⟨by omega, fun o => by rintro ⟨j, _, hw⟩; simp only [WLntA5] at hw; omega⟩))
  have hr : List.range 12 = [0, 1, 2, 3, 4, 5, 6, 7, 8, 9, 10, 11] := rfl
  rw [hr]
  clear hr
  simp only [List.drop_succ_cons, List.drop_zero, List.drop_nil, actsD, List.getD_cons_zero, List.getD_cons_succ, List.foldl_cons, List.foldl_nil, Act.put, List.setIfInBounds_toArray, List.set_cons_succ, List.set_cons_zero, h0, h1, h2, h3, h4, h5, h6, h7, h8, h10]
  clear h0 h1 h2 h3 h4 h5 h6 h7 h8 h9 h10 h11
  replace hk := hk.grow (GrowX.of_growC hg (by rintro k o ⟨j, _, hw⟩; simp only [WLntA5] at hw; omega))
  replace hb2 := Nat.le_trans hb2 hg.size
  clear hg hsz
  go_wp2_with fail
  refine wp_region_partsDC (WLntA6 g nk h kb ko vb vo n ad) 12 [[], [0], [], [0, 1, 2], [], [4], [], [4, 5, 6], [0, 1, 2, 3], [0, 1, 2, 3, 8], [0, 1, 2, 3, 4, 5, 6, 7, 8, 9], [0, 1, 2, 3, 4, 5, 6, 7, 8, 9, 10]] [some 24, some 25, some 26, some 27, some 28, some 29, some 30, some 31, some 32, none, some 33, none] (by kernel_rfl) (by kernel_rfl) rfl (PLntA6 g nk h kb ko vb vo n ad) (PLntA6_stable g nk h kb ko vb vo n ad ) ?pLntA6 ?_
  case pLntA6 =>
    intro i hi o ho vs lo hx_ w' hg hp
    match i, hi with
    | 0, _ =>
      obtain rfl := Option.some.inj ho
      clear ho
      simp only [actsD, List.getD_cons_zero, List.getD_cons_succ, List.foldl_cons, List.foldl_nil, Act.put, List.setIfInBounds_toArray, List.set_cons_succ, List.set_cons_zero]
      have hsz := hg.size
      go_wp2
      exact ⟨_, rfl, GrowC.refl _, rfl⟩
    | 1, _ =>
      obtain rfl := Option.some.inj ho
      clear ho
      simp only [actsD, List.getD_cons_zero, List.getD_cons_succ, List.foldl_cons, List.foldl_nil, Act.put, List.setIfInBounds_toArray, List.set_cons_succ, List.set_cons_zero]
      obtain ⟨_, _, _, h0⟩ := hp 0 (by simp)
      simp only [PLntA6] at h0
      have hsz := hg.size
      rw [h0]
      have e0 := (hg.cell (g) 1 ba.lt (by rintro ⟨j, _, hne, hb, hw⟩; simp only [WLntA6] at hw; omega)).trans (ba.cell 1 _ rfl)
      go_wp2
      exact ⟨_, rfl, GrowC.refl _, rfl⟩
    | 2, _ =>
      obtain rfl := Option.some.inj ho
      clear ho
      simp only [actsD, List.getD_cons_zero, List.getD_cons_succ, List.foldl_cons, List.foldl_nil, Act.put, List.setIfInBounds_toArray, List.set_cons_succ, List.set_cons_zero]
      have hsz := hg.size
      go_wp2
      exact ⟨_, rfl, GrowC.refl _, rfl⟩
    | 3, _ =>
      obtain rfl := Option.some.inj ho
      clear ho
      simp only [actsD, List.getD_cons_zero, List.getD_cons_succ, List.foldl_cons, List.foldl_nil, Act.put, List.setIfInBounds_toArray, List.set_cons_succ, List.set_cons_zero]
      obtain ⟨_, _, _, h1⟩ := hp 1 (by simp)
      simp only [PLntA6] at h1
      obtain ⟨_, _, _, h2⟩ := hp 2 (by simp)
      simp only [PLntA6] at h2
      have hsz := hg.size
      rw [h1, h2]
      go_wp2
      exact ⟨_, rfl, GrowC.refl _, rfl⟩
    | 4, _ =>
      obtain rfl := Option.some.inj ho
      clear ho
      simp only [actsD, List.getD_cons_zero, List.getD_cons_succ, List.foldl_cons, List.foldl_nil, Act.put, List.setIfInBounds_toArray, List.set_cons_succ, List.set_cons_zero]
      have hsz := hg.size
      go_wp2
      exact ⟨_, rfl, GrowC.refl _, rfl⟩
    | 5, _ =>
      obtain rfl := Option.some.inj ho
      clear ho
      simp only [actsD, List.getD_cons_zero, List.getD_cons_succ, List.foldl_cons, List.foldl_nil, Act.put, List.setIfInBounds_toArray, List.set_cons_succ, List.set_cons_zero]
      obtain ⟨_, _, _, h4⟩ := hp 4 (by simp)
      simp only [PLntA6] at h4
      have hsz := hg.size
      rw [h4]
      have e0 := (hg.cell (g) 2 ba.lt (by rintro ⟨j, _, hne, hb, hw⟩; simp only [WLntA6] at hw; omega)).trans (ba.cell 2 _ rfl)
      go_wp2
      exact ⟨_, rfl, GrowC.refl _, rfl⟩
    | 6, _ =>
      obtain rfl := Option.some.inj ho
      clear ho
      simp only [actsD, List.getD_cons_zero, List.getD_cons_succ, List.foldl_cons, List.foldl_nil, Act.put, List.setIfInBounds_toArray, List.set_cons_succ, List.set_cons_zero]
      have hsz := hg.size
      go_wp2
      exact ⟨_, rfl, GrowC.refl _, rfl⟩
    | 7, _ =>
      obtain rfl := Option.some.inj ho
      clear ho
      simp only [actsD, List.getD_cons_zero, List.getD_cons_succ, List.foldl_cons, List.foldl_nil, Act.put, List.setIfInBounds_toArray, List.set_cons_succ, List.set_cons_zero]
      obtain ⟨_, _, _, h5⟩ := hp 5 (by simp)
      simp only [PLntA6] at h5
      obtain ⟨_, _, _, h6⟩ := hp 6 (by simp)
      simp only [PLntA6] at h6
      have hsz := hg.size
      rw [h5, h6]
      go_wp2
      exact ⟨_, rfl, GrowC.refl _, rfl⟩
    | 8, _ =>
      obtain rfl := Option.some.inj ho
      clear ho
      simp only [actsD, List.getD_cons_zero, List.getD_cons_succ, List.foldl_cons, List.foldl_nil, Act.put, List.setIfInBounds_toArray, List.set_cons_succ, List.set_cons_zero]
      have hsz := hg.size
      go_wp2
      exact ⟨_, rfl, GrowC.refl _, rfl⟩
    | 9, _ =>
      obtain rfl := Option.some.inj ho
      clear ho
      simp only [actsD, List.getD_cons_zero, List.getD_cons_succ, List.foldl_cons, List.foldl_nil, Act.put, List.setIfInBounds_toArray, List.set_cons_succ, List.set_cons_zero]
      obtain ⟨_, _, _, h3⟩ := hp 3 (by simp)
      simp only [PLntA6] at h3
      obtain ⟨_, _, _, h8⟩ := hp 8 (by simp)
      simp only [PLntA6] at h8
      have hsz := hg.size
      rw [h3, h8]
      have o0 := (hg.cell (g + 1 + 1) 1 bc.lt (by rintro ⟨j, _, hne, hb, hw⟩; simp only [WLntA6] at hw; omega)).trans (bc.cell 1 _ rfl)
      have fz : ∀ o, w'.frozen? ⟨g + 1 + 1, o, none⟩ = false := fun o => (hg.frozen _ o bc.lt).trans (bc.free o)
      have hlt : g + 1 + 1 < w'.heap.size := by have := bc.lt; omega
      go_wp2
      exact ⟨.bool true, rfl, ((GrowC.refl _).setCell (by unfold WLntA6; omega) hlt _), by simpa [World.setCell] using hlt, World.cell?_setCell_same _ _ _ o0⟩
    | 10, _ =>
      obtain rfl := Option.some.inj ho
      clear ho
      simp only [actsD, List.getD_cons_zero, List.getD_cons_succ, List.foldl_cons, List.foldl_nil, Act.put, List.setIfInBounds_toArray, List.set_cons_succ, List.set_cons_zero]
      obtain ⟨_, _, _, h9⟩ := hp 9 (by simp)
      simp only [PLntA6] at h9
      have hsz := hg.size
      go_wp2
      exact ⟨_, rfl, GrowC.refl _, rfl⟩
    | 11, _ =>
      obtain rfl := Option.some.inj ho
      clear ho
      simp only [actsD, List.getD_cons_zero, List.getD_cons_succ, List.foldl_cons, List.foldl_nil, Act.put, List.setIfInBounds_toArray, List.set_cons_succ, List.set_cons_zero]
      obtain ⟨_, _, _, h7⟩ := hp 7 (by simp)
      simp only [PLntA6] at h7
      obtain ⟨_, _, _, h9⟩ := hp 9 (by simp)
      simp only [PLntA6] at h9
      obtain ⟨_, _, _, h10⟩ := hp 10 (by simp)
      simp only [PLntA6] at h10
      have hsz := hg.size
      rw [h7, h10]
      have o0 := (hg.cell (g + 1 + 1) 2 bc.lt (by rintro ⟨j, _, hne, hb, hw⟩; simp only [WLntA6] at hw; omega)).trans (bc.cell 2 _ rfl)
      have fz : ∀ o, w'.frozen? ⟨g + 1 + 1, o, none⟩ = false := fun o => (hg.frozen _ o bc.lt).trans (bc.free o)
      have hlt : g + 1 + 1 < w'.heap.size := by have := bc.lt; omega
      go_wp2
      exact ⟨.bool true, rfl, ((GrowC.refl _).setCell (by unfold WLntA6; omega) hlt _), by simpa [World.setCell] using hlt, World.cell?_setCell_same _ _ _ o0⟩
    | (q + 12), hq => exact absurd hq (by omega)
  intro vS lo hi w6 hg hp hd
  obtain ⟨_, _, _, h0⟩ := hp 0 (by omega)
  obtain ⟨_, _, _, h1⟩ := hp 1 (by omega)
  obtain ⟨_, _, _, h2⟩ := hp 2 (by omega)
  obtain ⟨_, _, _, h3⟩ := hp 3 (by omega)
  obtain ⟨_, _, _, h4⟩ := hp 4 (by omega)
  obtain ⟨_, _, _, h5⟩ := hp 5 (by omega)
  obtain ⟨_, _, _, h6⟩ := hp 6 (by omega)
  obtain ⟨_, _, _, h7⟩ := hp 7 (by omega)
  obtain ⟨_, _, _, h8⟩ := hp 8 (by omega)
  obtain ⟨_, _, _, h9⟩ := hp 9 (by omega)
  obtain ⟨_, _, _, h10⟩ := hp 10 (by omega)
  obtain ⟨_, _, _, h11⟩ := hp 11 (by omega)
  simp only [PLntA6] at h0 h1 h2 h3 h4 h5 h6 h7 h8 h9 h10 h11
  clear hp hd
  have hsz := hg.size
  replace ba := ba.grow hg (by intro i _; rintro ⟨j, _, hw⟩; simp only [WLntA6] at hw; omega)
  replace bb := bb.grow hg (by intro i _; rintro ⟨j, _, hw⟩; simp only [WLntA6] at hw; omega)
  replace bc : Box w6 (g + 1 + 1) [.bool true, .slice (some ⟨kb, ko + h, none⟩) (nk - h) (nk - h), .slice (some ⟨vb, vo + h, none⟩) (nk - h) (nk - h), .slice ad 0 0, .int .i64 n] := bc.upd hg (by
    intro i v hi
    match i, hi with
    | 0, hi => exact .inr ⟨(by rintro ⟨j, _, hw⟩; simp only [WLntA6] at hw; omega), hi⟩
    | 1, hi => exact .inl (by obtain rfl := Option.some.inj hi; exact h9.2)
    | 2, hi => exact .inl (by obtain rfl := Option.some.inj hi; exact h11.2)
    | 3, hi => exact .inr ⟨(by rintro ⟨j, _, hw⟩; simp only [WLntA6] at hw; omega), hi⟩
    | 4, hi => exact .inr ⟨(by rintro ⟨j, _, hw⟩; simp only [WLntA6] at hw; omega), hi⟩
    | (q + 5), hi => cases hi)
  replace hB := hB.trans (hg.below (fun k hk => ⟨by omega, fun o => by rintro ⟨j, _, hw⟩; simp only [WLntA6] at hw; omega⟩))
  have hr : List.range 12 = [0, 1, 2, 3, 4, 5, 6, 7, 8, 9, 10, 11] := rfl
  rw [hr]
  clear hr
  simp only [List.drop_succ_cons, List.drop_zero, List.drop_nil, actsD, List.getD_cons_zero, List.getD_cons_succ, List.foldl_cons, List.foldl_nil, Act.put, List.setIfInBounds_toArray, List.set_cons_succ, List.set_cons_zero, h0, h1, h2, h3, h4, h5, h6, h7, h8, h10]
  clear h0 h1 h2 h3 h4 h5 h6 h7 h8 h9 h10 h11
  replace hk := hk.grow (GrowX.of_growC hg (by rintro k o ⟨j, _, hw⟩; simp only [WLntA6] at hw; omega))
  replace hb2 := Nat.le_trans hb2 hg.size
  clear hg hsz
  go_wp2_with fail
  have hk0 := hk.now
  obtain ⟨a0, c0, hcs, hkb2, hrs⟩ := hk0.keys.at h (by rw [HNK.out]; exact hh)
  have hld : K.getD h [] = K[h]'(by rw [HNK.out]; exact hh) := by rw [List.getD_eq_getElem?_getD, List.getElem?_eq_getElem (by rw [HNK.out]; exact hh)]; rfl
  have hm40 := hok.keys2 _ (List.getElem_mem (by rw [HNK.out]; exact hh : h < K.length))
  rw [← hld] at hcs hrs hm40
  have HLD := Lib.hid hld
  clear hld
  obtain ⟨l, hl0⟩ : ∃ l, K.getD h [] = l := ⟨_, rfl⟩
  rw [hl0] at hcs hrs hm40
  obtain ⟨m, hm0⟩ : ∃ m, l.length = m := ⟨_, rfl⟩
  rw [hm0] at hcs hrs hm40
  have hL : NodeAt w6 (.slice (some ⟨kb, ko, none⟩) h nk) (.slice (some ⟨vb, vo, none⟩) h nk) (.slice ad 0 0) ⟨true, K.take h, V.take h, [], 0⟩ :=
    ⟨hk0.keys.take h h HNK.out (by omega) rfl, hk0.vals.take h h (HL.out.trans HNK.out) (by omega) rfl, hk0.kids⟩
  have hR : NodeAt w6 (.slice (some ⟨kb, ko + h, none⟩) (nk - h) (nk - h)) (.slice (some ⟨vb, vo + h, none⟩) (nk - h) (nk - h)) (.slice ad 0 0) ⟨true, K.drop h, V.drop h, [], n⟩ :=
    ⟨hk0.keys.drop h (nk - h) (nk - h) HNK.out (by omega) rfl (Nat.le_refl _), hk0.vals.drop h (nk - h) (nk - h) (HL.out.trans HNK.out) (by omega) rfl (Nat.le_refl _), hk0.kids⟩
  have hokL : (⟨true, K.take h, V.take h, [], 0⟩ : Nd).ok := hok.cut _ _ _ _ _ rfl (by intro l hl; exact List.mem_of_mem_take hl) (by intro l hl; exact List.mem_of_mem_take hl) (by simp; omega) (by simp; omega) (by simp)
  have hokR : (⟨true, K.drop h, V.drop h, [], n⟩ : Nd).ok := hok.cut _ _ _ _ _ rfl (by intro l hl; exact List.mem_of_mem_drop hl) (by intro l hl; exact List.mem_of_mem_drop hl) (by simp) (by simp) (by simp)
  have HRL := Lib.hid hL
  have HRR := Lib.hid hR
  have HRS := Lib.hid hrs
  have HM := Lib.hid hm0
  have HL0 := Lib.hid hl0
  have eLk : (K.take h).length = h := by rw [List.length_take, HNK.out]; omega
  have eLv : (V.take h).length = h := by rw [List.length_take, HL.out, HNK.out]; omega
  have eRk : (K.drop h).length = nk - h := by rw [List.length_drop, HNK.out]
  have eRv : (V.drop h).length = nk - h := by rw [List.length_drop, HL.out, HNK.out]
  have ELK := Lib.hid eLk
  have ELV := Lib.hid eLv
  have ERK := Lib.hid eRk
  have ERV := Lib.hid eRv
  clear hk0 hL hR hrs hm0 hl0 eLk eLv eRk eRv hk
  refine wp_region_partsDC (WLntA7 w6 h nk kb ko vb vo g m c0 n ad a0 K V l) 11 [[], [0], [], [2], [], [2, 3, 4], [2, 3, 4, 5], [0, 1, 2, 3, 4, 5, 6], [0, 1, 2, 3, 4, 5, 6, 7], [], [0, 1, 2, 3, 4, 5, 6, 7, 8, 9]] [some 34, some 35, some 36, some 37, some 38, some 39, some 40, some 41, some 42, some 43, some 44, none, some 5, none] (by kernel_rfl) (by kernel_rfl) rfl (PLntA7 w6 h nk kb ko vb vo g m c0 n ad a0 K V l) (PLntA7_stable w6 h nk kb ko vb vo g m c0 n ad a0 K V l ) ?pLntA7 ?_
  case pLntA7 =>
    intro i hi o ho vs lo hx_ w' hg hp
    match i, hi with
    | 0, _ =>
      obtain rfl := Option.some.inj ho
      clear ho
      simp only [actsD, List.getD_cons_zero, List.getD_cons_succ, List.foldl_cons, List.foldl_nil, Act.put, List.setIfInBounds_toArray, List.set_cons_succ, List.set_cons_zero]
      have hsz := hg.size
      have hgB : Below w6.heap.size w6 w' := hg.below (fun k hk => ⟨hk, fun o => by rintro ⟨j, _, _, _, hw⟩; exact False.elim hw⟩)
      have e0 := (hg.cell (g + 1) 0 bb.lt (by rintro ⟨j, _, hne, hb, hw⟩; exact False.elim hw)).trans (bb.cell 0 _ rfl)
      have e1 := (hg.cell (g + 1) 1 bb.lt (by rintro ⟨j, _, hne, hb, hw⟩; exact False.elim hw)).trans (bb.cell 1 _ rfl)
      have e2 := (hg.cell (g + 1) 2 bb.lt (by rintro ⟨j, _, hne, hb, hw⟩; exact False.elim hw)).trans (bb.cell 2 _ rfl)
      have e3 := (hg.cell (g + 1) 3 bb.lt (by rintro ⟨j, _, hne, hb, hw⟩; exact False.elim hw)).trans (bb.cell 3 _ rfl)
      have e4 := (hg.cell (g + 1) 4 bb.lt (by rintro ⟨j, _, hne, hb, hw⟩; exact False.elim hw)).trans (bb.cell 4 _ rfl)
      go_wp2
      exact ⟨_, rfl, GrowC.refl _, rfl⟩
    | 1, _ =>
      obtain rfl := Option.some.inj ho
      clear ho
      simp only [actsD, List.getD_cons_zero, List.getD_cons_succ, List.foldl_cons, List.foldl_nil, Act.put, List.setIfInBounds_toArray, List.set_cons_succ, List.set_cons_zero]
      obtain ⟨_, _, _, h0⟩ := hp 0 (by simp)
      simp only [PLntA7] at h0
      have hsz := hg.size
      have hgB : Below w6.heap.size w6 w' := hg.below (fun k hk => ⟨hk, fun o => by rintro ⟨j, _, _, _, hw⟩; exact False.elim hw⟩)
      rw [h0]
      go_wp2_with fail
      refine (copied_own_sl _ _ _ _ _ (HRL.out.below hgB (Nat.le_refl _)) hokL true 0 h h 0 rfl rfl ELK.out ELV.out rfl).mono ?_
      rintro e wz ⟨a1, a2, a3, rfl, hk1, hb⟩
      go_wp2
      exact ⟨_, rfl, GrowC.of_grow hb, a1, a2, a3, rfl, (hk1.mono (fun k _ h => by omega)).imp (fun w2 h => h.mono (by omega))⟩
    | 2, _ =>
      obtain rfl := Option.some.inj ho
      clear ho
      simp only [actsD, List.getD_cons_zero, List.getD_cons_succ, List.foldl_cons, List.foldl_nil, Act.put, List.setIfInBounds_toArray, List.set_cons_succ, List.set_cons_zero]
      have hsz := hg.size
      have hgB : Below w6.heap.size w6 w' := hg.below (fun k hk => ⟨hk, fun o => by rintro ⟨j, _, _, _, hw⟩; exact False.elim hw⟩)
      go_wp2
      exact ⟨_, rfl, GrowC.refl _, rfl⟩
    | 3, _ =>
      obtain rfl := Option.some.inj ho
      clear ho
      simp only [actsD, List.getD_cons_zero, List.getD_cons_succ, List.foldl_cons, List.foldl_nil, Act.put, List.setIfInBounds_toArray, List.set_cons_succ, List.set_cons_zero]
      obtain ⟨_, _, _, h2⟩ := hp 2 (by simp)
      simp only [PLntA7] at h2
      have hsz := hg.size
      have hgB : Below w6.heap.size w6 w' := hg.below (fun k hk => ⟨hk, fun o => by rintro ⟨j, _, _, _, hw⟩; exact False.elim hw⟩)
      rw [h2]
      have e0 := (hg.cell (g) 1 ba.lt (by rintro ⟨j, _, hne, hb, hw⟩; exact False.elim hw)).trans (ba.cell 1 _ rfl)
      go_wp2
      exact ⟨_, rfl, GrowC.refl _, rfl⟩
    | 4, _ =>
      obtain rfl := Option.some.inj ho
      clear ho
      simp only [actsD, List.getD_cons_zero, List.getD_cons_succ, List.foldl_cons, List.foldl_nil, Act.put, List.setIfInBounds_toArray, List.set_cons_succ, List.set_cons_zero]
      have hsz := hg.size
      have hgB : Below w6.heap.size w6 w' := hg.below (fun k hk => ⟨hk, fun o => by rintro ⟨j, _, _, _, hw⟩; exact False.elim hw⟩)
      go_wp2
      exact ⟨_, rfl, GrowC.refl _, rfl⟩
    | 5, _ =>
      obtain rfl := Option.some.inj ho
      clear ho
      simp only [actsD, List.getD_cons_zero, List.getD_cons_succ, List.foldl_cons, List.foldl_nil, Act.put, List.setIfInBounds_toArray, List.set_cons_succ, List.set_cons_zero]
      obtain ⟨_, _, _, h3⟩ := hp 3 (by simp)
      simp only [PLntA7] at h3
      obtain ⟨_, _, _, h4⟩ := hp 4 (by simp)
      simp only [PLntA7] at h4
      have hsz := hg.size
      have hgB : Below w6.heap.size w6 w' := hg.below (fun k hk => ⟨hk, fun o => by rintro ⟨j, _, _, _, hw⟩; exact False.elim hw⟩)
      rw [h3, h4]
      go_wp2
      exact ⟨_, rfl, GrowC.refl _, rfl⟩
    | 6, _ =>
      obtain rfl := Option.some.inj ho
      clear ho
      simp only [actsD, List.getD_cons_zero, List.getD_cons_succ, List.foldl_cons, List.foldl_nil, Act.put, List.setIfInBounds_toArray, List.set_cons_succ, List.set_cons_zero]
      obtain ⟨_, _, _, h5⟩ := hp 5 (by simp)
      simp only [PLntA7] at h5
      have hsz := hg.size
      have hgB : Below w6.heap.size w6 w' := hg.below (fun k hk => ⟨hk, fun o => by rintro ⟨j, _, _, _, hw⟩; exact False.elim hw⟩)
      rw [h5]
      have e0 := (hgB.cell (p := ⟨kb, ko + h, none⟩) hkb2).trans hcs
      go_wp2
      exact ⟨_, rfl, GrowC.refl _, rfl⟩
    | 7, _ =>
      obtain rfl := Option.some.inj ho
      clear ho
      simp only [actsD, List.getD_cons_zero, List.getD_cons_succ, List.foldl_cons, List.foldl_nil, Act.put, List.setIfInBounds_toArray, List.set_cons_succ, List.set_cons_zero]
      obtain ⟨_, _, _, h6⟩ := hp 6 (by simp)
      simp only [PLntA7] at h6
      have hsz := hg.size
      have hgB : Below w6.heap.size w6 w' := hg.below (fun k hk => ⟨hk, fun o => by rintro ⟨j, _, _, _, hw⟩; exact False.elim hw⟩)
      rw [h6]
      go_wp2_with fail
      refine (cloneB_own _ m _ _ (HRS.out.below hgB (Nat.le_refl _)) (Bs_one _) hm40).mono ?_
      rintro e wz ⟨a1, c1, rfl, hc1, hk1, hb⟩
      go_wp2
      exact ⟨_, rfl, GrowC.of_grow hb, a1, c1, rfl, hc1, ((own_kept2 hk1).mono (fun k _ h => by omega)).imp (fun w2 h => ⟨Reads.of_own h, (NewS.own h).mono (by omega)⟩)⟩
    | 8, _ =>
      obtain rfl := Option.some.inj ho
      clear ho
      simp only [actsD, List.getD_cons_zero, List.getD_cons_succ, List.foldl_cons, List.foldl_nil, Act.put, List.setIfInBounds_toArray, List.set_cons_succ, List.set_cons_zero]
      obtain ⟨_, _, _, h7⟩ := hp 7 (by simp)
      simp only [PLntA7] at h7
      have hsz := hg.size
      have hgB : Below w6.heap.size w6 w' := hg.below (fun k hk => ⟨hk, fun o => by rintro ⟨j, _, _, _, hw⟩; exact False.elim hw⟩)
      obtain ⟨a1, c1, h7, hc1, hk1⟩ := h7
      rw [h7]
      go_wp2_with fail
      refine (clipB_any a1 m c1 _ hc1).mono ?_
      rintro e wz ⟨rfl, rfl⟩
      go_wp2
      exact ⟨_, rfl, GrowC.refl _, a1, rfl, hk1.imp (fun _ h => ⟨h.1.cut (Nat.le_refl _), h.2.cut (Nat.le_refl _)⟩)⟩
    | 9, _ =>
      obtain rfl := Option.some.inj ho
      clear ho
      simp only [actsD, List.getD_cons_zero, List.getD_cons_succ, List.foldl_cons, List.foldl_nil, Act.put, List.setIfInBounds_toArray, List.set_cons_succ, List.set_cons_zero]
      have hsz := hg.size
      have hgB : Below w6.heap.size w6 w' := hg.below (fun k hk => ⟨hk, fun o => by rintro ⟨j, _, _, _, hw⟩; exact False.elim hw⟩)
      have e0 := (hg.cell (g + 1 + 1) 0 bc.lt (by rintro ⟨j, _, hne, hb, hw⟩; exact False.elim hw)).trans (bc.cell 0 _ rfl)
      have e1 := (hg.cell (g + 1 + 1) 1 bc.lt (by rintro ⟨j, _, hne, hb, hw⟩; exact False.elim hw)).trans (bc.cell 1 _ rfl)
      have e2 := (hg.cell (g + 1 + 1) 2 bc.lt (by rintro ⟨j, _, hne, hb, hw⟩; exact False.elim hw)).trans (bc.cell 2 _ rfl)
      have e3 := (hg.cell (g + 1 + 1) 3 bc.lt (by rintro ⟨j, _, hne, hb, hw⟩; exact False.elim hw)).trans (bc.cell 3 _ rfl)
      have e4 := (hg.cell (g + 1 + 1) 4 bc.lt (by rintro ⟨j, _, hne, hb, hw⟩; exact False.elim hw)).trans (bc.cell 4 _ rfl)
      go_wp2
      exact ⟨_, rfl, GrowC.refl _, rfl⟩
    | 10, _ =>
      obtain rfl := Option.some.inj ho
      clear ho
      simp only [actsD, List.getD_cons_zero, List.getD_cons_succ, List.foldl_cons, List.foldl_nil, Act.put, List.setIfInBounds_toArray, List.set_cons_succ, List.set_cons_zero]
      obtain ⟨_, _, _, h9⟩ := hp 9 (by simp)
      simp only [PLntA7] at h9
      have hsz := hg.size
      have hgB : Below w6.heap.size w6 w' := hg.below (fun k hk => ⟨hk, fun o => by rintro ⟨j, _, _, _, hw⟩; exact False.elim hw⟩)
      rw [h9]
      go_wp2_with fail
      refine (copied_own_sl _ _ _ _ _ (HRR.out.below hgB (Nat.le_refl _)) hokR true n (nk - h) (nk - h) 0 rfl rfl ERK.out ERV.out rfl).mono ?_
      rintro e wz ⟨a1, a2, a3, rfl, hk1, hb⟩
      go_wp2
      exact ⟨_, rfl, GrowC.of_grow hb, a1, a2, a3, rfl, (hk1.mono (fun k _ h => by omega)).imp (fun w2 h => h.mono (by omega))⟩
    | (q + 11), hq => exact absurd hq (by omega)
  intro vS lo hi w7 hg hp hd
  obtain ⟨_, _, _, h0⟩ := hp 0 (by omega)
  obtain ⟨_, _, _, h1⟩ := hp 1 (by omega)
  obtain ⟨_, _, _, h2⟩ := hp 2 (by omega)
  obtain ⟨_, _, _, h3⟩ := hp 3 (by omega)
  obtain ⟨_, _, _, h4⟩ := hp 4 (by omega)
  obtain ⟨_, _, _, h5⟩ := hp 5 (by omega)
  obtain ⟨_, _, _, h6⟩ := hp 6 (by omega)
  obtain ⟨_, _, _, h7⟩ := hp 7 (by omega)
  obtain ⟨_, _, _, h8⟩ := hp 8 (by omega)
  obtain ⟨_, _, _, h9⟩ := hp 9 (by omega)
  obtain ⟨_, _, _, h10⟩ := hp 10 (by omega)
  simp only [PLntA7] at h0 h1 h2 h3 h4 h5 h6 h7 h8 h9 h10
  clear hp hd
  have hsz := hg.size
  replace ba := ba.grow hg (by intro i _; rintro ⟨j, _, hw⟩; exact False.elim hw)
  replace bb := bb.grow hg (by intro i _; rintro ⟨j, _, hw⟩; exact False.elim hw)
  replace bc := bc.grow hg (by intro i _; rintro ⟨j, _, hw⟩; exact False.elim hw)
  replace hB := hB.trans (hg.below (fun k hk => ⟨by omega, fun o => by rintro ⟨j, _, hw⟩; exact False.elim hw⟩))
  have hr : List.range 11 = [0, 1, 2, 3, 4, 5, 6, 7, 8, 9, 10] := rfl
  rw [hr]
  clear hr
  simp only [List.drop_succ_cons, List.drop_zero, List.drop_nil, actsD, List.getD_cons_zero, List.getD_cons_succ, List.foldl_cons, List.foldl_nil, Act.put, List.setIfInBounds_toArray, List.set_cons_succ, List.set_cons_zero, h0, h2, h3, h4, h5, h6, h9]
  clear h0 h2 h3 h4 h5 h6 h9
  obtain ⟨p1, p2, p3, e1, hk1⟩ := h1
  obtain ⟨s1, e8, hk8⟩ := h8
  obtain ⟨q1, q2, q3, e10, hk10⟩ := h10
  clear h7
  simp only [e1, e8, e10]
  clear e1 e8 e10
  generalize vS 7 = v7
  obtain ⟨bb2, hgb⟩ := bb.set5 (.bool true) (.slice p1 h h) (.slice p2 h h) (.slice p3 0 0) (.int .i64 0)
  obtain ⟨bc2, hgc⟩ := (bc.grow hgb (by intros; omega)).set5 (.bool true) (.slice q1 (nk - h) (nk - h)) (.slice q2 (nk - h) (nk - h)) (.slice q3 0 0) (.int .i64 n)
  have hKK := ((hk1.and hk10).and hk8).grow ((GrowX.of_growC hgb (by rintro k o rfl; omega)).trans (GrowX.of_growC hgc (by rintro k o rfl; omega)))
  have hBB := (hB.trans (hgb.below (fun k hk => ⟨by omega, fun _ => by omega⟩))).trans (hgc.below (fun k hk => ⟨by have := hgb.size; omega, fun _ => by omega⟩))
  clear bb2 bc2 hgb hgc
  have cb0 := bb.cell 0 _ rfl
  have cb1 := bb.cell 1 _ rfl
  have cb2 := bb.cell 2 _ rfl
  have cb3 := bb.cell 3 _ rfl
  have cb4 := bb.cell 4 _ rfl
  have fb := bb.free
  have cc0 := bc.cell 0 _ rfl
  have cc1 := bc.cell 1 _ rfl
  have cc2 := bc.cell 2 _ rfl
  have cc3 := bc.cell 3 _ rfl
  have cc4 := bc.cell 4 _ rfl
  have fc := bc.free
  go_wp2
  refine bodyPost_ret (v := .tuple #[nodeV ⟨true, K.take h, V.take h, [], 0⟩ (.slice p1 h h) (.slice p2 h h) (.slice p3 0 0), .slice s1 m m, nodeV ⟨true, K.drop h, V.drop h, [], n⟩ (.slice q1 (nk - h) (nk - h)) (.slice q2 (nk - h) (nk - h)) (.slice q3 0 0)]) (by simp [results, Try.results28, go_sem, nodeV, cb0, cb1, cb2, cb3, cb4, cc0, cc1, cc2, cc3, cc4]) rfl ?_
  have hgw6 : w.heap.size ≤ w6.heap.size := by omega
  refine ⟨.slice p1 h h, .slice p2 h h, .slice p3 0 0, .slice q1 (nk - h) (nk - h), .slice q2 (nk - h) (nk - h), .slice q3 0 0, .slice s1 m m, rfl, ?_, ?_⟩
  · refine (hKK.mono (fun k _ h => Nat.lt_of_lt_of_le h hgw6)).imp (fun w8 h => ⟨h.1.1.mono hgw6, h.1.2.mono hgw6, ?_, h.2.2.mono hgw6⟩)
    have := h.2.1
    show Reads 1 w8 _ (K.getD _ []).length ((K.getD _ []).map B)
    rw [HL0.out, HM.out]
    exact this
  · exact hBB
end Go.Proofs.Ytfbblgcdggpehaa

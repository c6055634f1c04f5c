/- What node.Decode answers at a page that begins as a node. Conditions: none but the page's length. -/
import Derived.Test.YtfbblgcdggpehaaNRows
namespace Go.Proofs.Ytfbblgcdggpehaa
set_option linter.unusedSimpArgs false
set_option linter.unusedVariables false
open Go.RowKit

theorem drun_bad (L : List UInt8) (lf : Bool) (c : Nat) (s : DSt) (h : s.r.bad = true) : drun L lf c s = s := by
  cases c with
  | zero => rfl
  | succ c => unfold drun; rw [if_pos h]
theorem drun_go (L : List UInt8) (lf : Bool) (c : Nat) (s : DSt) (h : s.r.bad = false) : drun L lf (c + 1) s = drun L lf c (dstep L lf s) := by
  rw [drun, if_neg (by rw [h]; decide)]
def HeadOk (L : List UInt8) (a : Bool) : Prop := L[0]? = some (if a then 1 else 2)
theorem dec_lf {L : List UInt8} {a b : Bool} (h : HeadOk L a) (k : DecOk L b) : b = a := by
  have := k.2.1
  rw [show L[0]? = _ from h] at this
  cases a <;> cases b <;> first | rfl | exact absurd this (by decide)
theorem dec_no {L : List UInt8} {a : Bool} (h : HeadOk L a) (k : ¬ DOk L a) : ∀ lf, ¬ DecOk L lf := by
  intro lf hd
  obtain rfl := dec_lf h hd
  exact k hd.2.2
theorem own_blk {w : World} {base e K n : Nat} {v : Value} {xs : List Value} (h : w.ownsRow base e K v n xs) : ∀ q, v.ownBlock = some q → base ≤ q ∧ q < w.heap.size := fun q e => h.lt q e

theorem rnum_one {L : List UInt8} {x : UInt8} (hl : L.length = 504) (hx : L[0]? = some x) : rnum L ⟨0, false⟩ 1 = (x.toNat, ⟨1, false⟩) := by
  match L, hx with
  | y :: L', hx =>
    obtain rfl : y = x := by simpa using hx
    unfold rnum
    rw [if_neg (by rintro (h | h); cases h; simp at h)]
    simp [numL]

def zeroL : List Value := [.bool false, .slice none 0 0, .slice none 0 0, .slice none 0 0, .int .i64 0]
/-- the three structs of a Decode at g: its answer, the node, the reader -/
structure DS (w : World) (g b o : Nat) (L : List UInt8) (u : World) (n : List Value) (r : Rd) : Prop where
  lt : b < g
  le : w.heap.size ≤ g
  z : Box u g zeroL
  n : Box u (g + 1) n
  r : RAt u (g + 1 + 1) b o L r
  l : LAt u b o L
  below : Below w.heap.size w u
  size : g + 3 ≤ u.heap.size
theorem DS.rd {w : World} {g b o : Nat} {L : List UInt8} {u u' : World} {n : List Value} {r r' : Rd} (h : DS w g b o L u n r) (hg : GrowC (fun b' _ => b' = g + 1 + 1) u u') (hr : RAt u' (g + 1 + 1) b o L r') : DS w g b o L u' n r' :=
  have h1 := h.lt; have h2 := h.le; have h3 := h.size
  ⟨h.lt, h.le, h.z.grow hg (by intros; omega), h.n.grow hg (by intros; omega), hr, h.l.growC hg (fun _ => by omega), h.below.trans (hg.below (fun k hk => ⟨by omega, fun _ => by omega⟩)), Nat.le_trans h.size hg.size⟩
theorem RAt.growC {w w' : World} {g b o : Nat} {L : List UInt8} {r : Rd} {X : Nat → Nat → Prop} (h : RAt w g b o L r) (hg : GrowC X w w') (hX : ∀ k, ¬ X g k) : RAt w' g b o L r := by
  obtain ⟨q, m, c, h1, h2⟩ := h
  exact ⟨q, m, c, h1.grow hg (fun k _ => hX k), h2⟩
theorem DS.put {w : World} {g b o : Nat} {L : List UInt8} {u : World} {n : List Value} {r : Rd} (h : DS w g b o L u n r) (i : Nat) (v : Value) : DS w g b o L (u.setCell ⟨g + 1, i, none⟩ v) (n.set i v) r :=
  have h1 := h.lt; have h2 := h.le; have h3 := h.size
  have hs := h.n.set1 i v
  ⟨h.lt, h.le, h.z.grow hs.2 (by intros; omega), hs.1, h.r.growC hs.2 (fun _ => by omega), h.l.growC hs.2 (fun _ => by omega), h.below.trans (hs.2.below (fun k hk => ⟨by omega, fun _ => by omega⟩)), Nat.le_trans h.size hs.2.size⟩
/-- what lies above the structs may change -/
theorem DS.up {w : World} {g b o : Nat} {L : List UInt8} {u u' : World} {n : List Value} {r : Rd} {X : Nat → Nat → Prop} (h : DS w g b o L u n r) (hg : GrowC X u u') (hX : ∀ k i, X k i → g + 3 ≤ k) : DS w g b o L u' n r :=
  have h1 := h.lt; have h2 := h.le; have h3 := h.size
  have nx : ∀ k, k < g + 3 → ∀ i, ¬ X k i := fun k hk i hx => by have := hX k i hx; omega
  ⟨h.lt, h.le, h.z.grow hg (fun _ _ => nx _ (by omega) _), h.n.grow hg (fun _ _ => nx _ (by omega) _), h.r.growC hg (nx _ (by omega)), h.l.growC hg (nx _ (by omega)), h.below.trans (hg.below (fun k hk => ⟨by omega, nx _ (by omega)⟩)), Nat.le_trans h.size hg.size⟩

theorem below_of_growX {Y : Nat → Prop} {a b : World} {B : Nat} (h : GrowX Y a b) (hB : ∀ k, k < B → k < a.heap.size ∧ ¬ Y k) : Below B a b :=
  { os := h.os, tape := h.tape, output := h.output, size := h.size, block := fun {k} hk => h.block k (hB k hk).1 (hB k hk).2 }
theorem DS.upB {w : World} {g b o : Nat} {L : List UInt8} {u u' : World} {n : List Value} {r : Rd} (h : DS w g b o L u n r) (hb : Below (g + 3) u u') : DS w g b o L u' n r := by
  have h1 := h.lt; have h2 := h.le; have h3 := h.size
  obtain ⟨q, m, c, r1, r2⟩ := h.r
  exact ⟨h.lt, h.le, h.z.below' hb (by omega), h.n.below' hb (by omega), ⟨q, m, c, r1.below' hb (by omega), r2⟩, h.l.below hb (by omega), h.below.trans (hb.mono (by omega)), Nat.le_trans h.size hb.size⟩

def WDt15 (W0 : World) (g b o nx : Nat) (L : List UInt8) (r : Rd) (va vb : Value) (j b o : Nat) : Prop := (j = 3 ∧ b = g + 1 + 1)
def PDt15 (W0 : World) (g b o nx : Nat) (L : List UInt8) (r : Rd) (va vb : Value) (i : Nat) (v : Value) (lo hi : Nat) (w : World) : Prop :=
  match i with
  | 0 => v = .pointer (some ⟨g + 1, 1, none⟩)
  | 1 => v = va
  | 2 => v = .pointer (some ⟨g + 1 + 1, 0, none⟩)
  | 3 => RAt w (g + 1 + 1) b o L (rlong L r).2 ∧ ∃ ao, v = .slice ao (rlong L r).1.length (rlong L r).1.length ∧ Kept (fun q => q < W0.heap.size) w (fun w2 => Reads 1 w2 (.slice ao (rlong L r).1.length (rlong L r).1.length) (rlong L r).1.length ((rlong L r).1.map B))
  | 4 => v = .slice (some ⟨lo, 0, none⟩) 1 1 ∧ W0.heap.size ≤ lo ∧ lo < w.heap.size ∧ ∃ ao, w.cell? ⟨lo, 0, none⟩ = some (.slice ao (rlong L r).1.length (rlong L r).1.length) ∧ Kept (fun q => q < W0.heap.size) w (fun w2 => Reads 1 w2 (.slice ao (rlong L r).1.length (rlong L r).1.length) (rlong L r).1.length ((rlong L r).1.map B))
  | _ => True
theorem PDt15_stable (W0 : World) (g b o nx : Nat) (L : List UInt8) (r : Rd) (va vb : Value) (hW0 : g + 3 ≤ W0.heap.size) : ∀ i j, i < 5 → j < 5 → j ≠ i → j ∉ ([[], [0], [], [2], [2, 3]] : List (List Nat)).getD i [] → ∀ v lo hi w w', PDt15 W0 g b o nx L r va vb i v lo hi w → GrowC (WDt15 W0 g b o nx L r va vb j) w w' → PDt15 W0 g b o nx L r va vb i v lo hi w' := by
  intro i j hi hj hne hbs v lo hj2 w w' h hg
  match i, hi with
  | 0, _ =>
    simp only [PDt15] at h ⊢
    exact h
  | 1, _ =>
    simp only [PDt15] at h ⊢
    exact h
  | 2, _ =>
    simp only [PDt15] at h ⊢
    exact h
  | 3, _ =>
    simp only [PDt15] at h ⊢
    obtain ⟨h1, ao, h2, h3⟩ := h
    exact ⟨h1.growC hg (fun k hw => by simp only [WDt15] at hw; omega), ao, h2, h3.grow (GrowX.of_growC hg (fun k i hw => by simp only [WDt15] at hw; omega))⟩
  | 4, _ =>
    simp only [PDt15] at h ⊢
    obtain ⟨h1, h2, h3, ao, h4, h5⟩ := h
    exact ⟨h1, h2, Nat.lt_of_lt_of_le h3 hg.size, ao, (hg.cell _ _ h3 (by simp only [WDt15]; omega)).trans h4, h5.grow (GrowX.of_growC hg (fun k i hw => by simp only [WDt15] at hw; omega))⟩
  | (q + 5), hq => exact absurd hq (by omega)
def WDt17 (W0 : World) (g b o nx : Nat) (L : List UInt8) (r : Rd) (va vb : Value) (j b o : Nat) : Prop := (j = 3 ∧ b = g + 1 + 1)
def PDt17 (W0 : World) (g b o nx : Nat) (L : List UInt8) (r : Rd) (va vb : Value) (i : Nat) (v : Value) (lo hi : Nat) (w : World) : Prop :=
  match i with
  | 0 => v = .pointer (some ⟨g + 1, 2, none⟩)
  | 1 => v = vb
  | 2 => v = .pointer (some ⟨g + 1 + 1, 0, none⟩)
  | 3 => RAt w (g + 1 + 1) b o L (rlong L r).2 ∧ ∃ ao, v = .slice ao (rlong L r).1.length (rlong L r).1.length ∧ Kept (fun q => q < W0.heap.size) w (fun w2 => Reads 1 w2 (.slice ao (rlong L r).1.length (rlong L r).1.length) (rlong L r).1.length ((rlong L r).1.map B))
  | 4 => v = .slice (some ⟨lo, 0, none⟩) 1 1 ∧ W0.heap.size ≤ lo ∧ lo < w.heap.size ∧ ∃ ao, w.cell? ⟨lo, 0, none⟩ = some (.slice ao (rlong L r).1.length (rlong L r).1.length) ∧ Kept (fun q => q < W0.heap.size) w (fun w2 => Reads 1 w2 (.slice ao (rlong L r).1.length (rlong L r).1.length) (rlong L r).1.length ((rlong L r).1.map B))
  | _ => True
theorem PDt17_stable (W0 : World) (g b o nx : Nat) (L : List UInt8) (r : Rd) (va vb : Value) (hW0 : g + 3 ≤ W0.heap.size) : ∀ i j, i < 5 → j < 5 → j ≠ i → j ∉ ([[], [0], [], [2], [2, 3]] : List (List Nat)).getD i [] → ∀ v lo hi w w', PDt17 W0 g b o nx L r va vb i v lo hi w → GrowC (WDt17 W0 g b o nx L r va vb j) w w' → PDt17 W0 g b o nx L r va vb i v lo hi w' := by
  intro i j hi hj hne hbs v lo hj2 w w' h hg
  match i, hi with
  | 0, _ =>
    simp only [PDt17] at h ⊢
    exact h
  | 1, _ =>
    simp only [PDt17] at h ⊢
    exact h
  | 2, _ =>
    simp only [PDt17] at h ⊢
    exact h
  | 3, _ =>
    simp only [PDt17] at h ⊢
    obtain ⟨h1, ao, h2, h3⟩ := h
    exact ⟨h1.growC hg (fun k hw => by simp only [WDt17] at hw; omega), ao, h2, h3.grow (GrowX.of_growC hg (fun k i hw => by simp only [WDt17] at hw; omega))⟩
  | 4, _ =>
    simp only [PDt17] at h ⊢
    obtain ⟨h1, h2, h3, ao, h4, h5⟩ := h
    exact ⟨h1, h2, Nat.lt_of_lt_of_le h3 hg.size, ao, (hg.cell _ _ h3 (by simp only [WDt17]; omega)).trans h4, h5.grow (GrowX.of_growC hg (fun k i hw => by simp only [WDt17] at hw; omega))⟩
  | (q + 5), hq => exact absurd hq (by omega)

set_option maxRecDepth 100000 in
set_option maxHeartbeats 6400000 in
theorem pdec_true (b o c : Nat) (L : List UInt8) (w : World) (hL : L.length = 504) (h0 : L[0]? = some 1) (hc : 504 ≤ c) (hla : LAt w b o L) :
    Calls Try.prog 17 #[.slice (some ⟨b, o, none⟩) 504 c] w fun e w' => DecEnd NodeAt L w e w' := by
  obtain ⟨g, hg0⟩ : ∃ g, w.heap.size = g := ⟨_, rfl⟩
  have hbg : b < g := hg0 ▸ hla.1
  have hB := (((Below.refl w.heap.size w).alloc (Nat.le_refl _) (.cells #[.bool false, .slice none 0 0, .slice none 0 0, .slice none 0 0, .int .i64 0] 25)).alloc (by simp) (.cells #[.bool false, .slice none 0 0, .slice none 0 0, .slice none 0 0, .int .i64 0] 25)).alloc (by simp; omega) (.cells #[.slice (some ⟨b, o, none⟩) 504 c, .bool false] 68)
  have bz : Box (((w.alloc (.cells #[.bool false, .slice none 0 0, .slice none 0 0, .slice none 0 0, .int .i64 0] 25)).alloc (.cells #[.bool false, .slice none 0 0, .slice none 0 0, .slice none 0 0, .int .i64 0] 25)).alloc (.cells #[.slice (some ⟨b, o, none⟩) 504 c, .bool false] 68)) g zeroL := ((Box.new w #[.bool false, .slice none 0 0, .slice none 0 0, .slice none 0 0, .int .i64 0] 25 hg0.symm).alloc (.cells #[.bool false, .slice none 0 0, .slice none 0 0, .slice none 0 0, .int .i64 0] 25)).alloc (.cells #[.slice (some ⟨b, o, none⟩) 504 c, .bool false] 68)
  have bn : Box (((w.alloc (.cells #[.bool false, .slice none 0 0, .slice none 0 0, .slice none 0 0, .int .i64 0] 25)).alloc (.cells #[.bool false, .slice none 0 0, .slice none 0 0, .slice none 0 0, .int .i64 0] 25)).alloc (.cells #[.slice (some ⟨b, o, none⟩) 504 c, .bool false] 68)) (g + 1) zeroL := (Box.new (w.alloc (.cells #[.bool false, .slice none 0 0, .slice none 0 0, .slice none 0 0, .int .i64 0] 25)) #[.bool false, .slice none 0 0, .slice none 0 0, .slice none 0 0, .int .i64 0] 25 (g := g + 1) (by simp; omega)).alloc (.cells #[.slice (some ⟨b, o, none⟩) 504 c, .bool false] 68)
  have br := Box.new ((w.alloc (.cells #[.bool false, .slice none 0 0, .slice none 0 0, .slice none 0 0, .int .i64 0] 25)).alloc (.cells #[.bool false, .slice none 0 0, .slice none 0 0, .slice none 0 0, .int .i64 0] 25)) #[.slice (some ⟨b, o, none⟩) 504 c, .bool false] 68 (g := g + 1 + 1) (by simp; omega)
  have hl0 := hla.below hB hla.1
  have hx : (((w.alloc (.cells #[.bool false, .slice none 0 0, .slice none 0 0, .slice none 0 0, .int .i64 0] 25)).alloc (.cells #[.bool false, .slice none 0 0, .slice none 0 0, .slice none 0 0, .int .i64 0] 25)).alloc (.cells #[.slice (some ⟨b, o, none⟩) 504 c, .bool false] 68)).cell? ⟨b, o, none⟩ = some (.int .u8 1) := hl0.2 0 _ h0
  have HW := Lib.hid (⟨hbg, Nat.le_of_eq hg0, bz, bn, ⟨o, 504, c, br, by simp; omega, hc, fun _ => rfl⟩, hl0, hB, by simp; omega⟩ : DS w g b o L (((w.alloc (.cells #[.bool false, .slice none 0 0, .slice none 0 0, .slice none 0 0, .int .i64 0] 25)).alloc (.cells #[.bool false, .slice none 0 0, .slice none 0 0, .slice none 0 0, .int .i64 0] 25)).alloc (.cells #[.slice (some ⟨b, o, none⟩) 504 c, .bool false] 68)) zeroL ⟨0, false⟩)
  have HN1 := Lib.hid (rnum_one hL h0)
  have HL := Lib.hid hL
  have HG := Lib.hid hg0
  have H0 := Lib.hid (show HeadOk L true from h0)
  clear hB bz bn br hla hl0 h0 hL hg0
  go_enter Try.func17, Try.ntmps17
  go_wp2
  refine wp_scope_fwd 0 rfl ?_
  go_wp2_with fail
  rw [HG.out]
  refine calls_world (fun u => DS w g b o L u zeroL ⟨0, false⟩) HW.out ?_
  clear HW hx
  intro w0 hs
  refine (pnum_any (g + 1 + 1) b o L ⟨0, false⟩ w0 1 (by omega) (by omega) hs.r hs.l (by have := hs.lt; omega)).mono ?_
  rintro e w1 ⟨rfl, hr1, hg⟩
  replace hs := hs.rd hg hr1
  clear hr1 hg
  rw [HN1.out] at hs ⊢
  simp only [] at hs ⊢
  clear HN1
  have bn := hs.n
  have cn0 := bn.cell 0 _ rfl
  have cn1 := bn.cell 1 _ rfl
  have cn2 := bn.cell 2 _ rfl
  have cn3 := bn.cell 3 _ rfl
  have cn4 := bn.cell 4 _ rfl
  have fn := bn.free
  clear bn
  go_wp2_with fail
  clear cn0 cn1 cn2 cn3 cn4 fn
  have hs1 := hs.put 0 (.bool true)
  refine calls_world (fun u => DS w g b o L u [.bool true, .slice none 0 0, .slice none 0 0, .slice none 0 0, .int .i64 0] ⟨1, false⟩) hs1 ?_
  clear hs hs1
  intro w2 hs
  refine (pnum_any (g + 1 + 1) b o L ⟨1, false⟩ w2 2 (by omega) (by omega) hs.r hs.l (by have := hs.lt; omega)).mono ?_
  rintro e w3 ⟨rfl, hr1, hg⟩
  replace hs := hs.rd hg hr1
  clear hr1 hg
  rw [show rnum L ⟨1, false⟩ 2 = dcnt L from rfl] at hs ⊢
  obtain ⟨cn, hcn⟩ : ∃ cn, (dcnt L).1 = cn := ⟨_, rfl⟩
  have hcl : cn < 65536 := hcn ▸ dcnt_lt L
  rw [hcn]
  have HCN := Lib.hid hcn
  clear hcn
  have bn := hs.n
  have cn0 := bn.cell 0 _ rfl
  have cn1 := bn.cell 1 _ rfl
  have cn2 := bn.cell 2 _ rfl
  have cn3 := bn.cell 3 _ rfl
  have cn4 := bn.cell 4 _ rfl
  have fn := bn.free
  clear bn
  go_wp2_with fail
  clear cn0 cn1 cn2 cn3 cn4 fn
  refine (pnum_any (g + 1 + 1) b o L (dcnt L).2 w3 4 (by omega) (by omega) hs.r hs.l (by have := hs.lt; omega)).mono ?_
  rintro e w4 ⟨rfl, hr1, hg⟩
  replace hs := hs.rd hg hr1
  clear hr1 hg
  rw [show rnum L (dcnt L).2 4 = dnext L from rfl] at hs ⊢
  obtain ⟨nx, hnx⟩ : ∃ nx, (dnext L).1 = nx := ⟨_, rfl⟩
  rw [hnx]
  have HNX := Lib.hid hnx
  clear hnx
  have bn := hs.n
  have cn0 := bn.cell 0 _ rfl
  have cn1 := bn.cell 1 _ rfl
  have cn2 := bn.cell 2 _ rfl
  have cn3 := bn.cell 3 _ rfl
  have cn4 := bn.cell 4 _ rfl
  have fn := bn.free
  clear bn
  go_wp2_with fail
  clear cn0 cn1 cn2 cn3 cn4 fn
  have hs1 := hs.put 4 (.int .i64 nx)
  refine wp_world (fun u => DS w g b o L u [.bool true, .slice none 0 0, .slice none 0 0, .slice none 0 0, .int .i64 nx] (dnext L).2) hs1 ?_
  clear hs hs1
  intro w5 hs
  go_loopw [9] (fun i wr => ∃ k s va vb xs ys, k ≤ cn ∧ i = .int .i64 k ∧ s.K.length = k ∧ s.V.length = k ∧ s.D = [] ∧ drun L true (cn - k) s = dend L true ∧ DS w g b o L wr [.bool true, va, vb, .slice none 0 0, .int .i64 nx] s.r ∧
    DR (g + 3) 28 28 wr va vb xs s.K s.V.length ys (fun w => TextsAt w ys s.V)) (fun i _ => cn - (intOf i).toNat)
  case atStart => exact ⟨0, dini L true, .slice none 0 0, .slice none 0 0, [], [], Nat.zero_le _, rfl, rfl, rfl, rfl, by rw [dend, HCN.out]; rfl, hs, ⟨World.ownsRow_nil _ _ _ _, fun _ _ => TextsAt.nil, World.ownsRow_nil _ _ _ _, fun _ _ => TextsAt.nil, (fun q e => by cases e), hs.size⟩⟩
  case round =>
    clear hs
    obtain ⟨k, ⟨K, V, D, ⟨ri, bad⟩⟩, va, vb, xs, ys, hk, rfl, hKl, hVl, hD, hrun, hs, hr⟩ := hrel
    simp only [] at hKl hVl hD hrun hs hr
    have HKL := Lib.hid hKl
    have HVL := Lib.hid hVl
    have HRUN := Lib.hid hrun
    have HD := Lib.hid hD
    have HR := Lib.hid hr
    clear hKl hVl hrun hD hr
    by_cases hlt : k < cn
    · cases bad with
      | true =>
        obtain ⟨rq, rm, rc, br, hrm, hrc, hrq⟩ := id hs.r
        have bz := hs.z
        have bn := hs.n
        have cr0 := br.cell 0 _ rfl
        have cr1 := br.cell 1 _ rfl
        have fr := br.free
        have cn0 := bn.cell 0 _ rfl
        have cn1 := bn.cell 1 _ rfl
        have cn2 := bn.cell 2 _ rfl
        have cn3 := bn.cell 3 _ rfl
        have cn4 := bn.cell 4 _ rfl
        have fn := bn.free
        have cz0 := bz.cell 0 _ rfl
        have cz1 := bz.cell 1 _ rfl
        have cz2 := bz.cell 2 _ rfl
        have cz3 := bz.cell 3 _ rfl
        have cz4 := bz.cell 4 _ rfl
        have fz := bz.free
        go_wp2
        go_step3
        refine ⟨rfl, ?_⟩
        go_wp2
        simp only [Exit.jump]
        have hz5 := bz.set5 (.bool false) (.slice none 0 0) (.slice none 0 0) (.slice none 0 0) (.int .i64 0)
        refine bodyPost_ret (v := .tuple #[zeroN, .bool false]) (by simp [results, Try.results17, go_sem, zeroN, cz0, cz1, cz2, cz3, cz4]) rfl ?_
        refine ⟨hs.below.trans (hz5.2.below (fun k hk => ⟨by have := hs.size; have := hs.le; omega, fun _ => by have := hs.le; omega⟩)), .inr ⟨dec_no H0.out ?_, rfl⟩⟩
        intro hd
        have h1 := hd.1
        rw [← HRUN.out, drun_bad _ _ _ _ rfl] at h1
        cases h1
      | false =>
        obtain ⟨rq, rm, rc, br, hrm, hrc, hrq⟩ := id hs.r
        have bz := hs.z
        have bn := hs.n
        have cr0 := br.cell 0 _ rfl
        have cr1 := br.cell 1 _ rfl
        have fr := br.free
        have cn0 := bn.cell 0 _ rfl
        have cn1 := bn.cell 1 _ rfl
        have cn2 := bn.cell 2 _ rfl
        have cn3 := bn.cell 3 _ rfl
        have cn4 := bn.cell 4 _ rfl
        have fn := bn.free
        go_wp2_with fail
        clear cr0 cr1 fr
        clear cn0 cn1 cn2 cn3 cn4 fn
        clear br hrm hrc hrq bz
        obtain ⟨r, hr⟩ : ∃ r : Rd, (⟨ri, false⟩ : Rd) = r := ⟨_, rfl⟩
        rw [hr] at hs
        have hs3 := hs.size
        have hle := hs.le
        have hr0 := hs.r
        have hl0 := hs.l
        have hB := hs.below
        refine wp_region_partsDC (WDt15 wr g b o nx L r va vb) 5 [[], [0], [], [2], [2, 3]] [some 59, some 60, some 61, some 62, some 63, some 64, some 65, none] (by kernel_rfl) (by kernel_rfl) rfl (PDt15 wr g b o nx L r va vb) (PDt15_stable wr g b o nx L r va vb hs3) ?pDt15 ?_
        case pDt15 =>
          intro i hi o ho vs lo hx_ w' hg hp
          match i, hi with
          | 0, _ =>
            obtain rfl := Option.some.inj ho
            clear ho
            simp only [actsD, List.getD_cons_zero, List.getD_cons_succ, List.foldl_cons, List.foldl_nil, Act.put, List.setIfInBounds_toArray, List.set_cons_succ, List.set_cons_zero]
            have hsz := hg.size
            go_wp2
            exact ⟨_, rfl, GrowC.refl _, rfl⟩
          | 1, _ =>
            obtain rfl := Option.some.inj ho
            clear ho
            simp only [actsD, List.getD_cons_zero, List.getD_cons_succ, List.foldl_cons, List.foldl_nil, Act.put, List.setIfInBounds_toArray, List.set_cons_succ, List.set_cons_zero]
            obtain ⟨_, _, _, h0⟩ := hp 0 (by simp)
            simp only [PDt15] at h0
            have hsz := hg.size
            rw [h0]
            have e0 := (hg.cell (g + 1) 1 bn.lt (by rintro ⟨j, _, hne, hb, hw⟩; simp only [WDt15] at hw; omega)).trans (bn.cell 1 _ rfl)
            go_wp2
            exact ⟨_, rfl, GrowC.refl _, rfl⟩
          | 2, _ =>
            obtain rfl := Option.some.inj ho
            clear ho
            simp only [actsD, List.getD_cons_zero, List.getD_cons_succ, List.foldl_cons, List.foldl_nil, Act.put, List.setIfInBounds_toArray, List.set_cons_succ, List.set_cons_zero]
            have hsz := hg.size
            go_wp2
            exact ⟨_, rfl, GrowC.refl _, rfl⟩
          | 3, _ =>
            obtain rfl := Option.some.inj ho
            clear ho
            simp only [actsD, List.getD_cons_zero, List.getD_cons_succ, List.foldl_cons, List.foldl_nil, Act.put, List.setIfInBounds_toArray, List.set_cons_succ, List.set_cons_zero]
            obtain ⟨_, _, _, h2⟩ := hp 2 (by simp)
            simp only [PDt15] at h2
            have hsz := hg.size
            rw [h2]
            go_wp2_with fail
            refine (prlong_any (g + 1 + 1) b o L r w' (hr0.growC hg (by rintro k ⟨j, _, hne, hb, hw⟩; simp only [WDt15] at hw; omega)) (hl0.growC hg (fun k => by rintro ⟨j, _, hne, hb, hw⟩; simp only [WDt15] at hw; omega)) (by omega) (by rw [HL.out]; decide)).mono ?_
            rintro e wz ⟨v, rfl, ⟨ao, rfl⟩, hk, hr1, hgz⟩
            go_wp2
            exact ⟨_, rfl, hgz.mono (fun k i e => ⟨rfl, e⟩), hr1, ao, rfl, hk.mono (fun q _ h => by omega)⟩
          | 4, _ =>
            obtain rfl := Option.some.inj ho
            clear ho
            simp only [actsD, List.getD_cons_zero, List.getD_cons_succ, List.foldl_cons, List.foldl_nil, Act.put, List.setIfInBounds_toArray, List.set_cons_succ, List.set_cons_zero]
            obtain ⟨_, _, _, h3⟩ := hp 3 (by simp)
            simp only [PDt15] at h3
            have hsz := hg.size
            obtain ⟨hr3, ao, h3, hk3⟩ := h3
            rw [h3]
            have hbx := Box.new w' #[.slice ao (rlong L r).1.length (rlong L r).1.length] 28 rfl
            go_wp2
            exact ⟨_, rfl, GrowC.of_grow ((Grow.refl _).alloc _), rfl, by omega, by simp, ao, hbx.cell 0 _ rfl, hk3.grow (GrowX.of_grow ((Grow.refl _).alloc _))⟩
          | (q + 5), hq => exact absurd hq (by omega)
        intro vS lo hi w6 hg hp hd
        obtain ⟨_, _, _, h0⟩ := hp 0 (by omega)
        obtain ⟨_, _, _, h1⟩ := hp 1 (by omega)
        obtain ⟨_, _, _, h2⟩ := hp 2 (by omega)
        obtain ⟨_, _, _, h3⟩ := hp 3 (by omega)
        obtain ⟨_, _, _, h4⟩ := hp 4 (by omega)
        simp only [PDt15] at h0 h1 h2 h3 h4
        clear hp hd
        have hsz := hg.size
        replace bn := bn.grow hg (by intro i _; rintro ⟨j, _, hw⟩; simp only [WDt15] at hw; omega)
        replace hB := hB.trans (hg.below (fun k hk => ⟨by omega, fun o => by rintro ⟨j, _, hw⟩; simp only [WDt15] at hw; omega⟩))
        have hr : List.range 5 = [0, 1, 2, 3, 4] := rfl
        rw [hr]
        clear hr
        simp only [List.drop_succ_cons, List.drop_zero, List.drop_nil, actsD, List.getD_cons_zero, List.getD_cons_succ, List.foldl_cons, List.foldl_nil, Act.put, List.setIfInBounds_toArray, List.set_cons_succ, List.set_cons_zero, h0, h1, h2]
        clear h0 h1 h2
        obtain ⟨hr6, _⟩ := h3
        obtain ⟨e4, hge4, hlt4, ao, hc4, hk4⟩ := h4
        simp only [e4]
        have hgx : GrowC (fun b' _ => b' = g + 1 + 1) wr w6 := hg.mono (fun k i hw => by obtain ⟨j, _, hw⟩ := hw; simp only [WDt15] at hw; omega)
        have hs6 := hs.rd hgx hr6
        have hd6 := HR.out.grow (GrowX.of_growC hgx (fun k _ e => by omega))
        have hva := fun q e => (HR.out.a.lt q e).2
        have hvb := fun q e => (HR.out.b.lt q e).2
        have hrb := (rlong L r).2
        clear hg hgx e4 hr6 hr0 hl0 hB bn hs
        obtain ⟨l, hl⟩ : ∃ l, (rlong L r).1 = l := ⟨_, rfl⟩
        rw [hl] at hc4 hk4
        have hka := hd6.a
        rw [HKL.out] at hka
        have HL15 := Lib.hid hl
        have HK4 := Lib.hid hk4
        have HD6 := Lib.hid hd6
        clear hl hk4 hd6 HR
        go_wp2_with (first
          | (at_builtin; refine wpList_append_two sl_texts (.tmp 60) (.tmp 63) rfl rfl (v := va) rfl hka rfl rfl (news := [.slice ao l.length l.length]) (by intro j u hu; rw [Addr.add_lit]; cases j with | zero => simp at hu; subst hu; exact hc4 | succ j => simp at hu) (by intro u hu; simp at hu; subst hu; rfl) (by omega) (by omega) (by omega) (by omega) ?_; intro g3 c3 w7 hown7 hgr7 hor7; have hb7 := below_of_growX (B := g + 3) (growX_of_grownBy hgr7) (fun k hk => ⟨by omega, fun e => by have := (HD6.out.a.lt k e).1; omega⟩); have hs7 := hs6.upB hb7; have HG7 := Lib.hid hgr7; have HO7 := Lib.hid hown7; have HR7 := Lib.hid hor7; have bn := hs7.n; have cn0 := bn.cell 0 _ rfl; have cn1 := bn.cell 1 _ rfl; have fn := bn.free; clear bn; have HS7 := Lib.hid hs7; clear hs6 hs7 hgr7 hown7 hor7 hka hc4 hb7))
        clear cn0 cn1 fn
        have hs8 := HS7.out.put 1 (.slice (some ⟨g3, 0, none⟩) (k + 1) c3)
        have hd7 := HD6.out.addA (l := l) HG7.out HR7.out (by rw [HKL.out]; exact HO7.out) (H := wr.heap.size) (by omega) (by omega) hva hvb HK4.out
        have hd8 := hd7.grow (u' := w7.setCell ⟨g + 1, 1, none⟩ (.slice (some ⟨g3, 0, none⟩) (k + 1) c3)) (GrowX.of_growC (HS7.out.n.set1 1 _).2 (fun q i e => by have := e.1; omega))
        rw [HKL.out] at hd8
        refine wp_world (fun u => DS w g b o L u [.bool true, .slice (some ⟨g3, 0, none⟩) (k + 1) c3, vb, .slice none 0 0, .int .i64 nx] (rlong L r).2 ∧
          DR (g + 3) 28 28 u (.slice (some ⟨g3, 0, none⟩) (k + 1) c3) vb (xs ++ [.slice ao l.length l.length]) (K ++ [l]) V.length ys (fun w => TextsAt w ys V)) ⟨hs8, hd8⟩ ?_
        clear hs8 hd7 hd8 HS7 HD6 HG7 HO7 HR7 HK4 hva hvb hs3 hge4 hlt4 hsz
        rintro w8 ⟨hs, hd⟩
        generalize Value.slice (some ⟨g3, 0, none⟩) (k + 1) c3 = va1 at hs hd ⊢
        obtain ⟨r1, hr1⟩ : ∃ q, (rlong L r).2 = q := ⟨_, rfl⟩
        rw [hr1] at hs
        have HR1 := Lib.hid hr1
        have HR0 := Lib.hid hr
        clear hr1 hr
        have hs3 := hs.size
        have hr0 := hs.r
        have hl0 := hs.l
        have hB := hs.below
        have bn := hs.n
        have HR := Lib.hid hd
        clear hd
        refine wp_region_partsDC (WDt17 w8 g b o nx L r1 va1 vb) 5 [[], [0], [], [2], [2, 3]] [some 68, some 69, some 70, some 71, some 72, some 73, some 74, none] (by kernel_rfl) (by kernel_rfl) rfl (PDt17 w8 g b o nx L r1 va1 vb) (PDt17_stable w8 g b o nx L r1 va1 vb hs3) ?pDt17 ?_
        case pDt17 =>
          intro i hi o ho vs lo hx_ w' hg hp
          match i, hi with
          | 0, _ =>
            obtain rfl := Option.some.inj ho
            clear ho
            simp only [actsD, List.getD_cons_zero, List.getD_cons_succ, List.foldl_cons, List.foldl_nil, Act.put, List.setIfInBounds_toArray, List.set_cons_succ, List.set_cons_zero]
            have hsz := hg.size
            go_wp2
            exact ⟨_, rfl, GrowC.refl _, rfl⟩
          | 1, _ =>
            obtain rfl := Option.some.inj ho
            clear ho
            simp only [actsD, List.getD_cons_zero, List.getD_cons_succ, List.foldl_cons, List.foldl_nil, Act.put, List.setIfInBounds_toArray, List.set_cons_succ, List.set_cons_zero]
            obtain ⟨_, _, _, h0⟩ := hp 0 (by simp)
            simp only [PDt17] at h0
            have hsz := hg.size
            rw [h0]
            have e0 := (hg.cell (g + 1) 2 bn.lt (by rintro ⟨j, _, hne, hb, hw⟩; simp only [WDt17] at hw; omega)).trans (bn.cell 2 _ rfl)
            go_wp2
            exact ⟨_, rfl, GrowC.refl _, rfl⟩
          | 2, _ =>
            obtain rfl := Option.some.inj ho
            clear ho
            simp only [actsD, List.getD_cons_zero, List.getD_cons_succ, List.foldl_cons, List.foldl_nil, Act.put, List.setIfInBounds_toArray, List.set_cons_succ, List.set_cons_zero]
            have hsz := hg.size
            go_wp2
            exact ⟨_, rfl, GrowC.refl _, rfl⟩
          | 3, _ =>
            obtain rfl := Option.some.inj ho
            clear ho
            simp only [actsD, List.getD_cons_zero, List.getD_cons_succ, List.foldl_cons, List.foldl_nil, Act.put, List.setIfInBounds_toArray, List.set_cons_succ, List.set_cons_zero]
            obtain ⟨_, _, _, h2⟩ := hp 2 (by simp)
            simp only [PDt17] at h2
            have hsz := hg.size
            rw [h2]
            go_wp2_with fail
            refine (prlong_any (g + 1 + 1) b o L r1 w' (hr0.growC hg (by rintro k ⟨j, _, hne, hb, hw⟩; simp only [WDt17] at hw; omega)) (hl0.growC hg (fun k => by rintro ⟨j, _, hne, hb, hw⟩; simp only [WDt17] at hw; omega)) (by omega) (by rw [HL.out]; decide)).mono ?_
            rintro e wz ⟨v, rfl, ⟨ao, rfl⟩, hk, hr1, hgz⟩
            go_wp2
            exact ⟨_, rfl, hgz.mono (fun k i e => ⟨rfl, e⟩), hr1, ao, rfl, hk.mono (fun q _ h => by omega)⟩
          | 4, _ =>
            obtain rfl := Option.some.inj ho
            clear ho
            simp only [actsD, List.getD_cons_zero, List.getD_cons_succ, List.foldl_cons, List.foldl_nil, Act.put, List.setIfInBounds_toArray, List.set_cons_succ, List.set_cons_zero]
            obtain ⟨_, _, _, h3⟩ := hp 3 (by simp)
            simp only [PDt17] at h3
            have hsz := hg.size
            obtain ⟨hr3, ao, h3, hk3⟩ := h3
            rw [h3]
            have hbx := Box.new w' #[.slice ao (rlong L r1).1.length (rlong L r1).1.length] 28 rfl
            go_wp2
            exact ⟨_, rfl, GrowC.of_grow ((Grow.refl _).alloc _), rfl, by omega, by simp, ao, hbx.cell 0 _ rfl, hk3.grow (GrowX.of_grow ((Grow.refl _).alloc _))⟩
          | (q + 5), hq => exact absurd hq (by omega)
        intro vS lo hi w9 hg hp hd
        obtain ⟨_, _, _, h0⟩ := hp 0 (by omega)
        obtain ⟨_, _, _, h1⟩ := hp 1 (by omega)
        obtain ⟨_, _, _, h2⟩ := hp 2 (by omega)
        obtain ⟨_, _, _, h3⟩ := hp 3 (by omega)
        obtain ⟨_, _, _, h4⟩ := hp 4 (by omega)
        simp only [PDt17] at h0 h1 h2 h3 h4
        clear hp hd
        have hsz := hg.size
        replace bn := bn.grow hg (by intro i _; rintro ⟨j, _, hw⟩; simp only [WDt17] at hw; omega)
        replace hB := hB.trans (hg.below (fun k hk => ⟨by omega, fun o => by rintro ⟨j, _, hw⟩; simp only [WDt17] at hw; omega⟩))
        have hr : List.range 5 = [0, 1, 2, 3, 4] := rfl
        rw [hr]
        clear hr
        simp only [List.drop_succ_cons, List.drop_zero, List.drop_nil, actsD, List.getD_cons_zero, List.getD_cons_succ, List.foldl_cons, List.foldl_nil, Act.put, List.setIfInBounds_toArray, List.set_cons_succ, List.set_cons_zero, h0, h1, h2]
        clear h0 h1 h2
        obtain ⟨hr10, _⟩ := h3
        obtain ⟨e4, hge4, hlt4, ao2, hc4, hk4⟩ := h4
        simp only [e4]
        have hgx : GrowC (fun b' _ => b' = g + 1 + 1) w8 w9 := hg.mono (fun k i hw => by obtain ⟨j, _, hw⟩ := hw; simp only [WDt17] at hw; omega)
        have hs6 := hs.rd hgx hr10
        have hd6 := HR.out.grow (GrowX.of_growC hgx (fun k _ e => by omega))
        have hva := fun q e => (HR.out.a.lt q e).2
        have hvb := fun q e => (HR.out.b.lt q e).2
        clear hg hgx e4 hr10 hr0 hl0 hB bn hs
        obtain ⟨l2, hl2⟩ : ∃ l, (rlong L r1).1 = l := ⟨_, rfl⟩
        rw [hl2] at hc4 hk4
        have hkb := hd6.b
        rw [HVL.out] at hkb
        have HL17 := Lib.hid hl2
        have HK4 := Lib.hid hk4
        have HD6 := Lib.hid hd6
        clear hl2 hk4 hd6 HR
        go_wp2_with (first
          | (at_builtin; refine wpList_append_two sl_texts (.tmp 69) (.tmp 72) rfl rfl (v := vb) rfl hkb rfl rfl (news := [.slice ao2 l2.length l2.length]) (by intro j u hu; rw [Addr.add_lit]; cases j with | zero => simp at hu; subst hu; exact hc4 | succ j => simp at hu) (by intro u hu; simp at hu; subst hu; rfl) (by omega) (by omega) (by omega) (by omega) ?_; intro g4 c4 w10 hown7 hgr7 hor7; have hb7 := below_of_growX (B := g + 3) (growX_of_grownBy hgr7) (fun k hk => ⟨by omega, fun e => by have := (HD6.out.b.lt k e).1; omega⟩); have hs7 := hs6.upB hb7; have HG7 := Lib.hid hgr7; have HO7 := Lib.hid hown7; have HR7 := Lib.hid hor7; have bn := hs7.n; have cn0 := bn.cell 0 _ rfl; have cn2 := bn.cell 2 _ rfl; have fn := bn.free; clear bn; have HS7 := Lib.hid hs7; clear hs6 hs7 hgr7 hown7 hor7 hkb hc4 hb7))
        clear cn0 cn2 fn
        have hVl : (V ++ [l2]).length = k + 1 := by simp [HVL.out]
        have hKl : (K ++ [l]).length = k + 1 := by simp [HKL.out]
        have hs8 := HS7.out.put 2 (.slice (some ⟨g4, 0, none⟩) (k + 1) c4)
        have hd7 := HD6.out.addB (nb' := (V ++ [l2]).length) (Pb' := fun w => TextsAt w (ys ++ [.slice ao2 l2.length l2.length]) (V ++ [l2])) HG7.out HR7.out (by rw [hVl]; exact HO7.out) (H := w8.heap.size) (by omega) (by omega) hva hvb HK4.out (fun w h1 h2 => h1.append (TextsAt.one h2))
        have hd8 := hd7.grow (u' := w10.setCell ⟨g + 1, 2, none⟩ (.slice (some ⟨g4, 0, none⟩) (k + 1) c4)) (GrowX.of_growC (HS7.out.n.set1 2 _).2 (fun q i e => by have := e.1; omega))
        have hst : dstep L true ⟨K, V, D, ⟨ri, false⟩⟩ = ⟨K ++ [l], V ++ [l2], D, (rlong L r1).2⟩ := by
          unfold dstep
          simp only [if_true, HR0.out, HR1.out, HL15.out, HL17.out]
        have hru := HRUN.out
        rw [show cn - k = (cn - (k + 1)) + 1 by omega, drun_go _ _ _ _ rfl, hst] at hru
        go_roundw
        case rel => exact ⟨k + 1, ⟨K ++ [l], V ++ [l2], D, (rlong L r1).2⟩, va1, .slice (some ⟨g4, 0, none⟩) (k + 1) c4, _, _, by omega, by go_num, hKl, hVl, HD.out, hru, hs8, hd8⟩
        case measure => simp [intOf]; omega
    · obtain rfl : k = cn := by omega
      cases bad with
      | true =>
        obtain ⟨rq, rm, rc, br, hrm, hrc, hrq⟩ := id hs.r
        have bz := hs.z
        have bn := hs.n
        have cr0 := br.cell 0 _ rfl
        have cr1 := br.cell 1 _ rfl
        have fr := br.free
        have cn0 := bn.cell 0 _ rfl
        have cn1 := bn.cell 1 _ rfl
        have cn2 := bn.cell 2 _ rfl
        have cn3 := bn.cell 3 _ rfl
        have cn4 := bn.cell 4 _ rfl
        have fn := bn.free
        have cz0 := bz.cell 0 _ rfl
        have cz1 := bz.cell 1 _ rfl
        have cz2 := bz.cell 2 _ rfl
        have cz3 := bz.cell 3 _ rfl
        have cz4 := bz.cell 4 _ rfl
        have fz := bz.free
        go_wp2
        go_step3
        refine ⟨rfl, ?_⟩
        go_wp2
        simp only [Exit.jump]
        have hz5 := bz.set5 (.bool false) (.slice none 0 0) (.slice none 0 0) (.slice none 0 0) (.int .i64 0)
        refine bodyPost_ret (v := .tuple #[zeroN, .bool false]) (by simp [results, Try.results17, go_sem, zeroN, cz0, cz1, cz2, cz3, cz4]) rfl ?_
        refine ⟨hs.below.trans (hz5.2.below (fun k hk => ⟨by have := hs.size; have := hs.le; omega, fun _ => by have := hs.le; omega⟩)), .inr ⟨dec_no H0.out ?_, rfl⟩⟩
        intro hd
        have h1 := hd.1
        rw [← HRUN.out, drun_bad _ _ _ _ rfl] at h1
        cases h1
      | false =>
        obtain ⟨rq, rm, rc, br, hrm, hrc, hrq⟩ := id hs.r
        have bz := hs.z
        have bn := hs.n
        have hend : (⟨K, V, D, ⟨ri, false⟩⟩ : DSt) = dend L true := by have := HRUN.out; rw [Nat.sub_self] at this; exact this
        obtain ⟨aa, ca, rfl⟩ := own_shape HR.out.a
        obtain ⟨ab, cb, rfl⟩ := own_shape HR.out.b
        obtain ⟨x, hxd⟩ : ∃ x, dnode L true = x := ⟨_, rfl⟩
        have hxk : x.keys = K := by rw [← hxd]; exact (congrArg DSt.K hend).symm
        have hxv : x.vals = V := by rw [← hxd]; exact (congrArg DSt.V hend).symm
        have hxd2 : x.kids = [] := by rw [← hxd]; exact (congrArg DSt.D hend).symm.trans HD.out
        have hxl : x.leaf = true := by rw [← hxd]; rfl
        have hxn : x.next = (nx : Int) := by rw [← hxd]; show (((dnext L).1 : Nat) : Int) = _; rw [HNX.out]
        have hsm : x.small := by rw [← hxd]; exact dnode_small (by rw [HL.out]; decide) true
        have hNA : NodeAt wr (.slice aa K.length ca) (.slice ab V.length cb) (.slice none 0 0) x := ⟨⟨xs, by rw [hxk]; exact Reads.of_own HR.out.a, by rw [hxk]; exact HR.out.t.now⟩, ⟨ys, by rw [hxv]; exact Reads.of_own HR.out.b, by rw [hxv]; exact HR.out.p.now⟩, by rw [hxd2]; exact Reads.empty⟩
        have HNA := Lib.hid hNA
        have HXK := Lib.hid hxk
        have HXV := Lib.hid hxv
        have HXZ := Lib.hid hxd2
        have HXL := Lib.hid hxl
        have HXN := Lib.hid hxn
        have HXD := Lib.hid hxd
        have HEND := Lib.hid hend
        clear hxk hxv hxd2 hxl hxn hNA hxd hend
        have cr0 := br.cell 0 _ rfl
        have cr1 := br.cell 1 _ rfl
        have fr := br.free
        have cn0 := bn.cell 0 _ rfl
        have cn1 := bn.cell 1 _ rfl
        have cn2 := bn.cell 2 _ rfl
        have cn3 := bn.cell 3 _ rfl
        have cn4 := bn.cell 4 _ rfl
        have fn := bn.free
        go_wp2_with fail
        clear cr0 cr1 fr
        clear cn0 cn1 cn2 cn3 cn4 fn
        refine (penc_any x hsm _ _ _ wr HNA.out true (nx : Int) HXL.out HXN.out).mono ?_
        rintro e w6 ⟨v, er, rfl, hb6, hcase⟩
        replace hs := hs.upB (hb6.mono hs.size)
        have hNB := Lib.hid (HNA.out.below hb6 (Nat.le_refl _))
        have bz := hs.z
        rcases hcase with ⟨hnf, rfl, rfl⟩ | ⟨hf, hbig, rfl, rfl⟩ | ⟨hf, hle5, rfl, hrd⟩
        · have HNF := Lib.hid hnf
          clear hnf
          have cz0 := bz.cell 0 _ rfl
          have cz1 := bz.cell 1 _ rfl
          have cz2 := bz.cell 2 _ rfl
          have cz3 := bz.cell 3 _ rfl
          have cz4 := bz.cell 4 _ rfl
          have fz := bz.free
          go_wp2
          go_step3
          refine ⟨rfl, ?_⟩
          go_wp2
          simp only [Exit.jump]
          have hz5 := bz.set5 (.bool false) (.slice none 0 0) (.slice none 0 0) (.slice none 0 0) (.int .i64 0)
          refine bodyPost_ret (v := .tuple #[zeroN, .bool false]) (by simp [results, Try.results17, go_sem, zeroN, cz0, cz1, cz2, cz3, cz4]) rfl ?_
          refine ⟨hs.below.trans (hz5.2.below (fun k hk => ⟨by have := hs.size; have := hs.le; omega, fun _ => by have := hs.le; omega⟩)), .inr ⟨dec_no H0.out ?_, rfl⟩⟩
          intro hd
          exact HNF.out (HXD.out ▸ hd.2.1)
        · have HBIG := Lib.hid hbig
          clear hbig
          have cz0 := bz.cell 0 _ rfl
          have cz1 := bz.cell 1 _ rfl
          have cz2 := bz.cell 2 _ rfl
          have cz3 := bz.cell 3 _ rfl
          have cz4 := bz.cell 4 _ rfl
          have fz := bz.free
          go_wp2
          go_step3
          refine ⟨rfl, ?_⟩
          go_wp2
          simp only [Exit.jump]
          have hz5 := bz.set5 (.bool false) (.slice none 0 0) (.slice none 0 0) (.slice none 0 0) (.int .i64 0)
          refine bodyPost_ret (v := .tuple #[zeroN, .bool false]) (by simp [results, Try.results17, go_sem, zeroN, cz0, cz1, cz2, cz3, cz4]) rfl ?_
          refine ⟨hs.below.trans (hz5.2.below (fun k hk => ⟨by have := hs.size; have := hs.le; omega, fun _ => by have := hs.le; omega⟩)), .inr ⟨dec_no H0.out ?_, rfl⟩⟩
          intro hd
          have h1 := hd.2.2.1
          rw [HXD.out] at h1
          have := HBIG.out
          omega
        · have hpr : Reads 1 w6 (.slice (some ⟨b, o, none⟩) 504 c) 504 (L.map B) := by
            obtain ⟨_, _, _, _, h2⟩ := Part.mk' (b := b) (o := o) (q := o) (k := 504) (c := c) (i := 0) (L := L) (by rw [HL.out]; exact Nat.le_refl _) hc (fun _ => rfl)
            have h3 := h2 w6 hs.l
            rw [List.drop_zero, List.take_of_length_le (by rw [HL.out]; exact Nat.le_refl _), HL.out] at h3
            exact h3
          have cv1 := run_str_reads (P := Try.prog) (src := 28) (dst := 9) Try.underlying28 Try.underlying5 Try.underlying9 _ hrd
          have cv2 := run_str_reads (P := Try.prog) (src := 28) (dst := 9) Try.underlying28 Try.underlying5 Try.underlying9 _ hpr
          have HF := Lib.hid hf
          have HLE := Lib.hid hle5
          clear hrd hpr hf hle5
          obtain ⟨pg, hpg⟩ : ∃ p, page x = p := ⟨_, rfl⟩
          rw [hpg] at cv1
          have HPG := Lib.hid hpg
          clear hpg
          have bn := hs.n
          have cz0 := bz.cell 0 _ rfl
          have cz1 := bz.cell 1 _ rfl
          have cz2 := bz.cell 2 _ rfl
          have cz3 := bz.cell 3 _ rfl
          have cz4 := bz.cell 4 _ rfl
          have fz := bz.free
          have cn0 := bn.cell 0 _ rfl
          have cn1 := bn.cell 1 _ rfl
          have cn2 := bn.cell 2 _ rfl
          have cn3 := bn.cell 3 _ rfl
          have cn4 := bn.cell 4 _ rfl
          have fn := bn.free
          by_cases hpe : pg = L
          · have hpe2 : (!(pg == L)) = false := by simp [hpe]
            have HPE := Lib.hid hpe
            clear hpe
            go_wp2_with fail
            refine (clip_any true (nx : Int) aa ab none K.length V.length 0 ca cb 0 w6 (own_cap HR.out.a) (own_cap HR.out.b) (Nat.le_refl _)).mono ?_
            rintro e w7 ⟨rfl, hb7⟩
            clear cv1 cv2
            clear cz0 cz1 cz2 cz3 cz4 fz
            clear cn0 cn1 cn2 cn3 cn4 fn
            have hs7 := hs.upB (hb7.mono hs.size)
            have bz7 := hs7.z
            have hz5 := bz7.set5 (.bool true) (.slice aa K.length K.length) (.slice ab V.length V.length) (.slice none 0 0) (.int .i64 (nx : Int))
            have HGX := Lib.hid (((GrowX.of_grow (X := fun q => q < g + 3) hb6).trans (GrowX.of_grow hb7)).trans (GrowX.of_growC hz5.2 (fun q i e => by omega)))
            have HBF := Lib.hid (hs7.below.trans (hz5.2.below (B := w.heap.size) (fun k hk => ⟨by have := hs7.size; have := hs7.le; omega, fun _ => by have := hs7.le; omega⟩)))
            clear hz5 bz bn
            have cz0 := bz7.cell 0 _ rfl
            have cz1 := bz7.cell 1 _ rfl
            have cz2 := bz7.cell 2 _ rfl
            have cz3 := bz7.cell 3 _ rfl
            have cz4 := bz7.cell 4 _ rfl
            have fz := bz7.free
            go_wp2
            simp only [Exit.jump]
            refine bodyPost_ret (v := .tuple #[.agg #[.bool true, .slice aa K.length K.length, .slice ab V.length V.length, .slice none 0 0, .int .i64 (nx : Int)], .bool true]) (by simp [results, Try.results17, go_sem, cz0, cz1, cz2, cz3, cz4]) rfl ?_
            have hdF := HR.out.grow HGX.out
            refine ⟨HBF.out, .inl ⟨true, ⟨HL.out, H0.out, ⟨by rw [← HEND.out], by rw [HXD.out]; exact HF.out, by rw [HXD.out]; exact HLE.out, by rw [HXD.out, HPG.out]; exact HPE.out⟩⟩, _, _, _, by rw [HNX.out], ?_⟩⟩
            rw [HXD.out]
            exact ⟨⟨xs, by rw [HXK.out]; exact (Reads.of_own hdF.a).tight, by rw [HXK.out]; exact hdF.t.now⟩, ⟨ys, by rw [HXV.out]; exact (Reads.of_own hdF.b).tight, by rw [HXV.out]; exact hdF.p.now⟩, by rw [HXZ.out]; exact Reads.empty⟩
          · have hpe2 : (!(pg == L)) = true := by simp [hpe]
            have HPE := Lib.hid hpe
            clear hpe
            go_wp2
            go_step3
            refine ⟨rfl, ?_⟩
            go_wp2
            simp only [Exit.jump]
            have hz5 := bz.set5 (.bool false) (.slice none 0 0) (.slice none 0 0) (.slice none 0 0) (.int .i64 0)
            refine bodyPost_ret (v := .tuple #[zeroN, .bool false]) (by simp [results, Try.results17, go_sem, zeroN, cz0, cz1, cz2, cz3, cz4]) rfl ?_
            refine ⟨hs.below.trans (hz5.2.below (fun k hk => ⟨by have := hs.size; have := hs.le; omega, fun _ => by have := hs.le; omega⟩)), .inr ⟨dec_no H0.out ?_, rfl⟩⟩
            intro hd
            have h1 := hd.2.2.2
            rw [HXD.out, HPG.out] at h1
            exact HPE.out h1

end Go.Proofs.Ytfbblgcdggpehaa

/- What the reference's Decode answers at a page that begins as an inner node. Conditions: none but the page's length. -/
import Derived.Test.YtfbblgcdggpehaaRDecT
import Derived.Test.YtfbblgcdggpehaaPartsN
namespace Go.Proofs.Ytfbblgcdggpehaa
set_option linter.unusedSimpArgs false
set_option linter.unusedVariables false
open Go.RowKit

def WRf8 (W0 : World) (g b o nx : Nat) (L : List UInt8) (r : Rd) (va vb : Value) (j b o : Nat) : Prop := (j = 3 ∧ b = g + 1)
def PRf8 (W0 : World) (g b o nx : Nat) (L : List UInt8) (r : Rd) (va vb : Value) (i : Nat) (v : Value) (lo hi : Nat) (w : World) : Prop :=
  match i with
  | 0 => v = .pointer (some ⟨g + 1 + 1, 3, none⟩)
  | 1 => v = .slice none 0 0
  | 2 => v = .pointer (some ⟨g + 1, 0, none⟩)
  | 3 => RAt w (g + 1) b o L (rnum L r 4).2 ∧ v = .int .i64 (((rnum L r 4).1 : Nat) : Int)
  | 4 => v = .slice (some ⟨lo, 0, none⟩) 1 1 ∧ W0.heap.size ≤ lo ∧ lo < w.heap.size ∧ w.cell? ⟨lo, 0, none⟩ = some (.int .i64 (((rnum L r 4).1 : Nat) : Int))
  | _ => True
theorem PRf8_stable (W0 : World) (g b o nx : Nat) (L : List UInt8) (r : Rd) (va vb : Value) (hW0 : g + 3 ≤ W0.heap.size) : ∀ i j, i < 5 → j < 5 → j ≠ i → j ∉ ([[], [0], [], [2], [2, 3]] : List (List Nat)).getD i [] → ∀ v lo hi w w', PRf8 W0 g b o nx L r va vb i v lo hi w → GrowC (WRf8 W0 g b o nx L r va vb j) w w' → PRf8 W0 g b o nx L r va vb i v lo hi w' := by
  intro i j hi hj hne hbs v lo hj2 w w' h hg
  match i, hi with
  | 0, _ =>
    simp only [PRf8] at h ⊢
    exact h
  | 1, _ =>
    simp only [PRf8] at h ⊢
    exact h
  | 2, _ =>
    simp only [PRf8] at h ⊢
    exact h
  | 3, _ =>
    simp only [PRf8] at h ⊢
    obtain ⟨h1, h2⟩ := h
    exact ⟨h1.growC hg (fun k hw => by simp only [WRf8] at hw; omega), h2⟩
  | 4, _ =>
    simp only [PRf8] at h ⊢
    obtain ⟨h1, h2, h3, h4⟩ := h
    exact ⟨h1, h2, Nat.lt_of_lt_of_le h3 hg.size, (hg.cell _ _ h3 (by simp only [WRf8]; omega)).trans h4⟩
  | (q + 5), hq => exact absurd hq (by omega)
def WRf12 (W0 : World) (g b o nx : Nat) (L : List UInt8) (r : Rd) (va vb : Value) (j b o : Nat) : Prop := ((j = 4 ∨ j = 5) ∧ b = g + 1)
def PRf12 (W0 : World) (g b o nx : Nat) (L : List UInt8) (r : Rd) (va vb : Value) (i : Nat) (v : Value) (lo hi : Nat) (w : World) : Prop :=
  match i with
  | 0 => v = .pointer (some ⟨g + 1 + 1, 1, none⟩)
  | 1 => v = va
  | 2 => v = .pointer (some ⟨g + 1, 0, none⟩)
  | 3 => v = .pointer (some ⟨g + 1, 0, none⟩)
  | 4 => RAt w (g + 1) b o L (rnum L r 2).2 ∧ v = .int .i64 (((rnum L r 2).1 : Nat) : Int)
  | 5 => RAt w (g + 1) b o L (rlong L r).2 ∧ Part b o L v (rlong L r).1
  | 6 => v = S (rlong L r).1
  | 7 => v = .slice (some ⟨lo, 0, none⟩) 1 1 ∧ W0.heap.size ≤ lo ∧ lo < w.heap.size ∧ w.cell? ⟨lo, 0, none⟩ = some (S (rlong L r).1)
  | _ => True
theorem PRf12_stable (W0 : World) (g b o nx : Nat) (L : List UInt8) (r : Rd) (va vb : Value) (hW0 : g + 3 ≤ W0.heap.size) : ∀ i j, i < 8 → j < 8 → j ≠ i → j ∉ ([[], [0], [], [], [3], [2, 3, 4], [2, 3, 4, 5], [2, 3, 4, 5, 6]] : List (List Nat)).getD i [] → (i, j) ∉ ([(4, 5)] : List (Nat × Nat)) → ∀ v lo hi w w', PRf12 W0 g b o nx L r va vb i v lo hi w → GrowC (WRf12 W0 g b o nx L r va vb j) w w' → PRf12 W0 g b o nx L r va vb i v lo hi w' := by
  intro i j hi hj hne hbs hx v lo hj2 w w' h hg
  match i, hi with
  | 0, _ =>
    simp only [PRf12] at h ⊢
    exact h
  | 1, _ =>
    simp only [PRf12] at h ⊢
    exact h
  | 2, _ =>
    simp only [PRf12] at h ⊢
    exact h
  | 3, _ =>
    simp only [PRf12] at h ⊢
    exact h
  | 4, _ =>
    simp only [PRf12] at h ⊢
    simp at hx
    obtain ⟨h1, h2⟩ := h
    exact ⟨h1.growC hg (fun k hw => by simp only [WRf12] at hw; omega), h2⟩
  | 5, _ =>
    simp only [PRf12] at h ⊢
    simp at hbs
    obtain ⟨h1, h2⟩ := h
    exact ⟨h1.growC hg (fun k hw => by simp only [WRf12] at hw; omega), h2⟩
  | 6, _ =>
    simp only [PRf12] at h ⊢
    exact h
  | 7, _ =>
    simp only [PRf12] at h ⊢
    obtain ⟨h1, h2, h3, h4⟩ := h
    exact ⟨h1, h2, Nat.lt_of_lt_of_le h3 hg.size, (hg.cell _ _ h3 (by simp only [WRf12]; omega)).trans h4⟩
  | (q + 8), hq => exact absurd hq (by omega)
def WRf15 (W0 : World) (g b o nx : Nat) (L : List UInt8) (r : Rd) (va vb : Value) (j b o : Nat) : Prop := (j = 3 ∧ b = g + 1)
def PRf15 (W0 : World) (g b o nx : Nat) (L : List UInt8) (r : Rd) (va vb : Value) (i : Nat) (v : Value) (lo hi : Nat) (w : World) : Prop :=
  match i with
  | 0 => v = .pointer (some ⟨g + 1 + 1, 3, none⟩)
  | 1 => v = vb
  | 2 => v = .pointer (some ⟨g + 1, 0, none⟩)
  | 3 => RAt w (g + 1) b o L (rnum L r 4).2 ∧ v = .int .i64 (((rnum L r 4).1 : Nat) : Int)
  | 4 => v = .slice (some ⟨lo, 0, none⟩) 1 1 ∧ W0.heap.size ≤ lo ∧ lo < w.heap.size ∧ w.cell? ⟨lo, 0, none⟩ = some (.int .i64 (((rnum L r 4).1 : Nat) : Int))
  | _ => True
theorem PRf15_stable (W0 : World) (g b o nx : Nat) (L : List UInt8) (r : Rd) (va vb : Value) (hW0 : g + 3 ≤ W0.heap.size) : ∀ i j, i < 5 → j < 5 → j ≠ i → j ∉ ([[], [0], [], [2], [2, 3]] : List (List Nat)).getD i [] → ∀ v lo hi w w', PRf15 W0 g b o nx L r va vb i v lo hi w → GrowC (WRf15 W0 g b o nx L r va vb j) w w' → PRf15 W0 g b o nx L r va vb i v lo hi w' := by
  intro i j hi hj hne hbs v lo hj2 w w' h hg
  match i, hi with
  | 0, _ =>
    simp only [PRf15] at h ⊢
    exact h
  | 1, _ =>
    simp only [PRf15] at h ⊢
    exact h
  | 2, _ =>
    simp only [PRf15] at h ⊢
    exact h
  | 3, _ =>
    simp only [PRf15] at h ⊢
    obtain ⟨h1, h2⟩ := h
    exact ⟨h1.growC hg (fun k hw => by simp only [WRf15] at hw; omega), h2⟩
  | 4, _ =>
    simp only [PRf15] at h ⊢
    obtain ⟨h1, h2, h3, h4⟩ := h
    exact ⟨h1, h2, Nat.lt_of_lt_of_le h3 hg.size, (hg.cell _ _ h3 (by simp only [WRf15]; omega)).trans h4⟩
  | (q + 5), hq => exact absurd hq (by omega)

set_option maxRecDepth 100000 in
set_option maxHeartbeats 6400000 in
theorem rdec_false (b o c : Nat) (L : List UInt8) (w : World) (hL : L.length = 504) (h0 : L[0]? = some 2) (hc : 504 ≤ c) (hla : LAt w b o L) :
    Calls Try.prog 18 #[.slice (some ⟨b, o, none⟩) 504 c] w fun e w' => DecEnd RefAt L w e w' := by
  obtain ⟨g, hg0⟩ : ∃ g, w.heap.size = g := ⟨_, rfl⟩
  have hbg : b < g := hg0 ▸ hla.1
  have hx0 : w.cell? ⟨b, o, none⟩ = some (.int .u8 2) := hla.2 0 _ h0
  have hB := (((Below.refl w.heap.size w).alloc (Nat.le_refl _) (.cells #[.bool false, .slice none 0 0, .slice none 0 0, .slice none 0 0, .int .i64 0] 38)).alloc (by simp) (.cells #[.slice (some ⟨b, o + 1, none⟩) 503 (c - 1), .bool false] 73)).alloc (by simp; omega) (.cells #[.bool false, .slice none 0 0, .slice none 0 0, .slice none 0 0, .int .i64 0] 38)
  have bz : Box (((w.alloc (.cells #[.bool false, .slice none 0 0, .slice none 0 0, .slice none 0 0, .int .i64 0] 38)).alloc (.cells #[.slice (some ⟨b, o + 1, none⟩) 503 (c - 1), .bool false] 73)).alloc (.cells #[.bool false, .slice none 0 0, .slice none 0 0, .slice none 0 0, .int .i64 0] 38)) g zeroL := ((Box.new w #[.bool false, .slice none 0 0, .slice none 0 0, .slice none 0 0, .int .i64 0] 38 hg0.symm).alloc (.cells #[.slice (some ⟨b, o + 1, none⟩) 503 (c - 1), .bool false] 73)).alloc (.cells #[.bool false, .slice none 0 0, .slice none 0 0, .slice none 0 0, .int .i64 0] 38)
  have br := (Box.new (w.alloc (.cells #[.bool false, .slice none 0 0, .slice none 0 0, .slice none 0 0, .int .i64 0] 38)) #[.slice (some ⟨b, o + 1, none⟩) 503 (c - 1), .bool false] 73 (g := g + 1) (by simp; omega)).alloc (.cells #[.bool false, .slice none 0 0, .slice none 0 0, .slice none 0 0, .int .i64 0] 38)
  have bn : Box (((w.alloc (.cells #[.bool false, .slice none 0 0, .slice none 0 0, .slice none 0 0, .int .i64 0] 38)).alloc (.cells #[.slice (some ⟨b, o + 1, none⟩) 503 (c - 1), .bool false] 73)).alloc (.cells #[.bool false, .slice none 0 0, .slice none 0 0, .slice none 0 0, .int .i64 0] 38)) (g + 1 + 1) [.bool false, .slice none 0 0, .slice none 0 0, .slice none 0 0, .int .i64 0] := Box.new ((w.alloc (.cells #[.bool false, .slice none 0 0, .slice none 0 0, .slice none 0 0, .int .i64 0] 38)).alloc (.cells #[.slice (some ⟨b, o + 1, none⟩) 503 (c - 1), .bool false] 73)) #[.bool false, .slice none 0 0, .slice none 0 0, .slice none 0 0, .int .i64 0] 38 (g := g + 1 + 1) (by simp; omega)
  have hl0 := hla.below hB hla.1
  have hx1 : (w.alloc (.cells #[.bool false, .slice none 0 0, .slice none 0 0, .slice none 0 0, .int .i64 0] 38)).cell? ⟨b, o, none⟩ = some (.int .u8 2) := (((Below.refl w.heap.size w).alloc (Nat.le_refl _) (.cells #[.bool false, .slice none 0 0, .slice none 0 0, .slice none 0 0, .int .i64 0] 38)).cell (p := ⟨b, o, none⟩) hla.1).trans hx0
  have hx2 : ((w.alloc (.cells #[.bool false, .slice none 0 0, .slice none 0 0, .slice none 0 0, .int .i64 0] 38)).alloc (.cells #[.slice (some ⟨b, o + 1, none⟩) 503 (c - 1), .bool false] 73)).cell? ⟨b, o, none⟩ = some (.int .u8 2) := ((((Below.refl w.heap.size w).alloc (Nat.le_refl _) (.cells #[.bool false, .slice none 0 0, .slice none 0 0, .slice none 0 0, .int .i64 0] 38)).alloc (by simp) (.cells #[.slice (some ⟨b, o + 1, none⟩) 503 (c - 1), .bool false] 73)).cell (p := ⟨b, o, none⟩) hla.1).trans hx0
  have HW := Lib.hid (⟨hbg, Nat.le_of_eq hg0, bz, bn, ⟨o + 1, 503, c - 1, br, by simp; omega, by omega, fun _ => rfl⟩, hl0, hB, by simp; omega⟩ : DT w g b o L (((w.alloc (.cells #[.bool false, .slice none 0 0, .slice none 0 0, .slice none 0 0, .int .i64 0] 38)).alloc (.cells #[.slice (some ⟨b, o + 1, none⟩) 503 (c - 1), .bool false] 73)).alloc (.cells #[.bool false, .slice none 0 0, .slice none 0 0, .slice none 0 0, .int .i64 0] 38)) [.bool false, .slice none 0 0, .slice none 0 0, .slice none 0 0, .int .i64 0] ⟨1, false⟩)
  have HL := Lib.hid hL
  have HG := Lib.hid hg0
  have H0 := Lib.hid (show HeadOk L false from h0)
  clear hB bz bn br hla hl0 h0 hL hg0
  go_enter Try.func18, Try.ntmps18
  go_wp2_with fail
  rw [HG.out]
  refine calls_world (fun u => DT w g b o L u [.bool false, .slice none 0 0, .slice none 0 0, .slice none 0 0, .int .i64 0] ⟨1, false⟩) HW.out ?_
  clear HW hx0 hx1 hx2
  intro w2 hs
  refine (rnumber_any (g + 1) b o L ⟨1, false⟩ w2 2 (by omega) hs.r hs.l (by have := hs.lt; omega)).mono ?_
  rintro e w3 ⟨rfl, hr1, hg⟩
  replace hs := hs.rd hg hr1
  clear hr1 hg
  rw [show rnum L ⟨1, false⟩ 2 = dcnt L from rfl] at hs ⊢
  obtain ⟨cn, hcn⟩ : ∃ cn, (dcnt L).1 = cn := ⟨_, rfl⟩
  have hcl : cn < 65536 := hcn ▸ dcnt_lt L
  rw [hcn]
  have HCN := Lib.hid hcn
  clear hcn
  go_wp2_with fail
  refine (rnumber_any (g + 1) b o L (dcnt L).2 w3 4 (by omega) hs.r hs.l (by have := hs.lt; omega)).mono ?_
  rintro e w4 ⟨rfl, hr1, hg⟩
  replace hs := hs.rd hg hr1
  clear hr1 hg
  rw [show rnum L (dcnt L).2 4 = dnext L from rfl] at hs ⊢
  obtain ⟨nx, hnx⟩ : ∃ nx, (dnext L).1 = nx := ⟨_, rfl⟩
  rw [hnx]
  have HNX := Lib.hid hnx
  clear hnx
  have bn := hs.n
  have cn0 := bn.cell 0 _ rfl
  have cn1 := bn.cell 1 _ rfl
  have cn2 := bn.cell 2 _ rfl
  have cn3 := bn.cell 3 _ rfl
  have cn4 := bn.cell 4 _ rfl
  have fn := bn.free
  clear bn
  go_wp2_with fail
  clear cn0 cn1 cn2 cn3 cn4 fn
  have hs1 := hs.put 4 (.int .i64 nx)
  refine wp_world (fun u => DT w g b o L u [.bool false, .slice none 0 0, .slice none 0 0, .slice none 0 0, .int .i64 nx] (dnext L).2) hs1 ?_
  clear hs hs1
  intro w5 hs
  have bn := hs.n
  have cn0 := bn.cell 0 _ rfl
  have cn1 := bn.cell 1 _ rfl
  have cn2 := bn.cell 2 _ rfl
  have cn3 := bn.cell 3 _ rfl
  have cn4 := bn.cell 4 _ rfl
  have fn := bn.free
  clear bn
  go_wp2_with fail
  clear cn0 cn1 cn2 cn3 cn4 fn
  have hs3 := hs.size
  have hle := hs.le
  have hr0 := hs.r
  have hl0 := hs.l
  have hB := hs.below
  have bn := hs.n
  refine wp_region_partsDC (WRf8 w5 g b o nx L (dnext L).2 (.slice none 0 0) (.slice none 0 0)) 5 [[], [0], [], [2], [2, 3]] [some 43, some 44, some 45, some 46, some 47, some 48, some 49, none] (by kernel_rfl) (by kernel_rfl) rfl (PRf8 w5 g b o nx L (dnext L).2 (.slice none 0 0) (.slice none 0 0)) (PRf8_stable w5 g b o nx L (dnext L).2 (.slice none 0 0) (.slice none 0 0) hs3) ?pRf8 ?_
  case pRf8 =>
    intro i hi o ho vs lo hx_ w' hg hp
    match i, hi with
    | 0, _ =>
      obtain rfl := Option.some.inj ho
      clear ho
      simp only [actsD, List.getD_cons_zero, List.getD_cons_succ, List.foldl_cons, List.foldl_nil, Act.put, List.setIfInBounds_toArray, List.set_cons_succ, List.set_cons_zero]
      have hsz := hg.size
      go_wp2
      exact ⟨_, rfl, GrowC.refl _, rfl⟩
    | 1, _ =>
      obtain rfl := Option.some.inj ho
      clear ho
      simp only [actsD, List.getD_cons_zero, List.getD_cons_succ, List.foldl_cons, List.foldl_nil, Act.put, List.setIfInBounds_toArray, List.set_cons_succ, List.set_cons_zero]
      obtain ⟨_, _, _, h0⟩ := hp 0 (by simp)
      simp only [PRf8] at h0
      have hsz := hg.size
      rw [h0]
      have e0 := (hg.cell (g + 1 + 1) 3 bn.lt (by rintro ⟨j, _, hne, hb, hw⟩; simp only [WRf8] at hw; omega)).trans (bn.cell 3 _ rfl)
      go_wp2
      exact ⟨_, rfl, GrowC.refl _, rfl⟩
    | 2, _ =>
      obtain rfl := Option.some.inj ho
      clear ho
      simp only [actsD, List.getD_cons_zero, List.getD_cons_succ, List.foldl_cons, List.foldl_nil, Act.put, List.setIfInBounds_toArray, List.set_cons_succ, List.set_cons_zero]
      have hsz := hg.size
      go_wp2
      exact ⟨_, rfl, GrowC.refl _, rfl⟩
    | 3, _ =>
      obtain rfl := Option.some.inj ho
      clear ho
      simp only [actsD, List.getD_cons_zero, List.getD_cons_succ, List.foldl_cons, List.foldl_nil, Act.put, List.setIfInBounds_toArray, List.set_cons_succ, List.set_cons_zero]
      obtain ⟨_, _, _, h2⟩ := hp 2 (by simp)
      simp only [PRf8] at h2
      have hsz := hg.size
      rw [h2]
      go_wp2_with fail
      refine (rnumber_any (g + 1) b o L (dnext L).2 w' 4 (by omega) (hr0.growC hg (by rintro k ⟨j, _, hne, hb, hw⟩; simp only [WRf8] at hw; omega)) (hl0.growC hg (fun k => by rintro ⟨j, _, hne, hb, hw⟩; simp only [WRf8] at hw; omega)) (by omega)).mono ?_
      rintro e wz ⟨rfl, hr1, hgz⟩
      go_wp2
      exact ⟨_, rfl, hgz.mono (fun k i e => ⟨rfl, e⟩), hr1, rfl⟩
    | 4, _ =>
      obtain rfl := Option.some.inj ho
      clear ho
      simp only [actsD, List.getD_cons_zero, List.getD_cons_succ, List.foldl_cons, List.foldl_nil, Act.put, List.setIfInBounds_toArray, List.set_cons_succ, List.set_cons_zero]
      obtain ⟨_, _, _, h3⟩ := hp 3 (by simp)
      simp only [PRf8] at h3
      have hsz := hg.size
      obtain ⟨hr3, h3⟩ := h3
      rw [h3]
      have hbx := Box.new w' #[.int .i64 (((rnum L (dnext L).2 4).1 : Nat) : Int)] 3 rfl
      go_wp2
      exact ⟨_, rfl, GrowC.of_grow ((Grow.refl _).alloc _), rfl, by omega, by simp, hbx.cell 0 _ rfl⟩
    | (q + 5), hq => exact absurd hq (by omega)
  intro vS lo hi w6 hg hp hd
  obtain ⟨_, _, _, h0⟩ := hp 0 (by omega)
  obtain ⟨_, _, _, h1⟩ := hp 1 (by omega)
  obtain ⟨_, _, _, h2⟩ := hp 2 (by omega)
  obtain ⟨_, _, _, h3⟩ := hp 3 (by omega)
  obtain ⟨_, _, _, h4⟩ := hp 4 (by omega)
  simp only [PRf8] at h0 h1 h2 h3 h4
  clear hp hd
  have hsz := hg.size
  replace bn := bn.grow hg (by intro i _; rintro ⟨j, _, hw⟩; simp only [WRf8] at hw; omega)
  replace hB := hB.trans (hg.below (fun k hk => ⟨by omega, fun o => by rintro ⟨j, _, hw⟩; simp only [WRf8] at hw; omega⟩))
  have hr : List.range 5 = [0, 1, 2, 3, 4] := rfl
  rw [hr]
  clear hr
  simp only [List.drop_succ_cons, List.drop_zero, List.drop_nil, actsD, List.getD_cons_zero, List.getD_cons_succ, List.foldl_cons, List.foldl_nil, Act.put, List.setIfInBounds_toArray, List.set_cons_succ, List.set_cons_zero, h0, h1, h2]
  clear h0 h1 h2
  obtain ⟨hr6, e3⟩ := h3
  obtain ⟨e4, hge4, hlt4, hc4⟩ := h4
  simp only [e4]
  have hgx : GrowC (fun b' _ => b' = g + 1) w5 w6 := hg.mono (fun k i hw => by obtain ⟨j, _, hw⟩ := hw; simp only [WRf8] at hw; omega)
  have hs6 := hs.rd hgx hr6
  clear hg hgx e4 e3 hr6 hr0 hl0 hB bn hs
  obtain ⟨m0, hm0⟩ : ∃ q, (rnum L (dnext L).2 4).1 = q := ⟨_, rfl⟩
  rw [hm0] at hc4
  have HM0 := Lib.hid hm0
  clear hm0
  go_wp2_with (first
    | (at_builtin; refine wpList_append_two sl_ints (.tmp 44) (.tmp 47) rfl rfl (base := g + 3) (v := .slice none 0 0) rfl (World.ownsRow_nil _ _ _ _) rfl rfl (news := [.int .i64 (m0 : Nat)]) (by intro j u hu; rw [Addr.add_lit]; cases j with | zero => simp at hu; subst hu; exact hc4 | succ j => simp at hu) (by intro u hu; simp at hu; subst hu; rfl) (by omega) (by omega) (by omega) (by omega) ?_; intro g3 c3 w7 hown7 hgr7 hor7; have hb7 := below_of_growX (B := g + 3) (growX_of_grownBy hgr7) (fun k hk => ⟨by omega, fun e => by cases e⟩); have hs7 := hs6.upB hb7; have HO7 := Lib.hid hown7; have bn := hs7.n; have cn0 := bn.cell 0 _ rfl; have cn3 := bn.cell 3 _ rfl; have fn := bn.free; clear bn; have HS7 := Lib.hid hs7; clear hs6 hs7 hgr7 hown7 hor7 hc4 hb7))
  clear cn0 cn3 fn
  have hs8 := HS7.out.put 3 (.slice (some ⟨g3, 0, none⟩) 1 c3)
  have hd7 : DQ (g + 3) 9 3 w7 (.slice none 0 0) (.slice (some ⟨g3, 0, none⟩) 1 c3) 0 ([].map S) 1 ([(m0 : Int)].map I) :=
    ⟨World.ownsRow_nil _ _ _ _, HO7.out, (fun q e => by cases e), HS7.out.size⟩
  have hd8 := hd7.grow (u' := w7.setCell ⟨g + 1 + 1, 3, none⟩ (.slice (some ⟨g3, 0, none⟩) 1 c3)) (GrowX.of_growC (HS7.out.n.set1 3 _).2 (fun q i e => by have := e.1; omega))
  refine wp_world (fun u => DT w g b o L u [.bool false, .slice none 0 0, .slice none 0 0, .slice (some ⟨g3, 0, none⟩) 1 c3, .int .i64 nx] (rnum L (dnext L).2 4).2 ∧
    DQ (g + 3) 9 3 u (.slice none 0 0) (.slice (some ⟨g3, 0, none⟩) 1 c3) 0 ([].map S) 1 ([(m0 : Int)].map I)) ⟨hs8, hd8⟩ ?_
  clear hs8 hd7 hd8 HS7 HO7 hs3 hge4 hlt4 hsz
  rintro w8 ⟨hs, hd⟩
  generalize Value.slice (some ⟨g3, 0, none⟩) 1 c3 = vb0 at hs hd ⊢
  have hd0 : dini L false = ⟨[], [], [(m0 : Int)], (rnum L (dnext L).2 4).2⟩ := by
    unfold dini; rw [if_neg (by decide), HM0.out]
  have HD0 := Lib.hid hd0
  clear hd0
  go_loopw [7] (fun i wr => ∃ k s va vb, k ≤ cn ∧ i = .int .i64 k ∧ s.K.length = k ∧ s.V = [] ∧ s.D.length = k + 1 ∧ drun L false (cn - k) s = dend L false ∧ DT w g b o L wr [.bool false, va, .slice none 0 0, vb, .int .i64 nx] s.r ∧
    DQ (g + 3) 9 3 wr va vb s.K.length (s.K.map S) s.D.length (s.D.map I)) (fun i _ => cn - (intOf i).toNat)
  case atStart => exact ⟨0, dini L false, .slice none 0 0, vb0, Nat.zero_le _, rfl, by rw [HD0.out]; rfl, by rw [HD0.out], by rw [HD0.out]; rfl, by rw [dend, HCN.out]; rfl, by rw [HD0.out]; exact hs, by rw [HD0.out]; exact hd⟩
  case round =>
    clear hs hd
    obtain ⟨k, ⟨K, V, D, ⟨ri, bad⟩⟩, va, vb, hk, rfl, hKl, hVl, hD, hrun, hs, hr⟩ := hrel
    simp only [] at hKl hVl hD hrun hs hr
    have HKL := Lib.hid hKl
    have HVL := Lib.hid hVl
    have HRUN := Lib.hid hrun
    have HD := Lib.hid hD
    have HR := Lib.hid hr
    clear hKl hVl hrun hD hr
    by_cases hlt : k < cn
    · cases bad with
      | true =>
        obtain ⟨rq, rm, rc, br, hrm, hrc, hrq⟩ := id hs.r
        have bz := hs.z
        have bn := hs.n
        have hend : (⟨K, V, D, ⟨ri, true⟩⟩ : DSt) = dend L false := by have := HRUN.out; rw [drun_bad _ _ _ _ rfl] at this; exact this
        obtain ⟨aa, ca, rfl⟩ := own_shape HR.out.a
        obtain ⟨ab, cb, rfl⟩ := own_shape HR.out.b
        obtain ⟨x, hxd⟩ : ∃ x, dnode L false = x := ⟨_, rfl⟩
        have hxk : x.keys = K := by rw [← hxd]; exact (congrArg DSt.K hend).symm
        have hxv : x.vals = [] := by rw [← hxd]; exact (congrArg DSt.V hend).symm.trans HVL.out
        have hxd2 : x.kids = D := by rw [← hxd]; exact (congrArg DSt.D hend).symm
        have hxl : x.leaf = false := by rw [← hxd]; rfl
        have hxn : x.next = (nx : Int) := by rw [← hxd]; show (((dnext L).1 : Nat) : Int) = _; rw [HNX.out]
        have hsm : x.small := by rw [← hxd]; exact dnode_small (by rw [HL.out]; decide) false
        have hNA : RefAt wr (.slice aa K.length ca) (.slice none 0 0) (.slice ab D.length cb) x := ⟨by rw [hxk]; exact Reads.of_own HR.out.a, by rw [hxv]; exact Reads.empty, by rw [hxd2]; exact Reads.of_own HR.out.b⟩
        have HNA := Lib.hid hNA
        have HXK := Lib.hid hxk
        have HXV := Lib.hid hxv
        have HXZ := Lib.hid hxd2
        have HXL := Lib.hid hxl
        have HXN := Lib.hid hxn
        have HXD := Lib.hid hxd
        have HEND := Lib.hid hend
        clear hxk hxv hxd2 hxl hxn hNA hxd hend
        have cr0 := br.cell 0 _ rfl
        have cr1 := br.cell 1 _ rfl
        have fr := br.free
        have cn0 := bn.cell 0 _ rfl
        have cn1 := bn.cell 1 _ rfl
        have cn2 := bn.cell 2 _ rfl
        have cn3 := bn.cell 3 _ rfl
        have cn4 := bn.cell 4 _ rfl
        have fn := bn.free
        go_wp2_with fail
        clear cr0 cr1 fr
        clear cn0 cn1 cn2 cn3 cn4 fn
        refine (renc_any x hsm _ _ _ wr HNA.out false (nx : Int) HXL.out HXN.out).mono ?_
        rintro e w6 ⟨v, er, rfl, hb6, hcase⟩
        replace hs := hs.upB (hb6.mono hs.size)
        have bz := hs.z
        have hv1 : v.oneCell' = true := by rcases hcase with ⟨_, _, rfl⟩ | ⟨_, _, _, rfl⟩ | ⟨_, _, _, _, _, rfl, _⟩ <;> rfl
        obtain ⟨rq, rm, rc, br, hrm, hrc, hrq⟩ := id hs.r
        clear hcase
        have cr0 := br.cell 0 _ rfl
        have cr1 := br.cell 1 _ rfl
        have fr := br.free
        have cz0 := bz.cell 0 _ rfl
        have cz1 := bz.cell 1 _ rfl
        have cz2 := bz.cell 2 _ rfl
        have cz3 := bz.cell 3 _ rfl
        have cz4 := bz.cell 4 _ rfl
        have fz := bz.free
        go_wp2
        have hz5 := bz.set5 (.bool false) (.slice none 0 0) (.slice none 0 0) (.slice none 0 0) (.int .i64 0)
        refine bodyPost_ret (v := .tuple #[zeroN, .bool false]) (by simp [results, Try.results18, go_sem, zeroN, cz0, cz1, cz2, cz3, cz4]) rfl ?_
        refine ⟨hs.below.trans (hz5.2.below (fun k hk => ⟨by have := hs.size; have := hs.le; omega, fun _ => by have := hs.le; omega⟩)), .inr ⟨dec_no H0.out ?_, rfl⟩⟩
        intro hd
        have h1 := hd.1
        rw [← HEND.out] at h1
        cases h1
      | false =>
        obtain ⟨rq, rm, rc, br, hrm, hrc, hrq⟩ := id hs.r
        have bz := hs.z
        have bn := hs.n
        have cr0 := br.cell 0 _ rfl
        have cr1 := br.cell 1 _ rfl
        have fr := br.free
        have cn0 := bn.cell 0 _ rfl
        have cn1 := bn.cell 1 _ rfl
        have cn2 := bn.cell 2 _ rfl
        have cn3 := bn.cell 3 _ rfl
        have cn4 := bn.cell 4 _ rfl
        have fn := bn.free
        go_wp2_with fail
        clear cr0 cr1 fr
        clear cn0 cn1 cn2 cn3 cn4 fn
        clear br hrm hrc hrq bz
        obtain ⟨r, hr⟩ : ∃ r : Rd, (⟨ri, false⟩ : Rd) = r := ⟨_, rfl⟩
        rw [hr] at hs
        have hs3 := hs.size
        have hle := hs.le
        have hbg2 := hs.lt
        have hr0 := hs.r
        have hl0 := hs.l
        have hB := hs.below
        refine wp_region_partsDN (WRf12 wr g b o nx L r va vb) 8 [[], [0], [], [], [3], [2, 3, 4], [2, 3, 4, 5], [2, 3, 4, 5, 6]] [some 62, some 63, some 64, some 65, some 66, some 67, some 68, some 69, some 70, some 71, none] [[], [0], [], [], [3], [2, 4], [5], [6]] [0, 1, 2, 3, 5, 6, 7] [(4, 5)] (by decide) (by kernel_rfl) (by kernel_rfl) rfl (PRf12 wr g b o nx L r va vb) (PRf12_stable wr g b o nx L r va vb hs3) ?pRf12 ?_
        case pRf12 =>
          intro i hi o ho vs lo hx_ w' hg hp
          match i, hi with
          | 0, _ =>
            obtain rfl := Option.some.inj ho
            clear ho
            simp only [actsD, List.getD_cons_zero, List.getD_cons_succ, List.foldl_cons, List.foldl_nil, Act.put, List.setIfInBounds_toArray, List.set_cons_succ, List.set_cons_zero]
            have hsz := hg.size
            go_wp2
            exact ⟨_, rfl, GrowC.refl _, rfl⟩
          | 1, _ =>
            obtain rfl := Option.some.inj ho
            clear ho
            simp only [actsD, List.getD_cons_zero, List.getD_cons_succ, List.foldl_cons, List.foldl_nil, Act.put, List.setIfInBounds_toArray, List.set_cons_succ, List.set_cons_zero]
            obtain ⟨_, _, _, h0⟩ := hp 0 (by simp)
            simp only [PRf12] at h0
            have hsz := hg.size
            rw [h0]
            have e0 := (hg.cell (g + 1 + 1) 1 bn.lt (by rintro ⟨j, _, hne, hb, hw⟩; simp only [WRf12] at hw; omega)).trans (bn.cell 1 _ rfl)
            go_wp2
            exact ⟨_, rfl, GrowC.refl _, rfl⟩
          | 2, _ =>
            obtain rfl := Option.some.inj ho
            clear ho
            simp only [actsD, List.getD_cons_zero, List.getD_cons_succ, List.foldl_cons, List.foldl_nil, Act.put, List.setIfInBounds_toArray, List.set_cons_succ, List.set_cons_zero]
            have hsz := hg.size
            go_wp2
            exact ⟨_, rfl, GrowC.refl _, rfl⟩
          | 3, _ =>
            obtain rfl := Option.some.inj ho
            clear ho
            simp only [actsD, List.getD_cons_zero, List.getD_cons_succ, List.foldl_cons, List.foldl_nil, Act.put, List.setIfInBounds_toArray, List.set_cons_succ, List.set_cons_zero]
            have hsz := hg.size
            go_wp2
            exact ⟨_, rfl, GrowC.refl _, rfl⟩
          | 4, _ =>
            obtain rfl := Option.some.inj ho
            clear ho
            simp only [actsD, List.getD_cons_zero, List.getD_cons_succ, List.foldl_cons, List.foldl_nil, Act.put, List.setIfInBounds_toArray, List.set_cons_succ, List.set_cons_zero]
            obtain ⟨_, _, _, h3⟩ := hp 3 (by simp)
            simp only [PRf12] at h3
            have hsz := hg.size
            rw [h3]
            go_wp2_with fail
            refine (rnumber_any (g + 1) b o L r w' 2 (by omega) (hr0.growC hg (by rintro k ⟨j, hj, hne, hb, hw⟩; simp only [WRf12] at hw; obtain ⟨h | h, _⟩ := hw <;> subst h <;> first | omega | exact hb (by decide))) (hl0.growC hg (fun k => by rintro ⟨j, _, hne, hb, hw⟩; simp only [WRf12] at hw; omega)) (by omega)).mono ?_
            rintro e wz ⟨rfl, hr1, hgz⟩
            go_wp2
            exact ⟨_, rfl, hgz.mono (fun k i e => ⟨.inl rfl, e⟩), hr1, rfl⟩
          | 5, _ =>
            obtain rfl := Option.some.inj ho
            clear ho
            simp only [actsD, List.getD_cons_zero, List.getD_cons_succ, List.foldl_cons, List.foldl_nil, Act.put, List.setIfInBounds_toArray, List.set_cons_succ, List.set_cons_zero]
            obtain ⟨_, _, _, h2⟩ := hp 2 (by simp)
            simp only [PRf12] at h2
            obtain ⟨_, _, _, h4⟩ := hp 4 (by simp)
            simp only [PRf12] at h4
            have hsz := hg.size
            obtain ⟨hr4, h4⟩ := h4
            rw [h2, h4]
            go_wp2_with fail
            refine (rtake_any (g + 1) b o L (rnum L r 2).2 w' (rnum L r 2).1 hr4 (by omega)).mono ?_
            rintro e wz ⟨v, rfl, hp5, hr1, hgz⟩
            have hv1 : v.oneCell' = true := by obtain ⟨_, _, rfl, _⟩ := hp5; rfl
            go_wp2
            exact ⟨_, rfl, hgz.mono (fun k i e => ⟨.inr rfl, e⟩), hr1, hp5⟩
          | 6, _ =>
            obtain rfl := Option.some.inj ho
            clear ho
            simp only [actsD, List.getD_cons_zero, List.getD_cons_succ, List.foldl_cons, List.foldl_nil, Act.put, List.setIfInBounds_toArray, List.set_cons_succ, List.set_cons_zero]
            obtain ⟨_, _, _, h5⟩ := hp 5 (by simp)
            simp only [PRf12] at h5
            have hsz := hg.size
            obtain ⟨hr5, ao5, c5, e5, hlc5, hpp⟩ := h5
            have cv := run_str_reads (P := Try.prog) (src := 28) (dst := 9) Try.underlying28 Try.underlying5 Try.underlying9 _ (hpp w' (hl0.growC hg (fun k => by rintro ⟨j, _, hne, hb, hw⟩; simp only [WRf12] at hw; omega)))
            rw [e5] at cv
            rw [e5]
            clear hpp
            go_wp2
            exact ⟨_, rfl, GrowC.refl _, rfl⟩
          | 7, _ =>
            obtain rfl := Option.some.inj ho
            clear ho
            simp only [actsD, List.getD_cons_zero, List.getD_cons_succ, List.foldl_cons, List.foldl_nil, Act.put, List.setIfInBounds_toArray, List.set_cons_succ, List.set_cons_zero]
            obtain ⟨_, _, _, h6⟩ := hp 6 (by simp)
            simp only [PRf12] at h6
            have hsz := hg.size
            rw [h6]
            have hbx := Box.new w' #[S (rlong L r).1] 9 rfl
            simp only [S] at hbx ⊢
            go_wp2
            exact ⟨_, rfl, GrowC.of_grow ((Grow.refl _).alloc _), rfl, by omega, by simp, hbx.cell 0 _ rfl⟩
          | (q + 8), hq => exact absurd hq (by omega)
        intro vS lo hi w6 hg hp hd
        obtain ⟨_, _, _, h0⟩ := hp 0 (by omega)
        replace h0 := h0 (by decide)
        obtain ⟨_, _, _, h1⟩ := hp 1 (by omega)
        replace h1 := h1 (by decide)
        obtain ⟨_, _, _, h2⟩ := hp 2 (by omega)
        replace h2 := h2 (by decide)
        obtain ⟨_, _, _, h3⟩ := hp 3 (by omega)
        replace h3 := h3 (by decide)
        obtain ⟨_, _, _, h5⟩ := hp 5 (by omega)
        replace h5 := h5 (by decide)
        obtain ⟨_, _, _, h6⟩ := hp 6 (by omega)
        replace h6 := h6 (by decide)
        obtain ⟨_, _, _, h7⟩ := hp 7 (by omega)
        replace h7 := h7 (by decide)
        simp only [PRf12] at h0 h1 h2 h3 h5 h6 h7
        clear hp hd
        have hsz := hg.size
        replace bn := bn.grow hg (by intro i _; rintro ⟨j, _, hw⟩; simp only [WRf12] at hw; omega)
        replace hB := hB.trans (hg.below (fun k hk => ⟨by omega, fun o => by rintro ⟨j, _, hw⟩; simp only [WRf12] at hw; omega⟩))
        have hr : List.range 8 = [0, 1, 2, 3, 4, 5, 6, 7] := rfl
        rw [hr]
        clear hr
        simp only [List.drop_succ_cons, List.drop_zero, List.drop_nil, actsD, List.getD_cons_zero, List.getD_cons_succ, List.foldl_cons, List.foldl_nil, Act.put, List.setIfInBounds_toArray, List.set_cons_succ, List.set_cons_zero, h0, h1, h2, h3]
        clear h0 h1 h2 h3
        obtain ⟨hr6, _⟩ := h5
        obtain ⟨e7, hge7, hlt7, hc7⟩ := h7
        simp only [e7]
        have hgx : GrowC (fun b' _ => b' = g + 1) wr w6 := hg.mono (fun k i hw => by obtain ⟨j, _, hw⟩ := hw; simp only [WRf12] at hw; omega)
        have hs6 := hs.rd hgx hr6
        have hd6 := HR.out.grow (GrowX.of_growC hgx (fun k _ e => by omega))
        clear hg hgx e7 h6 hr6 hr0 hl0 hB bn hs
        obtain ⟨l, hl⟩ : ∃ l, (rlong L r).1 = l := ⟨_, rfl⟩
        rw [hl] at hc7
        have hka := hd6.a
        rw [HKL.out] at hka
        have HL15 := Lib.hid hl
        have HD6 := Lib.hid hd6
        clear hl hd6 HR
        go_wp2_with (first
          | (at_builtin; refine wpList_append_two sl_strs (.tmp 63) (.tmp 69) rfl rfl (v := va) rfl hka rfl rfl (news := [S l]) (by intro j u hu; rw [Addr.add_lit]; cases j with | zero => simp at hu; subst hu; exact hc7 | succ j => simp at hu) (by intro u hu; simp at hu; subst hu; rfl) (by omega) (by omega) (by omega) (by omega) ?_; intro g3 c3 w7 hown7 hgr7 hor7; have hb7 := below_of_growX (B := g + 3) (growX_of_grownBy hgr7) (fun k hk => ⟨by omega, fun e => by have := (HD6.out.a.lt k e).1; omega⟩); have hs7 := hs6.upB hb7; have HG7 := Lib.hid hgr7; have HO7 := Lib.hid hown7; have HR7 := Lib.hid hor7; have bn := hs7.n; have cn0 := bn.cell 0 _ rfl; have cn1 := bn.cell 1 _ rfl; have fn := bn.free; clear bn; have HS7 := Lib.hid hs7; clear hs6 hs7 hgr7 hown7 hor7 hka hc7 hb7))
        clear cn0 cn1 fn
        have hKl : (K ++ [l]).length = k + 1 := by simp [HKL.out]
        have hs8 := HS7.out.put 1 (.slice (some ⟨g3, 0, none⟩) (k + 1) c3)
        have hd7 := HD6.out.addA (na' := (K ++ [l]).length) (xs' := (K ++ [l]).map S) HG7.out HR7.out (by rw [hKl, List.map_append]; exact HO7.out)
        have hd8 := hd7.grow (u' := w7.setCell ⟨g + 1 + 1, 1, none⟩ (.slice (some ⟨g3, 0, none⟩) (k + 1) c3)) (GrowX.of_growC (HS7.out.n.set1 1 _).2 (fun q i e => by have := e.1; omega))
        have HKL2 := Lib.hid hKl
        refine wp_world (fun u => DT w g b o L u [.bool false, .slice (some ⟨g3, 0, none⟩) (k + 1) c3, .slice none 0 0, vb, .int .i64 nx] (rlong L r).2 ∧
          DQ (g + 3) 9 3 u (.slice (some ⟨g3, 0, none⟩) (k + 1) c3) vb (K ++ [l]).length ((K ++ [l]).map S) D.length (D.map I)) ⟨hs8, hd8⟩ ?_
        clear hs8 hd7 hd8 HS7 HD6 HG7 HO7 HR7 hs3 hge7 hlt7 hsz hKl
        rintro w8 ⟨hs, hd⟩
        generalize Value.slice (some ⟨g3, 0, none⟩) (k + 1) c3 = va1 at hs hd ⊢
        obtain ⟨r1, hr1⟩ : ∃ q, (rlong L r).2 = q := ⟨_, rfl⟩
        rw [hr1] at hs
        have HR1 := Lib.hid hr1
        have HR0 := Lib.hid hr
        clear hr1 hr
        have HR := Lib.hid hd
        clear hd
        have hs3 := hs.size
        have bn := hs.n
        have cn0 := bn.cell 0 _ rfl
        have cn1 := bn.cell 1 _ rfl
        have cn2 := bn.cell 2 _ rfl
        have cn3 := bn.cell 3 _ rfl
        have cn4 := bn.cell 4 _ rfl
        have fn := bn.free
        go_wp2_with fail
        clear cn0 cn1 cn2 cn3 cn4 fn
        have hr0 := hs.r
        have hl0 := hs.l
        have hB := hs.below
        refine wp_region_partsDC (WRf15 w8 g b o nx L r1 va1 vb) 5 [[], [0], [], [2], [2, 3]] [some 84, some 85, some 86, some 87, some 88, some 89, some 90, none] (by kernel_rfl) (by kernel_rfl) rfl (PRf15 w8 g b o nx L r1 va1 vb) (PRf15_stable w8 g b o nx L r1 va1 vb hs3) ?pRf15 ?_
        case pRf15 =>
          intro i hi o ho vs lo hx_ w' hg hp
          match i, hi with
          | 0, _ =>
            obtain rfl := Option.some.inj ho
            clear ho
            simp only [actsD, List.getD_cons_zero, List.getD_cons_succ, List.foldl_cons, List.foldl_nil, Act.put, List.setIfInBounds_toArray, List.set_cons_succ, List.set_cons_zero]
            have hsz := hg.size
            go_wp2
            exact ⟨_, rfl, GrowC.refl _, rfl⟩
          | 1, _ =>
            obtain rfl := Option.some.inj ho
            clear ho
            simp only [actsD, List.getD_cons_zero, List.getD_cons_succ, List.foldl_cons, List.foldl_nil, Act.put, List.setIfInBounds_toArray, List.set_cons_succ, List.set_cons_zero]
            obtain ⟨_, _, _, h0⟩ := hp 0 (by simp)
            simp only [PRf15] at h0
            have hsz := hg.size
            rw [h0]
            have e0 := (hg.cell (g + 1 + 1) 3 bn.lt (by rintro ⟨j, _, hne, hb, hw⟩; simp only [WRf15] at hw; omega)).trans (bn.cell 3 _ rfl)
            go_wp2
            exact ⟨_, rfl, GrowC.refl _, rfl⟩
          | 2, _ =>
            obtain rfl := Option.some.inj ho
            clear ho
            simp only [actsD, List.getD_cons_zero, List.getD_cons_succ, List.foldl_cons, List.foldl_nil, Act.put, List.setIfInBounds_toArray, List.set_cons_succ, List.set_cons_zero]
            have hsz := hg.size
            go_wp2
            exact ⟨_, rfl, GrowC.refl _, rfl⟩
          | 3, _ =>
            obtain rfl := Option.some.inj ho
            clear ho
            simp only [actsD, List.getD_cons_zero, List.getD_cons_succ, List.foldl_cons, List.foldl_nil, Act.put, List.setIfInBounds_toArray, List.set_cons_succ, List.set_cons_zero]
            obtain ⟨_, _, _, h2⟩ := hp 2 (by simp)
            simp only [PRf15] at h2
            have hsz := hg.size
            rw [h2]
            go_wp2_with fail
            refine (rnumber_any (g + 1) b o L r1 w' 4 (by omega) (hr0.growC hg (by rintro k ⟨j, _, hne, hb, hw⟩; simp only [WRf15] at hw; omega)) (hl0.growC hg (fun k => by rintro ⟨j, _, hne, hb, hw⟩; simp only [WRf15] at hw; omega)) (by omega)).mono ?_
            rintro e wz ⟨rfl, hr1, hgz⟩
            go_wp2
            exact ⟨_, rfl, hgz.mono (fun k i e => ⟨rfl, e⟩), hr1, rfl⟩
          | 4, _ =>
            obtain rfl := Option.some.inj ho
            clear ho
            simp only [actsD, List.getD_cons_zero, List.getD_cons_succ, List.foldl_cons, List.foldl_nil, Act.put, List.setIfInBounds_toArray, List.set_cons_succ, List.set_cons_zero]
            obtain ⟨_, _, _, h3⟩ := hp 3 (by simp)
            simp only [PRf15] at h3
            have hsz := hg.size
            obtain ⟨hr3, h3⟩ := h3
            rw [h3]
            have hbx := Box.new w' #[.int .i64 (((rnum L r1 4).1 : Nat) : Int)] 3 rfl
            go_wp2
            exact ⟨_, rfl, GrowC.of_grow ((Grow.refl _).alloc _), rfl, by omega, by simp, hbx.cell 0 _ rfl⟩
          | (q + 5), hq => exact absurd hq (by omega)
        intro vS lo hi w9 hg hp hd
        obtain ⟨_, _, _, h0⟩ := hp 0 (by omega)
        obtain ⟨_, _, _, h1⟩ := hp 1 (by omega)
        obtain ⟨_, _, _, h2⟩ := hp 2 (by omega)
        obtain ⟨_, _, _, h3⟩ := hp 3 (by omega)
        obtain ⟨_, _, _, h4⟩ := hp 4 (by omega)
        simp only [PRf15] at h0 h1 h2 h3 h4
        clear hp hd
        have hsz := hg.size
        replace bn := bn.grow hg (by intro i _; rintro ⟨j, _, hw⟩; simp only [WRf15] at hw; omega)
        replace hB := hB.trans (hg.below (fun k hk => ⟨by omega, fun o => by rintro ⟨j, _, hw⟩; simp only [WRf15] at hw; omega⟩))
        have hr : List.range 5 = [0, 1, 2, 3, 4] := rfl
        rw [hr]
        clear hr
        simp only [List.drop_succ_cons, List.drop_zero, List.drop_nil, actsD, List.getD_cons_zero, List.getD_cons_succ, List.foldl_cons, List.foldl_nil, Act.put, List.setIfInBounds_toArray, List.set_cons_succ, List.set_cons_zero, h0, h1, h2]
        clear h0 h1 h2
        obtain ⟨hr10, e3⟩ := h3
        obtain ⟨e4, hge4, hlt4, hc7⟩ := h4
        simp only [e4]
        have hgx : GrowC (fun b' _ => b' = g + 1) w8 w9 := hg.mono (fun k i hw => by obtain ⟨j, _, hw⟩ := hw; simp only [WRf15] at hw; omega)
        have hs6 := hs.rd hgx hr10
        have hd6 := HR.out.grow (GrowX.of_growC hgx (fun k _ e => by omega))
        clear hg hgx e4 e3 hr10 hr0 hl0 hB bn hs
        obtain ⟨m2, hm2⟩ : ∃ q, (rnum L r1 4).1 = q := ⟨_, rfl⟩
        rw [hm2] at hc7
        have hkb := hd6.b
        rw [HD.out] at hkb
        have HL18 := Lib.hid hm2
        have HD6 := Lib.hid hd6
        clear hm2 hd6 HR
        go_wp2_with (first
          | (at_builtin; refine wpList_append_two sl_ints (.tmp 85) (.tmp 88) rfl rfl (v := vb) rfl hkb rfl rfl (news := [.int .i64 (m2 : Nat)]) (by intro j u hu; rw [Addr.add_lit]; cases j with | zero => simp at hu; subst hu; exact hc7 | succ j => simp at hu) (by intro u hu; simp at hu; subst hu; rfl) (by omega) (by omega) (by omega) (by omega) ?_; intro g4 c4 w10 hown7 hgr7 hor7; have hb7 := below_of_growX (B := g + 3) (growX_of_grownBy hgr7) (fun k hk => ⟨by omega, fun e => by have := (HD6.out.b.lt k e).1; omega⟩); have hs7 := hs6.upB hb7; have HG7 := Lib.hid hgr7; have HO7 := Lib.hid hown7; have HR7 := Lib.hid hor7; have bn := hs7.n; have cn0 := bn.cell 0 _ rfl; have cn3 := bn.cell 3 _ rfl; have fn := bn.free; clear bn; have HS7 := Lib.hid hs7; clear hs6 hs7 hgr7 hown7 hor7 hkb hc7 hb7))
        clear cn0 cn3 fn
        have hDl : (D ++ [(m2 : Int)]).length = k + 1 + 1 := by simp [HD.out]
        have hs8 := HS7.out.put 3 (.slice (some ⟨g4, 0, none⟩) (k + 1 + 1) c4)
        have hd7 := HD6.out.addB (nb' := (D ++ [(m2 : Int)]).length) (zs' := (D ++ [(m2 : Int)]).map I) HG7.out HR7.out (by rw [hDl, List.map_append]; exact HO7.out)
        have hd8 := hd7.grow (u' := w10.setCell ⟨g + 1 + 1, 3, none⟩ (.slice (some ⟨g4, 0, none⟩) (k + 1 + 1) c4)) (GrowX.of_growC (HS7.out.n.set1 3 _).2 (fun q i e => by have := e.1; omega))
        have hst : dstep L false ⟨K, V, D, ⟨ri, false⟩⟩ = ⟨K ++ [l], V, D ++ [(m2 : Int)], (rnum L r1 4).2⟩ := by
          unfold dstep
          rw [if_neg (by decide)]
          simp only [HR0.out, HR1.out, HL15.out, HL18.out]
        have hru := HRUN.out
        rw [show cn - k = (cn - (k + 1)) + 1 by omega, drun_go _ _ _ _ rfl, hst] at hru
        go_roundw
        case rel => exact ⟨k + 1, ⟨K ++ [l], V, D ++ [(m2 : Int)], (rnum L r1 4).2⟩, va1, .slice (some ⟨g4, 0, none⟩) (k + 1 + 1) c4, by omega, by go_num, HKL2.out, HVL.out, hDl, hru, hs8, hd8⟩
        case measure => simp [intOf]; omega
    · obtain rfl : k = cn := by omega
      cases bad with
      | true =>
        obtain ⟨rq, rm, rc, br, hrm, hrc, hrq⟩ := id hs.r
        have bz := hs.z
        have bn := hs.n
        have hend : (⟨K, V, D, ⟨ri, true⟩⟩ : DSt) = dend L false := by have := HRUN.out; rw [Nat.sub_self] at this; exact this
        obtain ⟨aa, ca, rfl⟩ := own_shape HR.out.a
        obtain ⟨ab, cb, rfl⟩ := own_shape HR.out.b
        obtain ⟨x, hxd⟩ : ∃ x, dnode L false = x := ⟨_, rfl⟩
        have hxk : x.keys = K := by rw [← hxd]; exact (congrArg DSt.K hend).symm
        have hxv : x.vals = [] := by rw [← hxd]; exact (congrArg DSt.V hend).symm.trans HVL.out
        have hxd2 : x.kids = D := by rw [← hxd]; exact (congrArg DSt.D hend).symm
        have hxl : x.leaf = false := by rw [← hxd]; rfl
        have hxn : x.next = (nx : Int) := by rw [← hxd]; show (((dnext L).1 : Nat) : Int) = _; rw [HNX.out]
        have hsm : x.small := by rw [← hxd]; exact dnode_small (by rw [HL.out]; decide) false
        have hNA : RefAt wr (.slice aa K.length ca) (.slice none 0 0) (.slice ab D.length cb) x := ⟨by rw [hxk]; exact Reads.of_own HR.out.a, by rw [hxv]; exact Reads.empty, by rw [hxd2]; exact Reads.of_own HR.out.b⟩
        have HNA := Lib.hid hNA
        have HXK := Lib.hid hxk
        have HXV := Lib.hid hxv
        have HXZ := Lib.hid hxd2
        have HXL := Lib.hid hxl
        have HXN := Lib.hid hxn
        have HXD := Lib.hid hxd
        have HEND := Lib.hid hend
        clear hxk hxv hxd2 hxl hxn hNA hxd hend
        have cr0 := br.cell 0 _ rfl
        have cr1 := br.cell 1 _ rfl
        have fr := br.free
        have cn0 := bn.cell 0 _ rfl
        have cn1 := bn.cell 1 _ rfl
        have cn2 := bn.cell 2 _ rfl
        have cn3 := bn.cell 3 _ rfl
        have cn4 := bn.cell 4 _ rfl
        have fn := bn.free
        go_wp2_with fail
        clear cr0 cr1 fr
        clear cn0 cn1 cn2 cn3 cn4 fn
        refine (renc_any x hsm _ _ _ wr HNA.out false (nx : Int) HXL.out HXN.out).mono ?_
        rintro e w6 ⟨v, er, rfl, hb6, hcase⟩
        replace hs := hs.upB (hb6.mono hs.size)
        have bz := hs.z
        have hv1 : v.oneCell' = true := by rcases hcase with ⟨_, _, rfl⟩ | ⟨_, _, _, rfl⟩ | ⟨_, _, _, _, _, rfl, _⟩ <;> rfl
        obtain ⟨rq, rm, rc, br, hrm, hrc, hrq⟩ := id hs.r
        clear hcase
        have cr0 := br.cell 0 _ rfl
        have cr1 := br.cell 1 _ rfl
        have fr := br.free
        have cz0 := bz.cell 0 _ rfl
        have cz1 := bz.cell 1 _ rfl
        have cz2 := bz.cell 2 _ rfl
        have cz3 := bz.cell 3 _ rfl
        have cz4 := bz.cell 4 _ rfl
        have fz := bz.free
        go_wp2
        have hz5 := bz.set5 (.bool false) (.slice none 0 0) (.slice none 0 0) (.slice none 0 0) (.int .i64 0)
        refine bodyPost_ret (v := .tuple #[zeroN, .bool false]) (by simp [results, Try.results18, go_sem, zeroN, cz0, cz1, cz2, cz3, cz4]) rfl ?_
        refine ⟨hs.below.trans (hz5.2.below (fun k hk => ⟨by have := hs.size; have := hs.le; omega, fun _ => by have := hs.le; omega⟩)), .inr ⟨dec_no H0.out ?_, rfl⟩⟩
        intro hd
        have h1 := hd.1
        rw [← HEND.out] at h1
        cases h1
      | false =>
        obtain ⟨rq, rm, rc, br, hrm, hrc, hrq⟩ := id hs.r
        have bz := hs.z
        have bn := hs.n
        have hend : (⟨K, V, D, ⟨ri, false⟩⟩ : DSt) = dend L false := by have := HRUN.out; rw [Nat.sub_self] at this; exact this
        obtain ⟨aa, ca, rfl⟩ := own_shape HR.out.a
        obtain ⟨ab, cb, rfl⟩ := own_shape HR.out.b
        obtain ⟨x, hxd⟩ : ∃ x, dnode L false = x := ⟨_, rfl⟩
        have hxk : x.keys = K := by rw [← hxd]; exact (congrArg DSt.K hend).symm
        have hxv : x.vals = [] := by rw [← hxd]; exact (congrArg DSt.V hend).symm.trans HVL.out
        have hxd2 : x.kids = D := by rw [← hxd]; exact (congrArg DSt.D hend).symm
        have hxl : x.leaf = false := by rw [← hxd]; rfl
        have hxn : x.next = (nx : Int) := by rw [← hxd]; show (((dnext L).1 : Nat) : Int) = _; rw [HNX.out]
        have hsm : x.small := by rw [← hxd]; exact dnode_small (by rw [HL.out]; decide) false
        have hNA : RefAt wr (.slice aa K.length ca) (.slice none 0 0) (.slice ab D.length cb) x := ⟨by rw [hxk]; exact Reads.of_own HR.out.a, by rw [hxv]; exact Reads.empty, by rw [hxd2]; exact Reads.of_own HR.out.b⟩
        have HNA := Lib.hid hNA
        have HXK := Lib.hid hxk
        have HXV := Lib.hid hxv
        have HXZ := Lib.hid hxd2
        have HXL := Lib.hid hxl
        have HXN := Lib.hid hxn
        have HXD := Lib.hid hxd
        have HEND := Lib.hid hend
        clear hxk hxv hxd2 hxl hxn hNA hxd hend
        have cr0 := br.cell 0 _ rfl
        have cr1 := br.cell 1 _ rfl
        have fr := br.free
        have cn0 := bn.cell 0 _ rfl
        have cn1 := bn.cell 1 _ rfl
        have cn2 := bn.cell 2 _ rfl
        have cn3 := bn.cell 3 _ rfl
        have cn4 := bn.cell 4 _ rfl
        have fn := bn.free
        go_wp2_with fail
        clear cr0 cr1 fr
        clear cn0 cn1 cn2 cn3 cn4 fn
        refine (renc_any x hsm _ _ _ wr HNA.out false (nx : Int) HXL.out HXN.out).mono ?_
        rintro e w6 ⟨v, er, rfl, hb6, hcase⟩
        replace hs := hs.upB (hb6.mono hs.size)
        have bz := hs.z
        have hv1 : v.oneCell' = true := by rcases hcase with ⟨_, _, rfl⟩ | ⟨_, _, _, rfl⟩ | ⟨_, _, _, _, _, rfl, _⟩ <;> rfl
        obtain ⟨rq, rm, rc, br, hrm, hrc, hrq⟩ := id hs.r
        rcases hcase with ⟨hnf, rfl, rfl⟩ | ⟨hf, hbig, rfl, rfl⟩ | ⟨hf, hle5, rfl, hrd⟩
        · have HNF := Lib.hid hnf
          clear hnf
          have cr0 := br.cell 0 _ rfl
          have cr1 := br.cell 1 _ rfl
          have fr := br.free
          have cz0 := bz.cell 0 _ rfl
          have cz1 := bz.cell 1 _ rfl
          have cz2 := bz.cell 2 _ rfl
          have cz3 := bz.cell 3 _ rfl
          have cz4 := bz.cell 4 _ rfl
          have fz := bz.free
          go_wp2
          have hz5 := bz.set5 (.bool false) (.slice none 0 0) (.slice none 0 0) (.slice none 0 0) (.int .i64 0)
          refine bodyPost_ret (v := .tuple #[zeroN, .bool false]) (by simp [results, Try.results18, go_sem, zeroN, cz0, cz1, cz2, cz3, cz4]) rfl ?_
          refine ⟨hs.below.trans (hz5.2.below (fun k hk => ⟨by have := hs.size; have := hs.le; omega, fun _ => by have := hs.le; omega⟩)), .inr ⟨dec_no H0.out ?_, rfl⟩⟩
          intro hd
          exact HNF.out (HXD.out ▸ hd.2.1)
        · have HBIG := Lib.hid hbig
          clear hbig
          have cr0 := br.cell 0 _ rfl
          have cr1 := br.cell 1 _ rfl
          have fr := br.free
          have cz0 := bz.cell 0 _ rfl
          have cz1 := bz.cell 1 _ rfl
          have cz2 := bz.cell 2 _ rfl
          have cz3 := bz.cell 3 _ rfl
          have cz4 := bz.cell 4 _ rfl
          have fz := bz.free
          go_wp2
          have hz5 := bz.set5 (.bool false) (.slice none 0 0) (.slice none 0 0) (.slice none 0 0) (.int .i64 0)
          refine bodyPost_ret (v := .tuple #[zeroN, .bool false]) (by simp [results, Try.results18, go_sem, zeroN, cz0, cz1, cz2, cz3, cz4]) rfl ?_
          refine ⟨hs.below.trans (hz5.2.below (fun k hk => ⟨by have := hs.size; have := hs.le; omega, fun _ => by have := hs.le; omega⟩)), .inr ⟨dec_no H0.out ?_, rfl⟩⟩
          intro hd
          have h1 := hd.2.2.1
          rw [HXD.out] at h1
          have := HBIG.out
          omega
        · have hpr : Reads 1 w6 (.slice (some ⟨b, o, none⟩) 504 c) 504 (L.map B) := by
            obtain ⟨_, _, _, _, h2⟩ := Part.mk' (b := b) (o := o) (q := o) (k := 504) (c := c) (i := 0) (L := L) (by rw [HL.out]; exact Nat.le_refl _) hc (fun _ => rfl)
            have h3 := h2 w6 hs.l
            rw [List.drop_zero, List.take_of_length_le (by rw [HL.out]; exact Nat.le_refl _), HL.out] at h3
            exact h3
          have cv1 := run_str_reads (P := Try.prog) (src := 28) (dst := 9) Try.underlying28 Try.underlying5 Try.underlying9 _ hrd
          have cv2 := run_str_reads (P := Try.prog) (src := 28) (dst := 9) Try.underlying28 Try.underlying5 Try.underlying9 _ hpr
          have HF := Lib.hid hf
          have HLE := Lib.hid hle5
          clear hrd hpr hf hle5
          obtain ⟨pg, hpg⟩ : ∃ p, page x = p := ⟨_, rfl⟩
          rw [hpg] at cv1
          have HPG := Lib.hid hpg
          clear hpg
          have bn := hs.n
          have cr0 := br.cell 0 _ rfl
          have cr1 := br.cell 1 _ rfl
          have fr := br.free
          have cn0 := bn.cell 0 _ rfl
          have cn1 := bn.cell 1 _ rfl
          have cn2 := bn.cell 2 _ rfl
          have cn3 := bn.cell 3 _ rfl
          have cn4 := bn.cell 4 _ rfl
          have fn := bn.free
          by_cases hpe : pg = L
          · have hpe2 : (!(pg == L)) = false := by simp [hpe]
            have HPE := Lib.hid hpe
            clear hpe
            have hz5 := bz.set5 (.bool false) (.slice aa K.length ca) (.slice none 0 0) (.slice ab D.length cb) (.int .i64 (nx : Int))
            have HGX := Lib.hid (((GrowX.of_grow (X := fun q => q < g + 3) hb6)).trans (GrowX.of_growC hz5.2 (fun q i e => by omega)))
            have HBF := Lib.hid (hs.below.trans (hz5.2.below (B := w.heap.size) (fun k hk => ⟨by have := hs.size; have := hs.le; omega, fun _ => by have := hs.le; omega⟩)))
            clear hz5
            have cz0 := bz.cell 0 _ rfl
            have cz1 := bz.cell 1 _ rfl
            have cz2 := bz.cell 2 _ rfl
            have cz3 := bz.cell 3 _ rfl
            have cz4 := bz.cell 4 _ rfl
            have fz := bz.free
            go_wp2
            refine bodyPost_ret (v := .tuple #[.agg #[.bool false, .slice aa K.length ca, .slice none 0 0, .slice ab D.length cb, .int .i64 (nx : Int)], .bool true]) (by simp [results, Try.results18, go_sem, cz0, cz1, cz2, cz3, cz4]) rfl ?_
            have hdF := HR.out.grow HGX.out
            refine ⟨HBF.out, .inl ⟨false, ⟨HL.out, H0.out, ⟨by rw [← HEND.out], by rw [HXD.out]; exact HF.out, by rw [HXD.out]; exact HLE.out, by rw [HXD.out, HPG.out]; exact HPE.out⟩⟩, _, _, _, by rw [HNX.out], ?_⟩⟩
            rw [HXD.out]
            exact ⟨by rw [HXK.out]; exact Reads.of_own hdF.a, by rw [HXV.out]; exact Reads.empty, by rw [HXZ.out]; exact Reads.of_own hdF.b⟩
          · have hpe2 : (!(pg == L)) = true := by simp [hpe]
            have HPE := Lib.hid hpe
            clear hpe
            have cz0 := bz.cell 0 _ rfl
            have cz1 := bz.cell 1 _ rfl
            have cz2 := bz.cell 2 _ rfl
            have cz3 := bz.cell 3 _ rfl
            have cz4 := bz.cell 4 _ rfl
            have fz := bz.free
            go_wp2
            have hz5 := bz.set5 (.bool false) (.slice none 0 0) (.slice none 0 0) (.slice none 0 0) (.int .i64 0)
            refine bodyPost_ret (v := .tuple #[zeroN, .bool false]) (by simp [results, Try.results18, go_sem, zeroN, cz0, cz1, cz2, cz3, cz4]) rfl ?_
            refine ⟨hs.below.trans (hz5.2.below (fun k hk => ⟨by have := hs.size; have := hs.le; omega, fun _ => by have := hs.le; omega⟩)), .inr ⟨dec_no H0.out ?_, rfl⟩⟩
            intro hd
            have h1 := hd.2.2.2
            rw [HXD.out, HPG.out] at h1
            exact HPE.out h1

end Go.Proofs.Ytfbblgcdggpehaa

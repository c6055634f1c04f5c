/- What To answers: the reference's node. Conditions: short lists. -/
import Derived.Test.YtfbblgcdggpehaaNSplit
namespace Go.Proofs.Ytfbblgcdggpehaa
set_option linter.unusedSimpArgs false
set_option linter.unusedVariables false
open Go.RowKit

def S (l : List UInt8) : Value := .string ⟨l.toArray⟩
theorem Ss_one (L : List (List UInt8)) : ∀ u ∈ L.map S, u.oneCell' = true := by
  intro u hu; obtain ⟨c, _, rfl⟩ := List.mem_map.1 hu; rfl
theorem sl_strs : SliceOf Try.prog 36 9 (.string ⟨#[]⟩) 1 16 := ⟨Try.underlying36, by kernel_rfl, rfl, by decide⟩

/-- the three lists of a reference's node -/
structure RefAt (w : World) (ks vs ds : Value) (x : Nd) : Prop where
  keys : Reads 1 w ks x.keys.length (x.keys.map S)
  vals : Reads 1 w vs x.vals.length (x.vals.map S)
  kids : Reads 1 w ds x.kids.length (x.kids.map I)

theorem RefAt.below {w w' : World} {ks vs ds : Value} {x : Nd} {B0 : Nat} (h : RefAt w ks vs ds x) (hb : Below B0 w w') (hB : w.heap.size ≤ B0) : RefAt w' ks vs ds x :=
  ⟨h.keys.below hb hB, h.vals.below hb hB, h.kids.below hb hB⟩

/-- the answer of To -/
def ToEnd (x : Nd) (ds : Value) (w : World) (e : Ending) (w' : World) : Prop :=
  ∃ rk rv, e = .returned (nodeV x rk rv ds) ∧ RefAt w' rk rv ds x ∧ Below w.heap.size w w'

theorem GrowX.then_below {X : Nat → Prop} {B0 : Nat} {a b c : World} (h : GrowX X a b) (k : Below B0 b c) (hB : a.heap.size ≤ B0) : GrowX X a c :=
  ⟨k.os.trans h.os, k.tape.trans h.tape, k.output.trans h.output, Nat.le_trans h.size k.size, fun i hi hx => (k.block i (Nat.lt_of_lt_of_le hi hB)).trans (h.block i hi hx)⟩

theorem own_one {w : World} {base e K n : Nat} {v : Value} {xs : List Value} (h : w.ownsRow base e K v n xs) : v.oneCell' = true := by
  rcases h.2 with ⟨rfl, _⟩ | ⟨g, cap, cur, rfl, _⟩ <;> rfl
theorem own_shape {w : World} {base e K n : Nat} {v : Value} {xs : List Value} (h : w.ownsRow base e K v n xs) : ∃ a c, v = .slice a n c := by
  rcases h.2 with ⟨rfl, rfl⟩ | ⟨g, cap, cur, rfl, _⟩
  · exact ⟨_, _, rfl⟩
  · exact ⟨_, _, rfl⟩

def WTo9 (g nk kc nv vc nd dc : Nat) (ka va da : Option Addr) (b : Bool) (n : Int) (kb ko k : Nat) (rk rv : Value) (a0 : Option Addr) (c0 m : Nat) (l : List UInt8) (j b o : Nat) : Prop := False
def PTo9 (g nk kc nv vc nd dc : Nat) (ka va da : Option Addr) (b : Bool) (n : Int) (kb ko k : Nat) (rk rv : Value) (a0 : Option Addr) (c0 m : Nat) (l : List UInt8) (i : Nat) (v : Value) (lo hi : Nat) (w : World) : Prop :=
  match i with
  | 0 => v = .pointer (some ⟨g + 1 + 1, 2, none⟩)
  | 1 => v = rv
  | 2 => v = .pointer (some ⟨g, 2, none⟩)
  | 3 => v = .slice va nv vc
  | 4 => v = .int .i64 k
  | 5 => v = .pointer (some ⟨kb, ko + k, none⟩)
  | 6 => v = .slice a0 m c0
  | 7 => v = .string ⟨l.toArray⟩
  | 8 => v = .slice (some ⟨lo, 0, none⟩) 1 1 ∧ lo < w.heap.size ∧ w.cell? ⟨lo, 0, none⟩ = some (.string ⟨l.toArray⟩)
  | _ => True
theorem PTo9_stable (g nk kc nv vc nd dc : Nat) (ka va da : Option Addr) (b : Bool) (n : Int) (kb ko k : Nat) (rk rv : Value) (a0 : Option Addr) (c0 m : Nat) (l : List UInt8)  : ∀ i j, i < 9 → j < 9 → j ≠ i → j ∉ ([[], [0], [], [2], [], [2, 3, 4], [2, 3, 4, 5], [2, 3, 4, 5, 6], [2, 3, 4, 5, 6, 7]] : List (List Nat)).getD i [] → ∀ v lo hi w w', PTo9 g nk kc nv vc nd dc ka va da b n kb ko k rk rv a0 c0 m l i v lo hi w → GrowC (WTo9 g nk kc nv vc nd dc ka va da b n kb ko k rk rv a0 c0 m l j) w w' → PTo9 g nk kc nv vc nd dc ka va da b n kb ko k rk rv a0 c0 m l i v lo hi w' := by
  intro i j hi hj hne hbs v lo hj2 w w' h hg
  match i, hi with
  | 0, _ =>
    simp only [PTo9] at h ⊢
    exact h
  | 1, _ =>
    simp only [PTo9] at h ⊢
    exact h
  | 2, _ =>
    simp only [PTo9] at h ⊢
    exact h
  | 3, _ =>
    simp only [PTo9] at h ⊢
    exact h
  | 4, _ =>
    simp only [PTo9] at h ⊢
    exact h
  | 5, _ =>
    simp only [PTo9] at h ⊢
    exact h
  | 6, _ =>
    simp only [PTo9] at h ⊢
    exact h
  | 7, _ =>
    simp only [PTo9] at h ⊢
    exact h
  | 8, _ =>
    simp only [PTo9] at h ⊢
    exact ⟨h.1, Nat.lt_of_lt_of_le h.2.1 hg.size, (hg.cell _ _ h.2.1 (fun hw => hw)).trans h.2.2⟩
  | (q + 9), hq => exact absurd hq (by omega)
def WTo5 (g nk kc nv vc nd dc : Nat) (ka va da : Option Addr) (b : Bool) (n : Int) (kb ko k : Nat) (rk rv : Value) (a0 : Option Addr) (c0 m : Nat) (l : List UInt8) (j b o : Nat) : Prop := False
def PTo5 (g nk kc nv vc nd dc : Nat) (ka va da : Option Addr) (b : Bool) (n : Int) (kb ko k : Nat) (rk rv : Value) (a0 : Option Addr) (c0 m : Nat) (l : List UInt8) (i : Nat) (v : Value) (lo hi : Nat) (w : World) : Prop :=
  match i with
  | 0 => v = .pointer (some ⟨g + 1 + 1, 1, none⟩)
  | 1 => v = rk
  | 2 => v = .pointer (some ⟨g, 1, none⟩)
  | 3 => v = .slice ka nk kc
  | 4 => v = .int .i64 k
  | 5 => v = .pointer (some ⟨kb, ko + k, none⟩)
  | 6 => v = .slice a0 m c0
  | 7 => v = .string ⟨l.toArray⟩
  | 8 => v = .slice (some ⟨lo, 0, none⟩) 1 1 ∧ lo < w.heap.size ∧ w.cell? ⟨lo, 0, none⟩ = some (.string ⟨l.toArray⟩)
  | _ => True
theorem PTo5_stable (g nk kc nv vc nd dc : Nat) (ka va da : Option Addr) (b : Bool) (n : Int) (kb ko k : Nat) (rk rv : Value) (a0 : Option Addr) (c0 m : Nat) (l : List UInt8)  : ∀ i j, i < 9 → j < 9 → j ≠ i → j ∉ ([[], [0], [], [2], [], [2, 3, 4], [2, 3, 4, 5], [2, 3, 4, 5, 6], [2, 3, 4, 5, 6, 7]] : List (List Nat)).getD i [] → ∀ v lo hi w w', PTo5 g nk kc nv vc nd dc ka va da b n kb ko k rk rv a0 c0 m l i v lo hi w → GrowC (WTo5 g nk kc nv vc nd dc ka va da b n kb ko k rk rv a0 c0 m l j) w w' → PTo5 g nk kc nv vc nd dc ka va da b n kb ko k rk rv a0 c0 m l i v lo hi w' := by
  intro i j hi hj hne hbs v lo hj2 w w' h hg
  match i, hi with
  | 0, _ =>
    simp only [PTo5] at h ⊢
    exact h
  | 1, _ =>
    simp only [PTo5] at h ⊢
    exact h
  | 2, _ =>
    simp only [PTo5] at h ⊢
    exact h
  | 3, _ =>
    simp only [PTo5] at h ⊢
    exact h
  | 4, _ =>
    simp only [PTo5] at h ⊢
    exact h
  | 5, _ =>
    simp only [PTo5] at h ⊢
    exact h
  | 6, _ =>
    simp only [PTo5] at h ⊢
    exact h
  | 7, _ =>
    simp only [PTo5] at h ⊢
    exact h
  | 8, _ =>
    simp only [PTo5] at h ⊢
    exact ⟨h.1, Nat.lt_of_lt_of_le h.2.1 hg.size, (hg.cell _ _ h.2.1 (fun hw => hw)).trans h.2.2⟩
  | (q + 9), hq => exact absurd hq (by omega)

set_option maxRecDepth 100000 in
set_option maxHeartbeats 3200000 in
theorem to_any (x : Nd) (ks vs ds : Value) (w : World) (hx : NodeAt w ks vs ds x) (hok : x.ok) (b : Bool) (n : Int) (hb : x.leaf = b) (hn : x.next = n) :
    Calls Try.prog 15 #[.agg #[.bool b, ks, vs, ds, .int .i64 n]] w fun e w' => ToEnd x ds w e w' := by
  obtain ⟨_, _, da, nd, dc, rfl⟩ := hx.shape
  obtain ⟨_, ⟨ka, kc, rfl, _⟩, _⟩ := id hx.keys
  obtain ⟨_, ⟨va, vc, rfl, _⟩, _⟩ := id hx.vals
  obtain ⟨nk, hnk⟩ : ∃ nk, x.keys.length = nk := ⟨_, rfl⟩
  obtain ⟨nv, hnv⟩ : ∃ nv, x.vals.length = nv := ⟨_, rfl⟩
  have hkb : nk ≤ 1099511627776 := hnk ▸ hok.keys
  have hvb : nv ≤ 1099511627776 := hnv ▸ hok.vals
  rw [hnk, hnv] at hx ⊢
  obtain ⟨g, hg0⟩ : ∃ g, w.heap.size = g := ⟨_, rfl⟩
  have ba := ((Box.new w #[.bool b, .slice ka nk kc, .slice va nv vc, .slice da nd dc, .int .i64 n] 25 hg0.symm).alloc (.cells #[.bool false, .slice none 0 0, .slice none 0 0, .slice none 0 0, .int .i64 0] 38)).alloc (.cells #[.bool b, .slice none 0 0, .slice none 0 0, .slice da nd dc, .int .i64 n] 38)
  have bb := (Box.new (w.alloc (.cells #[.bool b, .slice ka nk kc, .slice va nv vc, .slice da nd dc, .int .i64 n] 25)) #[.bool false, .slice none 0 0, .slice none 0 0, .slice none 0 0, .int .i64 0] 38 (g := g + 1) (by simp; omega)).alloc (.cells #[.bool b, .slice none 0 0, .slice none 0 0, .slice da nd dc, .int .i64 n] 38)
  have bc := Box.new ((w.alloc (.cells #[.bool b, .slice ka nk kc, .slice va nv vc, .slice da nd dc, .int .i64 n] 25)).alloc (.cells #[.bool false, .slice none 0 0, .slice none 0 0, .slice none 0 0, .int .i64 0] 38)) #[.bool b, .slice none 0 0, .slice none 0 0, .slice da nd dc, .int .i64 n] 38 (g := g + 1 + 1) (by simp; omega)
  have hB := (((Below.refl w.heap.size w).alloc (Nat.le_refl _) (.cells #[.bool b, .slice ka nk kc, .slice va nv vc, .slice da nd dc, .int .i64 n] 25)).alloc (by simp) (.cells #[.bool false, .slice none 0 0, .slice none 0 0, .slice none 0 0, .int .i64 0] 38)).alloc (by simp; omega) (.cells #[.bool b, .slice none 0 0, .slice none 0 0, .slice da nd dc, .int .i64 n] 38)
  have hs : ((((w.alloc (.cells #[.bool b, .slice ka nk kc, .slice va nv vc, .slice da nd dc, .int .i64 n] 25)).alloc (.cells #[.bool false, .slice none 0 0, .slice none 0 0, .slice none 0 0, .int .i64 0] 38)).alloc (.cells #[.bool b, .slice none 0 0, .slice none 0 0, .slice da nd dc, .int .i64 n] 38))).heap.size = g + 3 := by simp; omega
  have HG := Lib.hid hg0
  have HNK := Lib.hid hnk
  have HNV := Lib.hid hnv
  have HX := Lib.hid hx
  have HB := Lib.hid hb
  have HN := Lib.hid hn
  have HW := Lib.hid (⟨ba, bb, bc, hB, hs⟩ : Box (((w.alloc (.cells #[.bool b, .slice ka nk kc, .slice va nv vc, .slice da nd dc, .int .i64 n] 25)).alloc (.cells #[.bool false, .slice none 0 0, .slice none 0 0, .slice none 0 0, .int .i64 0] 38)).alloc (.cells #[.bool b, .slice none 0 0, .slice none 0 0, .slice da nd dc, .int .i64 n] 38)) g [.bool b, .slice ka nk kc, .slice va nv vc, .slice da nd dc, .int .i64 n] ∧ Box (((w.alloc (.cells #[.bool b, .slice ka nk kc, .slice va nv vc, .slice da nd dc, .int .i64 n] 25)).alloc (.cells #[.bool false, .slice none 0 0, .slice none 0 0, .slice none 0 0, .int .i64 0] 38)).alloc (.cells #[.bool b, .slice none 0 0, .slice none 0 0, .slice da nd dc, .int .i64 n] 38)) (g + 1) [.bool false, .slice none 0 0, .slice none 0 0, .slice none 0 0, .int .i64 0] ∧ Box (((w.alloc (.cells #[.bool b, .slice ka nk kc, .slice va nv vc, .slice da nd dc, .int .i64 n] 25)).alloc (.cells #[.bool false, .slice none 0 0, .slice none 0 0, .slice none 0 0, .int .i64 0] 38)).alloc (.cells #[.bool b, .slice none 0 0, .slice none 0 0, .slice da nd dc, .int .i64 n] 38)) (g + 1 + 1) [.bool b, .slice none 0 0, .slice none 0 0, .slice da nd dc, .int .i64 n] ∧ Below w.heap.size w (((w.alloc (.cells #[.bool b, .slice ka nk kc, .slice va nv vc, .slice da nd dc, .int .i64 n] 25)).alloc (.cells #[.bool false, .slice none 0 0, .slice none 0 0, .slice none 0 0, .int .i64 0] 38)).alloc (.cells #[.bool b, .slice none 0 0, .slice none 0 0, .slice da nd dc, .int .i64 n] 38)) ∧ (((w.alloc (.cells #[.bool b, .slice ka nk kc, .slice va nv vc, .slice da nd dc, .int .i64 n] 25)).alloc (.cells #[.bool false, .slice none 0 0, .slice none 0 0, .slice none 0 0, .int .i64 0] 38)).alloc (.cells #[.bool b, .slice none 0 0, .slice none 0 0, .slice da nd dc, .int .i64 n] 38)).heap.size = g + 3)
  clear hx hb hn hnk hnv ba bb bc hB hs hg0
  go_enter Try.func15, Try.ntmps15
  go_wp2_with fail
  have hgw : w.heap.size ≤ g := Nat.le_of_eq HG.out
  rw [HG.out]
  refine wp_world (fun w0 => Box w0 g [.bool b, .slice ka nk kc, .slice va nv vc, .slice da nd dc, .int .i64 n] ∧ Box w0 (g + 1) [.bool false, .slice none 0 0, .slice none 0 0, .slice none 0 0, .int .i64 0] ∧ Box w0 (g + 1 + 1) [.bool b, .slice none 0 0, .slice none 0 0, .slice da nd dc, .int .i64 n] ∧ Below w.heap.size w w0 ∧ w0.heap.size = g + 3) HW.out ?_
  clear HW
  rintro w0 ⟨ba, bb, bc, hB, hs0⟩
  have hs3 : g + 3 ≤ w0.heap.size := Nat.le_of_eq hs0.symm
  clear hs0
  go_loopw [4] (fun i wr => ∃ k rk, k ≤ nk ∧ i = .int .i64 k ∧ wr.ownsRow (g + 3) 9 1 rk k ((x.keys.take k).map S) ∧ (Box wr g [.bool b, .slice ka nk kc, .slice va nv vc, .slice da nd dc, .int .i64 n] ∧ Box wr (g + 1) [.bool false, .slice none 0 0, .slice none 0 0, .slice none 0 0, .int .i64 0] ∧ Box wr (g + 1 + 1) [.bool b, rk, .slice none 0 0, .slice da nd dc, .int .i64 n] ∧ Below w.heap.size w wr ∧ g + 3 ≤ wr.heap.size)) (fun i _ => nk - (intOf i).toNat)
  case atStart => exact ⟨0, _, Nat.zero_le _, rfl, World.ownsRow_nil _ _ _ _, ba, bb, bc, hB, hs3⟩
  case round =>
    clear ba bb bc hB hs3
    obtain ⟨k, rk, hk, rfl, hown, ba, bb, bc, hB, hs3⟩ := hrel
    have ork := own_one hown
    by_cases hlt : k < nk
    · have HXw := Lib.hid (HX.out.below hB (Nat.le_refl _))
      obtain ⟨kb, ko, hka⟩ := HXw.out.keys.some_addr (by rw [HNK.out]; omega)
      have hx2 := HXw.out.keys
      rw [hka] at hx2
      obtain ⟨a0, c0, hcs, hkb2, hrs⟩ := hx2.at k (by rw [HNK.out]; exact hlt)
      have HKA := Lib.hid hka
      have hkl : k < x.keys.length := by rw [HNK.out]; exact hlt
      have HTK := Lib.hid (List.take_succ_eq_append_getElem hkl)
      generalize x.keys[k] = l at *
      obtain ⟨m, hm⟩ : ∃ m, l.length = m := ⟨_, rfl⟩
      rw [hm] at hcs hrs
      have HRS := Lib.hid hrs
      clear hka hx2 hrs hm hkl
      have ca0 := ba.cell 0 _ rfl
      have ca1 := ba.cell 1 _ rfl
      have ca2 := ba.cell 2 _ rfl
      have ca3 := ba.cell 3 _ rfl
      have ca4 := ba.cell 4 _ rfl
      have fa := ba.free
      have cc0 := bc.cell 0 _ rfl
      have cc1 := bc.cell 1 _ rfl
      have cc2 := bc.cell 2 _ rfl
      have cc3 := bc.cell 3 _ rfl
      have cc4 := bc.cell 4 _ rfl
      have fc := bc.free
      go_wp2_with fail
      clear ca0 ca1 ca2 ca3 ca4 fa
      clear cc0 cc1 cc2 cc3 cc4 fc
      refine wp_region_partsDC (WTo5 g nk kc nv vc nd dc ka va da b n kb ko k rk (.slice none 0 0) a0 c0 m l) 9 [[], [0], [], [2], [], [2, 3, 4], [2, 3, 4, 5], [2, 3, 4, 5, 6], [2, 3, 4, 5, 6, 7]] [some 20, some 21, some 22, some 23, some 24, some 25, some 26, some 27, some 28, some 29, some 30, none] (by kernel_rfl) (by kernel_rfl) rfl (PTo5 g nk kc nv vc nd dc ka va da b n kb ko k rk (.slice none 0 0) a0 c0 m l) (PTo5_stable g nk kc nv vc nd dc ka va da b n kb ko k rk (.slice none 0 0) a0 c0 m l ) ?pTo5 ?_
      case pTo5 =>
        intro i hi o ho vs lo hx_ w' hg hp
        match i, hi with
        | 0, _ =>
          obtain rfl := Option.some.inj ho
          clear ho
          simp only [actsD, List.getD_cons_zero, List.getD_cons_succ, List.foldl_cons, List.foldl_nil, Act.put, List.setIfInBounds_toArray, List.set_cons_succ, List.set_cons_zero]
          have hsz := hg.size
          have hgB : Below wr.heap.size wr w' := hg.below (fun k hk => ⟨hk, fun o => by rintro ⟨j, _, _, _, hw⟩; exact False.elim hw⟩)
          go_wp2
          exact ⟨_, rfl, GrowC.refl _, rfl⟩
        | 1, _ =>
          obtain rfl := Option.some.inj ho
          clear ho
          simp only [actsD, List.getD_cons_zero, List.getD_cons_succ, List.foldl_cons, List.foldl_nil, Act.put, List.setIfInBounds_toArray, List.set_cons_succ, List.set_cons_zero]
          obtain ⟨_, _, _, h0⟩ := hp 0 (by simp)
          simp only [PTo5] at h0
          have hsz := hg.size
          have hgB : Below wr.heap.size wr w' := hg.below (fun k hk => ⟨hk, fun o => by rintro ⟨j, _, _, _, hw⟩; exact False.elim hw⟩)
          rw [h0]
          have e0 := (hg.cell (g + 1 + 1) 1 bc.lt (by rintro ⟨j, _, hne, hb, hw⟩; exact False.elim hw)).trans (bc.cell 1 _ rfl)
          go_wp2
          exact ⟨_, rfl, GrowC.refl _, rfl⟩
        | 2, _ =>
          obtain rfl := Option.some.inj ho
          clear ho
          simp only [actsD, List.getD_cons_zero, List.getD_cons_succ, List.foldl_cons, List.foldl_nil, Act.put, List.setIfInBounds_toArray, List.set_cons_succ, List.set_cons_zero]
          have hsz := hg.size
          have hgB : Below wr.heap.size wr w' := hg.below (fun k hk => ⟨hk, fun o => by rintro ⟨j, _, _, _, hw⟩; exact False.elim hw⟩)
          go_wp2
          exact ⟨_, rfl, GrowC.refl _, rfl⟩
        | 3, _ =>
          obtain rfl := Option.some.inj ho
          clear ho
          simp only [actsD, List.getD_cons_zero, List.getD_cons_succ, List.foldl_cons, List.foldl_nil, Act.put, List.setIfInBounds_toArray, List.set_cons_succ, List.set_cons_zero]
          obtain ⟨_, _, _, h2⟩ := hp 2 (by simp)
          simp only [PTo5] at h2
          have hsz := hg.size
          have hgB : Below wr.heap.size wr w' := hg.below (fun k hk => ⟨hk, fun o => by rintro ⟨j, _, _, _, hw⟩; exact False.elim hw⟩)
          rw [h2]
          have e0 := (hg.cell (g) 1 ba.lt (by rintro ⟨j, _, hne, hb, hw⟩; exact False.elim hw)).trans (ba.cell 1 _ rfl)
          go_wp2
          exact ⟨_, rfl, GrowC.refl _, rfl⟩
        | 4, _ =>
          obtain rfl := Option.some.inj ho
          clear ho
          simp only [actsD, List.getD_cons_zero, List.getD_cons_succ, List.foldl_cons, List.foldl_nil, Act.put, List.setIfInBounds_toArray, List.set_cons_succ, List.set_cons_zero]
          have hsz := hg.size
          have hgB : Below wr.heap.size wr w' := hg.below (fun k hk => ⟨hk, fun o => by rintro ⟨j, _, _, _, hw⟩; exact False.elim hw⟩)
          go_wp2
          exact ⟨_, rfl, GrowC.refl _, rfl⟩
        | 5, _ =>
          obtain rfl := Option.some.inj ho
          clear ho
          simp only [actsD, List.getD_cons_zero, List.getD_cons_succ, List.foldl_cons, List.foldl_nil, Act.put, List.setIfInBounds_toArray, List.set_cons_succ, List.set_cons_zero]
          obtain ⟨_, _, _, h3⟩ := hp 3 (by simp)
          simp only [PTo5] at h3
          obtain ⟨_, _, _, h4⟩ := hp 4 (by simp)
          simp only [PTo5] at h4
          have hsz := hg.size
          have hgB : Below wr.heap.size wr w' := hg.below (fun k hk => ⟨hk, fun o => by rintro ⟨j, _, _, _, hw⟩; exact False.elim hw⟩)
          rw [h3, h4]
          rw [HKA.out]
          go_wp2
          exact ⟨_, rfl, GrowC.refl _, rfl⟩
        | 6, _ =>
          obtain rfl := Option.some.inj ho
          clear ho
          simp only [actsD, List.getD_cons_zero, List.getD_cons_succ, List.foldl_cons, List.foldl_nil, Act.put, List.setIfInBounds_toArray, List.set_cons_succ, List.set_cons_zero]
          obtain ⟨_, _, _, h5⟩ := hp 5 (by simp)
          simp only [PTo5] at h5
          have hsz := hg.size
          have hgB : Below wr.heap.size wr w' := hg.below (fun k hk => ⟨hk, fun o => by rintro ⟨j, _, _, _, hw⟩; exact False.elim hw⟩)
          rw [h5]
          have e0 := (hgB.cell (p := ⟨kb, ko + k, none⟩) hkb2).trans hcs
          go_wp2
          exact ⟨_, rfl, GrowC.refl _, rfl⟩
        | 7, _ =>
          obtain rfl := Option.some.inj ho
          clear ho
          simp only [actsD, List.getD_cons_zero, List.getD_cons_succ, List.foldl_cons, List.foldl_nil, Act.put, List.setIfInBounds_toArray, List.set_cons_succ, List.set_cons_zero]
          obtain ⟨_, _, _, h6⟩ := hp 6 (by simp)
          simp only [PTo5] at h6
          have hsz := hg.size
          have hgB : Below wr.heap.size wr w' := hg.below (fun k hk => ⟨hk, fun o => by rintro ⟨j, _, _, _, hw⟩; exact False.elim hw⟩)
          rw [h6]
          go_wp2_with (first | (refine wpList_str_reads (.tmp 26) rfl rfl Try.underlying28 Try.underlying5 Try.underlying9 l rfl (HRS.out.below hgB (Nat.le_refl _)) ?_))
          exact ⟨_, rfl, GrowC.refl _, rfl⟩
        | 8, _ =>
          obtain rfl := Option.some.inj ho
          clear ho
          simp only [actsD, List.getD_cons_zero, List.getD_cons_succ, List.foldl_cons, List.foldl_nil, Act.put, List.setIfInBounds_toArray, List.set_cons_succ, List.set_cons_zero]
          obtain ⟨_, _, _, h7⟩ := hp 7 (by simp)
          simp only [PTo5] at h7
          have hsz := hg.size
          have hgB : Below wr.heap.size wr w' := hg.below (fun k hk => ⟨hk, fun o => by rintro ⟨j, _, _, _, hw⟩; exact False.elim hw⟩)
          rw [h7]
          have hbx := Box.new w' #[.string ⟨l.toArray⟩] 9 rfl
          go_wp2
          exact ⟨_, rfl, GrowC.of_grow ((Grow.refl _).alloc _), rfl, by simp, hbx.cell 0 _ rfl⟩
        | (q + 9), hq => exact absurd hq (by omega)
      intro vS lo hi w5 hg hp hd
      obtain ⟨_, _, _, h0⟩ := hp 0 (by omega)
      obtain ⟨_, _, _, h1⟩ := hp 1 (by omega)
      obtain ⟨_, _, _, h2⟩ := hp 2 (by omega)
      obtain ⟨_, _, _, h3⟩ := hp 3 (by omega)
      obtain ⟨_, _, _, h4⟩ := hp 4 (by omega)
      obtain ⟨_, _, _, h5⟩ := hp 5 (by omega)
      obtain ⟨_, _, _, h6⟩ := hp 6 (by omega)
      obtain ⟨_, _, _, h7⟩ := hp 7 (by omega)
      obtain ⟨_, _, _, h8⟩ := hp 8 (by omega)
      simp only [PTo5] at h0 h1 h2 h3 h4 h5 h6 h7 h8
      clear hp hd
      have hsz := hg.size
      replace ba := ba.grow hg (by intro i _; rintro ⟨j, _, hw⟩; exact False.elim hw)
      replace bb := bb.grow hg (by intro i _; rintro ⟨j, _, hw⟩; exact False.elim hw)
      replace bc := bc.grow hg (by intro i _; rintro ⟨j, _, hw⟩; exact False.elim hw)
      replace hB := hB.trans (hg.below (fun k hk => ⟨by omega, fun o => by rintro ⟨j, _, hw⟩; exact False.elim hw⟩))
      have hr : List.range 9 = [0, 1, 2, 3, 4, 5, 6, 7, 8] := rfl
      rw [hr]
      clear hr
      simp only [List.drop_succ_cons, List.drop_zero, List.drop_nil, actsD, List.getD_cons_zero, List.getD_cons_succ, List.foldl_cons, List.foldl_nil, Act.put, List.setIfInBounds_toArray, List.set_cons_succ, List.set_cons_zero, h0, h1, h2, h3, h4, h5, h6, h7]
      clear h0 h1 h2 h3 h4 h5 h6 h7
      obtain ⟨e8, hlt8, hc8⟩ := h8
      simp only [e8]
      have hown2 := own_growx (X := fun _ => False) hown (GrowX.of_growC hg (by rintro k o ⟨j, _, hw⟩; exact False.elim hw)) (fun _ _ h => h)
      clear hown e8
      replace hs3 : g + 3 ≤ w5.heap.size := by omega
      clear hg
      have cc0 := bc.cell 0 _ rfl
      have cc1 := bc.cell 1 _ rfl
      have cc2 := bc.cell 2 _ rfl
      have cc3 := bc.cell 3 _ rfl
      have cc4 := bc.cell 4 _ rfl
      have fc := bc.free
      go_wp2_with (first
        | (at_builtin; refine wpList_append_row sl_strs (.tmp 21) (.tmp 28) rfl rfl (base := (g + 3)) (W0 := w5) rfl hown2 (Below.refl _ _) rfl rfl (news := [S l]) (by intro j u hu; rw [Addr.add_lit]; cases j with | zero => simp at hu; subst hu; exact hc8 | succ j => simp at hu) (by intro u hu; simp at hu; subst hu; rfl) (by omega) (by omega) (by omega) (by omega) ?_; intro g4 cap4 w6 hown3 hbel hg4 hlt4 hle4; clear cc0 cc1 cc2 cc3 cc4 fc hown2 hc8 hlt8; have ba6 := ba.below' hbel (by omega); have bb6 := bb.below' hbel (by omega); have bc6 := bc.below' hbel (by omega); have cc0 := bc6.cell 0 _ rfl; have cc1 := bc6.cell 1 _ rfl; have cc2 := bc6.cell 2 _ rfl; have cc3 := bc6.cell 3 _ rfl; have cc4 := bc6.cell 4 _ rfl; have fc := bc6.free))
      obtain ⟨bc7, hgs⟩ := bc6.set1 1 (.slice (some ⟨g4, 0, none⟩) (k + 1) cap4)
      have hsb := hbel.size
      go_roundw
      case rel =>
        refine ⟨k + 1, _, by omega, by go_num, ?_, ba6.grow hgs (by intros; omega), bb6.grow hgs (by intros; omega), bc7, (hB.trans (hbel.mono (by omega))).trans (hgs.below (fun k hk => ⟨by omega, fun _ => by omega⟩)), by have := hgs.size; omega⟩
        rw [HTK.out, List.map_append]
        exact own_growx (X := fun k => k = g + 1 + 1) hown3 (GrowX.of_growC hgs (fun _ _ h => h.1)) (by intro gg h; simp [Value.ownBlock] at h; omega)
      case measure => simp [intOf]; omega
    · obtain rfl : nk = k := by omega
      have ca0 := ba.cell 0 _ rfl
      have ca1 := ba.cell 1 _ rfl
      have ca2 := ba.cell 2 _ rfl
      have ca3 := ba.cell 3 _ rfl
      have ca4 := ba.cell 4 _ rfl
      have fa := ba.free
      have cc0 := bc.cell 0 _ rfl
      have cc1 := bc.cell 1 _ rfl
      have cc2 := bc.cell 2 _ rfl
      have cc3 := bc.cell 3 _ rfl
      have cc4 := bc.cell 4 _ rfl
      have fc := bc.free
      go_wp2_with fail
      clear ca0 ca1 ca2 ca3 ca4 fa
      clear cc0 cc1 cc2 cc3 cc4 fc
      have hkeep := own_kept hown
      rw [List.take_of_length_le (by rw [HNK.out]; exact Nat.le_refl _)] at hkeep
      have HKEEP := Lib.hid hkeep
      clear hown hkeep
      obtain ⟨wB, rfl⟩ : ∃ wB : World, wB = wr := ⟨_, rfl⟩
      have hsB := hs3
      go_loopw [5] (fun i wr => ∃ k rv, k ≤ nv ∧ i = .int .i64 k ∧ wr.ownsRow wB.heap.size 9 1 rv k ((x.vals.take k).map S) ∧ (Box wr g [.bool b, .slice ka nk kc, .slice va nv vc, .slice da nd dc, .int .i64 n] ∧ Box wr (g + 1) [.bool false, .slice none 0 0, .slice none 0 0, .slice none 0 0, .int .i64 0] ∧ Box wr (g + 1 + 1) [.bool b, rk, rv, .slice da nd dc, .int .i64 n] ∧ Below w.heap.size w wr ∧ g + 3 ≤ wr.heap.size ∧ GrowX (fun k => k < g + 3) wB wr)) (fun i _ => nv - (intOf i).toNat)
      case atStart => exact ⟨0, _, Nat.zero_le _, rfl, World.ownsRow_nil _ _ _ _, ba, bb, bc, hB, hs3, GrowX.refl _⟩
      case round =>
        clear ba bb bc hB hs3
        obtain ⟨k, rv, hk, rfl, hown, ba, bb, bc, hB, hs3, hgx⟩ := hrel
        have ork := own_one hown
        by_cases hlt : k < nv
        · have HXw := Lib.hid (HX.out.below hB (Nat.le_refl _))
          obtain ⟨kb, ko, hka⟩ := HXw.out.vals.some_addr (by rw [HNV.out]; omega)
          have hx2 := HXw.out.vals
          rw [hka] at hx2
          obtain ⟨a0, c0, hcs, hkb2, hrs⟩ := hx2.at k (by rw [HNV.out]; exact hlt)
          have HKA := Lib.hid hka
          have hkl : k < x.vals.length := by rw [HNV.out]; exact hlt
          have HTK := Lib.hid (List.take_succ_eq_append_getElem hkl)
          generalize x.vals[k] = l at *
          obtain ⟨m, hm⟩ : ∃ m, l.length = m := ⟨_, rfl⟩
          rw [hm] at hcs hrs
          have HRS := Lib.hid hrs
          clear hka hx2 hrs hm hkl
          have ca0 := ba.cell 0 _ rfl
          have ca1 := ba.cell 1 _ rfl
          have ca2 := ba.cell 2 _ rfl
          have ca3 := ba.cell 3 _ rfl
          have ca4 := ba.cell 4 _ rfl
          have fa := ba.free
          have cc0 := bc.cell 0 _ rfl
          have cc1 := bc.cell 1 _ rfl
          have cc2 := bc.cell 2 _ rfl
          have cc3 := bc.cell 3 _ rfl
          have cc4 := bc.cell 4 _ rfl
          have fc := bc.free
          go_wp2_with fail
          clear ca0 ca1 ca2 ca3 ca4 fa
          clear cc0 cc1 cc2 cc3 cc4 fc
          refine wp_region_partsDC (WTo9 g nk kc nv vc nd dc ka va da b n kb ko k rk rv a0 c0 m l) 9 [[], [0], [], [2], [], [2, 3, 4], [2, 3, 4, 5], [2, 3, 4, 5, 6], [2, 3, 4, 5, 6, 7]] [some 38, some 39, some 40, some 41, some 42, some 43, some 44, some 45, some 46, some 47, some 48, none] (by kernel_rfl) (by kernel_rfl) rfl (PTo9 g nk kc nv vc nd dc ka va da b n kb ko k rk rv a0 c0 m l) (PTo9_stable g nk kc nv vc nd dc ka va da b n kb ko k rk rv a0 c0 m l ) ?pTo9 ?_
          case pTo9 =>
            intro i hi o ho vs lo hx_ w' hg hp
            match i, hi with
            | 0, _ =>
              obtain rfl := Option.some.inj ho
              clear ho
              simp only [actsD, List.getD_cons_zero, List.getD_cons_succ, List.foldl_cons, List.foldl_nil, Act.put, List.setIfInBounds_toArray, List.set_cons_succ, List.set_cons_zero]
              have hsz := hg.size
              have hgB : Below wr.heap.size wr w' := hg.below (fun k hk => ⟨hk, fun o => by rintro ⟨j, _, _, _, hw⟩; exact False.elim hw⟩)
              go_wp2
              exact ⟨_, rfl, GrowC.refl _, rfl⟩
            | 1, _ =>
              obtain rfl := Option.some.inj ho
              clear ho
              simp only [actsD, List.getD_cons_zero, List.getD_cons_succ, List.foldl_cons, List.foldl_nil, Act.put, List.setIfInBounds_toArray, List.set_cons_succ, List.set_cons_zero]
              obtain ⟨_, _, _, h0⟩ := hp 0 (by simp)
              simp only [PTo9] at h0
              have hsz := hg.size
              have hgB : Below wr.heap.size wr w' := hg.below (fun k hk => ⟨hk, fun o => by rintro ⟨j, _, _, _, hw⟩; exact False.elim hw⟩)
              rw [h0]
              have e0 := (hg.cell (g + 1 + 1) 2 bc.lt (by rintro ⟨j, _, hne, hb, hw⟩; exact False.elim hw)).trans (bc.cell 2 _ rfl)
              go_wp2
              exact ⟨_, rfl, GrowC.refl _, rfl⟩
            | 2, _ =>
              obtain rfl := Option.some.inj ho
              clear ho
              simp only [actsD, List.getD_cons_zero, List.getD_cons_succ, List.foldl_cons, List.foldl_nil, Act.put, List.setIfInBounds_toArray, List.set_cons_succ, List.set_cons_zero]
              have hsz := hg.size
              have hgB : Below wr.heap.size wr w' := hg.below (fun k hk => ⟨hk, fun o => by rintro ⟨j, _, _, _, hw⟩; exact False.elim hw⟩)
              go_wp2
              exact ⟨_, rfl, GrowC.refl _, rfl⟩
            | 3, _ =>
              obtain rfl := Option.some.inj ho
              clear ho
              simp only [actsD, List.getD_cons_zero, List.getD_cons_succ, List.foldl_cons, List.foldl_nil, Act.put, List.setIfInBounds_toArray, List.set_cons_succ, List.set_cons_zero]
              obtain ⟨_, _, _, h2⟩ := hp 2 (by simp)
              simp only [PTo9] at h2
              have hsz := hg.size
              have hgB : Below wr.heap.size wr w' := hg.below (fun k hk => ⟨hk, fun o => by rintro ⟨j, _, _, _, hw⟩; exact False.elim hw⟩)
              rw [h2]
              have e0 := (hg.cell (g) 2 ba.lt (by rintro ⟨j, _, hne, hb, hw⟩; exact False.elim hw)).trans (ba.cell 2 _ rfl)
              go_wp2
              exact ⟨_, rfl, GrowC.refl _, rfl⟩
            | 4, _ =>
              obtain rfl := Option.some.inj ho
              clear ho
              simp only [actsD, List.getD_cons_zero, List.getD_cons_succ, List.foldl_cons, List.foldl_nil, Act.put, List.setIfInBounds_toArray, List.set_cons_succ, List.set_cons_zero]
              have hsz := hg.size
              have hgB : Below wr.heap.size wr w' := hg.below (fun k hk => ⟨hk, fun o => by rintro ⟨j, _, _, _, hw⟩; exact False.elim hw⟩)
              go_wp2
              exact ⟨_, rfl, GrowC.refl _, rfl⟩
            | 5, _ =>
              obtain rfl := Option.some.inj ho
              clear ho
              simp only [actsD, List.getD_cons_zero, List.getD_cons_succ, List.foldl_cons, List.foldl_nil, Act.put, List.setIfInBounds_toArray, List.set_cons_succ, List.set_cons_zero]
              obtain ⟨_, _, _, h3⟩ := hp 3 (by simp)
              simp only [PTo9] at h3
              obtain ⟨_, _, _, h4⟩ := hp 4 (by simp)
              simp only [PTo9] at h4
              have hsz := hg.size
              have hgB : Below wr.heap.size wr w' := hg.below (fun k hk => ⟨hk, fun o => by rintro ⟨j, _, _, _, hw⟩; exact False.elim hw⟩)
              rw [h3, h4]
              rw [HKA.out]
              go_wp2
              exact ⟨_, rfl, GrowC.refl _, rfl⟩
            | 6, _ =>
              obtain rfl := Option.some.inj ho
              clear ho
              simp only [actsD, List.getD_cons_zero, List.getD_cons_succ, List.foldl_cons, List.foldl_nil, Act.put, List.setIfInBounds_toArray, List.set_cons_succ, List.set_cons_zero]
              obtain ⟨_, _, _, h5⟩ := hp 5 (by simp)
              simp only [PTo9] at h5
              have hsz := hg.size
              have hgB : Below wr.heap.size wr w' := hg.below (fun k hk => ⟨hk, fun o => by rintro ⟨j, _, _, _, hw⟩; exact False.elim hw⟩)
              rw [h5]
              have e0 := (hgB.cell (p := ⟨kb, ko + k, none⟩) hkb2).trans hcs
              go_wp2
              exact ⟨_, rfl, GrowC.refl _, rfl⟩
            | 7, _ =>
              obtain rfl := Option.some.inj ho
              clear ho
              simp only [actsD, List.getD_cons_zero, List.getD_cons_succ, List.foldl_cons, List.foldl_nil, Act.put, List.setIfInBounds_toArray, List.set_cons_succ, List.set_cons_zero]
              obtain ⟨_, _, _, h6⟩ := hp 6 (by simp)
              simp only [PTo9] at h6
              have hsz := hg.size
              have hgB : Below wr.heap.size wr w' := hg.below (fun k hk => ⟨hk, fun o => by rintro ⟨j, _, _, _, hw⟩; exact False.elim hw⟩)
              rw [h6]
              go_wp2_with (first | (refine wpList_str_reads (.tmp 44) rfl rfl Try.underlying28 Try.underlying5 Try.underlying9 l rfl (HRS.out.below hgB (Nat.le_refl _)) ?_))
              exact ⟨_, rfl, GrowC.refl _, rfl⟩
            | 8, _ =>
              obtain rfl := Option.some.inj ho
              clear ho
              simp only [actsD, List.getD_cons_zero, List.getD_cons_succ, List.foldl_cons, List.foldl_nil, Act.put, List.setIfInBounds_toArray, List.set_cons_succ, List.set_cons_zero]
              obtain ⟨_, _, _, h7⟩ := hp 7 (by simp)
              simp only [PTo9] at h7
              have hsz := hg.size
              have hgB : Below wr.heap.size wr w' := hg.below (fun k hk => ⟨hk, fun o => by rintro ⟨j, _, _, _, hw⟩; exact False.elim hw⟩)
              rw [h7]
              have hbx := Box.new w' #[.string ⟨l.toArray⟩] 9 rfl
              go_wp2
              exact ⟨_, rfl, GrowC.of_grow ((Grow.refl _).alloc _), rfl, by simp, hbx.cell 0 _ rfl⟩
            | (q + 9), hq => exact absurd hq (by omega)
          intro vS lo hi w5 hg hp hd
          obtain ⟨_, _, _, h0⟩ := hp 0 (by omega)
          obtain ⟨_, _, _, h1⟩ := hp 1 (by omega)
          obtain ⟨_, _, _, h2⟩ := hp 2 (by omega)
          obtain ⟨_, _, _, h3⟩ := hp 3 (by omega)
          obtain ⟨_, _, _, h4⟩ := hp 4 (by omega)
          obtain ⟨_, _, _, h5⟩ := hp 5 (by omega)
          obtain ⟨_, _, _, h6⟩ := hp 6 (by omega)
          obtain ⟨_, _, _, h7⟩ := hp 7 (by omega)
          obtain ⟨_, _, _, h8⟩ := hp 8 (by omega)
          simp only [PTo9] at h0 h1 h2 h3 h4 h5 h6 h7 h8
          clear hp hd
          have hsz := hg.size
          replace ba := ba.grow hg (by intro i _; rintro ⟨j, _, hw⟩; exact False.elim hw)
          replace bb := bb.grow hg (by intro i _; rintro ⟨j, _, hw⟩; exact False.elim hw)
          replace bc := bc.grow hg (by intro i _; rintro ⟨j, _, hw⟩; exact False.elim hw)
          replace hB := hB.trans (hg.below (fun k hk => ⟨by omega, fun o => by rintro ⟨j, _, hw⟩; exact False.elim hw⟩))
          have hr : List.range 9 = [0, 1, 2, 3, 4, 5, 6, 7, 8] := rfl
          rw [hr]
          clear hr
          simp only [List.drop_succ_cons, List.drop_zero, List.drop_nil, actsD, List.getD_cons_zero, List.getD_cons_succ, List.foldl_cons, List.foldl_nil, Act.put, List.setIfInBounds_toArray, List.set_cons_succ, List.set_cons_zero, h0, h1, h2, h3, h4, h5, h6, h7]
          clear h0 h1 h2 h3 h4 h5 h6 h7
          obtain ⟨e8, hlt8, hc8⟩ := h8
          simp only [e8]
          have hown2 := own_growx (X := fun _ => False) hown (GrowX.of_growC hg (by rintro k o ⟨j, _, hw⟩; exact False.elim hw)) (fun _ _ h => h)
          clear hown e8
          replace hs3 : g + 3 ≤ w5.heap.size := by omega
          replace hgx := hgx.trans (GrowX.of_growC hg (by rintro k o ⟨j, _, hw⟩; exact False.elim hw))
          have hgxs := hgx.size
          clear hg
          have cc0 := bc.cell 0 _ rfl
          have cc1 := bc.cell 1 _ rfl
          have cc2 := bc.cell 2 _ rfl
          have cc3 := bc.cell 3 _ rfl
          have cc4 := bc.cell 4 _ rfl
          have fc := bc.free
          go_wp2_with (first
            | (at_builtin; refine wpList_append_row sl_strs (.tmp 39) (.tmp 46) rfl rfl (base := wB.heap.size) (W0 := w5) rfl hown2 (Below.refl _ _) rfl rfl (news := [S l]) (by intro j u hu; rw [Addr.add_lit]; cases j with | zero => simp at hu; subst hu; exact hc8 | succ j => simp at hu) (by intro u hu; simp at hu; subst hu; rfl) (by omega) (by omega) (by omega) (by omega) ?_; intro g4 cap4 w6 hown3 hbel hg4 hlt4 hle4; clear cc0 cc1 cc2 cc3 cc4 fc hown2 hc8 hlt8; have ba6 := ba.below' hbel (by omega); have bb6 := bb.below' hbel (by omega); have bc6 := bc.below' hbel (by omega); have cc0 := bc6.cell 0 _ rfl; have cc1 := bc6.cell 1 _ rfl; have cc2 := bc6.cell 2 _ rfl; have cc3 := bc6.cell 3 _ rfl; have cc4 := bc6.cell 4 _ rfl; have fc := bc6.free))
          obtain ⟨bc7, hgs⟩ := bc6.set1 2 (.slice (some ⟨g4, 0, none⟩) (k + 1) cap4)
          have hsb := hbel.size
          go_roundw
          case rel =>
            refine ⟨k + 1, _, by omega, by go_num, ?_, ba6.grow hgs (by intros; omega), bb6.grow hgs (by intros; omega), bc7, (hB.trans (hbel.mono (by omega))).trans (hgs.below (fun k hk => ⟨by omega, fun _ => by omega⟩)), by have := hgs.size; omega, (hgx.then_below hbel (Nat.le_refl _)).trans (GrowX.of_growC hgs (by omega))⟩
            rw [HTK.out, List.map_append]
            exact own_growx (X := fun k => k = g + 1 + 1) hown3 (GrowX.of_growC hgs (fun _ _ h => h.1)) (by intro gg h; simp [Value.ownBlock] at h; omega)
          case measure => simp [intOf]; omega
        · obtain rfl : nv = k := by omega
          have ca0 := ba.cell 0 _ rfl
          have ca1 := ba.cell 1 _ rfl
          have ca2 := ba.cell 2 _ rfl
          have ca3 := ba.cell 3 _ rfl
          have ca4 := ba.cell 4 _ rfl
          have fa := ba.free
          have cc0 := bc.cell 0 _ rfl
          have cc1 := bc.cell 1 _ rfl
          have cc2 := bc.cell 2 _ rfl
          have cc3 := bc.cell 3 _ rfl
          have cc4 := bc.cell 4 _ rfl
          have fc := bc.free
          have hkr := own_kept hown
          rw [List.take_of_length_le (by rw [HNV.out]; exact Nat.le_refl _)] at hkr
          have ork2 := own_one hown
          obtain ⟨ra, rc, rfl⟩ := own_shape hown
          obtain ⟨xa, xc, rfl⟩ : ∃ a c, rk = .slice a nk c := by obtain ⟨a, c, e, _⟩ := HKEEP.out.now; exact ⟨a, c, e⟩
          obtain ⟨_, hgs⟩ := bb.set5 (.bool b) (.slice xa nk xc) (.slice ra nv rc) (.slice da nd dc) (.int .i64 n)
          have hgxs := hgx.size
          have hR1 := (HKEEP.out.grow (hgx.trans (GrowX.of_growC hgs (by omega)))).now
          have hR2 := (hkr.grow (GrowX.of_growC hgs (by omega))).now
          have hBB := hB.trans (hgs.below (fun k hk => ⟨by omega, fun _ => by omega⟩))
          have HR := Lib.hid (⟨hR1, hR2, hBB⟩ : _ ∧ _ ∧ _)
          clear hR1 hR2 hBB hgs hkr hgx hown HKEEP
          have cb0 := bb.cell 0 _ rfl
          have cb1 := bb.cell 1 _ rfl
          have cb2 := bb.cell 2 _ rfl
          have cb3 := bb.cell 3 _ rfl
          have cb4 := bb.cell 4 _ rfl
          have fb := bb.free
          go_wp2
          refine bodyPost_ret (v := .agg #[.bool b, .slice xa nk xc, .slice ra nv rc, .slice da nd dc, .int .i64 n]) (by simp [results, Try.results15, go_sem, cb0, cb1, cb2, cb3, cb4]) rfl ?_
          refine ⟨.slice xa nk xc, .slice ra nv rc, by simp only [nodeV]; rw [HB.out, HN.out], ⟨?_, ?_, ?_⟩, HR.out.2.2⟩
          · rw [HNK.out]; exact HR.out.1
          · rw [HNV.out]; exact HR.out.2.1
          · exact HX.out.kids.below HR.out.2.2 (Nat.le_refl _)
end Go.Proofs.Ytfbblgcdggpehaa

/- The walk of NodeFinds where the node may not be, and at inner nodes. Conditions: short lists. -/
import Derived.Test.YtfbblgcdggpehaaNPutP
import Derived.Deep.DeepCutAuto
namespace Go.Proofs.Ytfbblgcdggpehaa
set_option linter.unusedSimpArgs false
set_option linter.unusedVariables false
open Go.RowKit


set_option maxRecDepth 100000 in
set_option maxHeartbeats 12800000 in
theorem finds_nofit_true (x : Nd) (hsm : x.small) (hlf : x.leaf = true) (hft : ¬ x.Fit) (ks vs ds : Value) (k v : List UInt8) (kv vv : Value) (w : World) (hx : NodeAt w ks vs ds x) (hk : Reads 1 w kv k.length (k.map B)) (hv : Reads 1 w vv v.length (v.map B))
    (hkl : k.length ≤ 1048576) (hvl : v.length ≤ 1048576) (hk1 : x.keys.length + 1 ≤ 1048576) (hv1 : x.vals.length + 1 ≤ 1048576) (n : Int) (hn : x.next = n) :
    Calls Try.prog 7 #[.agg #[.bool true, ks, vs, ds, .int .i64 n], kv, vv] w fun e w' => e = .returned (.bool true) ∧ Below w.heap.size w w' := by
  obtain ⟨_, ⟨ka, kc, rfl, _⟩, _⟩ := id hx.keys
  obtain ⟨_, ⟨va, vc, rfl, _⟩, _⟩ := id hx.vals
  obtain ⟨da, dc, rfl⟩ := hx.kids.shape
  obtain ⟨qa, qc, rfl⟩ := hk.shape
  obtain ⟨ua, uc, rfl⟩ := hv.shape
  obtain ⟨nk, hnk⟩ : ∃ nk, x.keys.length = nk := ⟨_, rfl⟩
  obtain ⟨nv, hnv⟩ : ∃ nv, x.vals.length = nv := ⟨_, rfl⟩
  obtain ⟨nd, hnd⟩ : ∃ nd, x.kids.length = nd := ⟨_, rfl⟩
  obtain ⟨kl, hkl2⟩ : ∃ q, k.length = q := ⟨_, rfl⟩
  obtain ⟨vl, hvl2⟩ : ∃ q, v.length = q := ⟨_, rfl⟩
  have hkm : nk + 1 ≤ 1048576 := hnk ▸ hk1
  have hvm : nv + 1 ≤ 1048576 := hnv ▸ hv1
  have hdm : nd ≤ 1048577 := hnd ▸ hsm.kids
  have HKQ := Lib.hid hkl
  have HVQ := Lib.hid hvl
  have HK1 := Lib.hid hk1
  have HV1 := Lib.hid hv1
  have hbase : ∀ u, Below w.heap.size w u → Reads 1 u (.slice qa k.length qc) k.length (k.map B) ∧ Reads 1 u (.slice ua v.length uc) v.length (v.map B) := fun u hb => ⟨hk.below hb (Nat.le_refl _), hv.below hb (Nat.le_refl _)⟩
  simp only [hnk, hnv, hnd, hkl2, hvl2] at hx hk hv hkl hvl hbase ⊢
  obtain ⟨g, hg0⟩ : ∃ g, w.heap.size = g := ⟨_, rfl⟩
  have ba := Box.new w #[.bool true, .slice ka nk kc, .slice va nv vc, .slice da nd dc, .int .i64 n] 25 hg0.symm
  have hB := (Below.refl w.heap.size w).alloc (Nat.le_refl _) (.cells #[.bool true, .slice ka nk kc, .slice va nv vc, .slice da nd dc, .int .i64 n] 25)
  have hs0 : g + 1 ≤ (w.alloc (.cells #[.bool true, .slice ka nk kc, .slice va nv vc, .slice da nd dc, .int .i64 n] 25)).heap.size := by simp; omega
  have hx0 := hx.below hB (Nat.le_refl _)
  have HW := Lib.hid (And.intro ba (And.intro hB (And.intro hx0 hs0)))
  have HG := Lib.hid hg0
  have HBASE := Lib.hid hbase
  have HNK := Lib.hid hnk
  have HNV := Lib.hid hnv
  have HND := Lib.hid hnd
  have HKL := Lib.hid hkl2
  have HVL := Lib.hid hvl2
  have HLF := Lib.hid hlf
  have HN := Lib.hid hn
  have HF := Lib.hid hft
  clear hx hk hv hnk hnv hnd hkl2 hvl2 hk1 hv1 hbase ba hB hs0 hx0 hg0 hlf hn hft
  go_enter Try.func7, Try.ntmps7
  go_wp2_with fail
  have hgw : w.heap.size ≤ g := Nat.le_of_eq HG.out
  rw [HG.out]
  refine calls_world (fun u => Box u g [.bool true, .slice ka nk kc, .slice va nv vc, .slice da nd dc, .int .i64 n] ∧ Below w.heap.size w u ∧ NodeAt u (.slice ka nk kc) (.slice va nv vc) (.slice da nd dc) x ∧ g + 1 ≤ u.heap.size) HW.out ?_
  clear HW
  rintro w1 ⟨ba, hB, hx, hs⟩
  have HX := Lib.hid hx
  clear hx
  refine (lfit_any x hsm _ _ _ w1 HX.out true n HLF.out HN.out).mono ?_
  rintro e w2 ⟨r, rfl, hr, hb2⟩
  obtain rfl : r = false := by cases r with | false => rfl | true => exact absurd (hr.1 rfl) HF.out
  clear hr
  replace ba := ba.below hb2 (Nat.le_refl _)
  replace hB := hB.trans (hb2.mono (by omega))
  replace HX := Lib.hid (HX.out.below hb2 (Nat.le_refl _))
  replace hs := Nat.le_trans hs hb2.size
  clear hb2
  go_wp2_with fail
  refine (awake_any w2).mono ?_
  rintro e w3 ⟨rfl, hb3⟩
  replace hB := hB.trans (hb3.mono (by omega))
  go_wp2
  go_ret
  exact ⟨rfl, hB⟩

set_option maxRecDepth 100000 in
set_option maxHeartbeats 12800000 in
theorem finds_nofit_false (x : Nd) (hsm : x.small) (hlf : x.leaf = false) (hft : ¬ x.Fit) (ks vs ds : Value) (k v : List UInt8) (kv vv : Value) (w : World) (hx : NodeAt w ks vs ds x) (hk : Reads 1 w kv k.length (k.map B)) (hv : Reads 1 w vv v.length (v.map B))
    (hkl : k.length ≤ 1048576) (hvl : v.length ≤ 1048576) (hk1 : x.keys.length + 1 ≤ 1048576) (hv1 : x.vals.length + 1 ≤ 1048576) (n : Int) (hn : x.next = n) :
    Calls Try.prog 7 #[.agg #[.bool false, ks, vs, ds, .int .i64 n], kv, vv] w fun e w' => e = .returned (.bool true) ∧ Below w.heap.size w w' := by
  obtain ⟨_, ⟨ka, kc, rfl, _⟩, _⟩ := id hx.keys
  obtain ⟨_, ⟨va, vc, rfl, _⟩, _⟩ := id hx.vals
  obtain ⟨da, dc, rfl⟩ := hx.kids.shape
  obtain ⟨qa, qc, rfl⟩ := hk.shape
  obtain ⟨ua, uc, rfl⟩ := hv.shape
  obtain ⟨nk, hnk⟩ : ∃ nk, x.keys.length = nk := ⟨_, rfl⟩
  obtain ⟨nv, hnv⟩ : ∃ nv, x.vals.length = nv := ⟨_, rfl⟩
  obtain ⟨nd, hnd⟩ : ∃ nd, x.kids.length = nd := ⟨_, rfl⟩
  obtain ⟨kl, hkl2⟩ : ∃ q, k.length = q := ⟨_, rfl⟩
  obtain ⟨vl, hvl2⟩ : ∃ q, v.length = q := ⟨_, rfl⟩
  have hkm : nk + 1 ≤ 1048576 := hnk ▸ hk1
  have hvm : nv + 1 ≤ 1048576 := hnv ▸ hv1
  have hdm : nd ≤ 1048577 := hnd ▸ hsm.kids
  have HKQ := Lib.hid hkl
  have HVQ := Lib.hid hvl
  have HK1 := Lib.hid hk1
  have HV1 := Lib.hid hv1
  have hbase : ∀ u, Below w.heap.size w u → Reads 1 u (.slice qa k.length qc) k.length (k.map B) ∧ Reads 1 u (.slice ua v.length uc) v.length (v.map B) := fun u hb => ⟨hk.below hb (Nat.le_refl _), hv.below hb (Nat.le_refl _)⟩
  simp only [hnk, hnv, hnd, hkl2, hvl2] at hx hk hv hkl hvl hbase ⊢
  obtain ⟨g, hg0⟩ : ∃ g, w.heap.size = g := ⟨_, rfl⟩
  have ba := Box.new w #[.bool false, .slice ka nk kc, .slice va nv vc, .slice da nd dc, .int .i64 n] 25 hg0.symm
  have hB := (Below.refl w.heap.size w).alloc (Nat.le_refl _) (.cells #[.bool false, .slice ka nk kc, .slice va nv vc, .slice da nd dc, .int .i64 n] 25)
  have hs0 : g + 1 ≤ (w.alloc (.cells #[.bool false, .slice ka nk kc, .slice va nv vc, .slice da nd dc, .int .i64 n] 25)).heap.size := by simp; omega
  have hx0 := hx.below hB (Nat.le_refl _)
  have HW := Lib.hid (And.intro ba (And.intro hB (And.intro hx0 hs0)))
  have HG := Lib.hid hg0
  have HBASE := Lib.hid hbase
  have HNK := Lib.hid hnk
  have HNV := Lib.hid hnv
  have HND := Lib.hid hnd
  have HKL := Lib.hid hkl2
  have HVL := Lib.hid hvl2
  have HLF := Lib.hid hlf
  have HN := Lib.hid hn
  have HF := Lib.hid hft
  clear hx hk hv hnk hnv hnd hkl2 hvl2 hk1 hv1 hbase ba hB hs0 hx0 hg0 hlf hn hft
  go_enter Try.func7, Try.ntmps7
  go_wp2_with fail
  have hgw : w.heap.size ≤ g := Nat.le_of_eq HG.out
  rw [HG.out]
  refine calls_world (fun u => Box u g [.bool false, .slice ka nk kc, .slice va nv vc, .slice da nd dc, .int .i64 n] ∧ Below w.heap.size w u ∧ NodeAt u (.slice ka nk kc) (.slice va nv vc) (.slice da nd dc) x ∧ g + 1 ≤ u.heap.size) HW.out ?_
  clear HW
  rintro w1 ⟨ba, hB, hx, hs⟩
  have HX := Lib.hid hx
  clear hx
  refine (lfit_any x hsm _ _ _ w1 HX.out false n HLF.out HN.out).mono ?_
  rintro e w2 ⟨r, rfl, hr, hb2⟩
  obtain rfl : r = false := by cases r with | false => rfl | true => exact absurd (hr.1 rfl) HF.out
  clear hr
  replace ba := ba.below hb2 (Nat.le_refl _)
  replace hB := hB.trans (hb2.mono (by omega))
  replace HX := Lib.hid (HX.out.below hb2 (Nat.le_refl _))
  replace hs := Nat.le_trans hs hb2.size
  clear hb2
  go_wp2_with fail
  refine (awake_any w2).mono ?_
  rintro e w3 ⟨rfl, hb3⟩
  replace hB := hB.trans (hb3.mono (by omega))
  go_wp2
  go_ret
  exact ⟨rfl, hB⟩
def WFi4 (nk kc nv vc nd dc kl qc p g : Nat) (n : Int) (ka va da qa : Option Addr) (f : Bool) (k : List UInt8) (x : Nd) (j b o : Nat) : Prop := False
def PFi4 (nk kc nv vc nd dc kl qc p g : Nat) (n : Int) (ka va da qa : Option Addr) (f : Bool) (k : List UInt8) (x : Nd) (i : Nat) (v : Value) (lo hi : Nat) (w : World) : Prop :=
  match i with
  | 0 => v = .agg #[.bool false, .slice ka nk kc, .slice va nv vc, .slice da nd dc, .int .i64 n]
  | 1 => ∃ r1 r2, v = .agg #[.bool false, r1, r2, (.slice da nd dc), .int .i64 n] ∧ RefAt w r1 r2 (.slice da nd dc) x
  | 2 => v = .slice qa kl qc
  | 3 => v = .string ⟨k.toArray⟩
  | 4 => v = .tuple #[.int .i64 ((p : Nat) : Int), .bool f]
  | 5 => v = .tuple #[.int .i64 ((p : Nat) : Int), .bool f]
  | 6 => v = .int .i64 ((p : Nat) : Int)
  | 7 => v = .bool f
  | 8 => v = .int .i64 ((p : Nat) : Int)
  | _ => True
theorem PFi4_stable (nk kc nv vc nd dc kl qc p g : Nat) (n : Int) (ka va da qa : Option Addr) (f : Bool) (k : List UInt8) (x : Nd)  : ∀ i j, i < 9 → j < 9 → j ≠ i → j ∉ ([[], [0], [], [2], [0, 1, 2, 3], [0, 1, 2, 3, 4], [0, 1, 2, 3, 4, 5], [0, 1, 2, 3, 4, 5], [0, 1, 2, 3, 4, 5, 6]] : List (List Nat)).getD i [] → ∀ v lo hi w w', PFi4 nk kc nv vc nd dc kl qc p g n ka va da qa f k x i v lo hi w → GrowC (WFi4 nk kc nv vc nd dc kl qc p g n ka va da qa f k x j) w w' → PFi4 nk kc nv vc nd dc kl qc p g n ka va da qa f k x i v lo hi w' := by
  intro i j hi hj hne hbs v lo hj2 w w' h hg
  match i, hi with
  | 0, _ =>
    simp only [PFi4] at h ⊢
    exact h
  | 1, _ =>
    simp only [PFi4] at h ⊢
    obtain ⟨r1, r2, h1, h2⟩ := h; exact ⟨r1, r2, h1, h2.below (hg.below (B := w.heap.size) (fun k hk => ⟨hk, fun _ hw => False.elim hw⟩)) (Nat.le_refl _)⟩
  | 2, _ =>
    simp only [PFi4] at h ⊢
    exact h
  | 3, _ =>
    simp only [PFi4] at h ⊢
    exact h
  | 4, _ =>
    simp only [PFi4] at h ⊢
    exact h
  | 5, _ =>
    simp only [PFi4] at h ⊢
    exact h
  | 6, _ =>
    simp only [PFi4] at h ⊢
    exact h
  | 7, _ =>
    simp only [PFi4] at h ⊢
    exact h
  | 8, _ =>
    simp only [PFi4] at h ⊢
    exact h
  | (q + 9), hq => exact absurd hq (by omega)
def WFi7 (nk kc nv vc nd dc kl qc p g g3 g4 mk mv md ek ev ed sz : Nat) (n : Int) (ka va da qa ma mb mc ea eb ec : Option Addr) (f : Bool) (k vL : List UInt8) (x y z : Nd) (j b o : Nat) : Prop := False
def PFi7 (nk kc nv vc nd dc kl qc p g g3 g4 mk mv md ek ev ed sz : Nat) (n : Int) (ka va da qa ma mb mc ea eb ec : Option Addr) (f : Bool) (k vL : List UInt8) (x y z : Nd) (i : Nat) (v : Value) (lo hi : Nat) (w : World) : Prop :=
  match i with
  | 0 => v = .int .i64 ((p : Nat) : Int)
  | 1 => v = .int .i64 ((p : Nat) : Int)
  | 2 => v = .bool false
  | 3 => v = .bool false
  | 4 => v = .bool f
  | 5 => v = .bool f
  | 6 => v = .bool false
  | 7 => v = .bool false
  | 8 => v = .bool false
  | 9 => v = .agg #[.bool false, .slice ka nk kc, .slice va nv vc, .slice da nd dc, .int .i64 n]
  | 10 => v = .int .i64 ((sz : Nat) : Int)
  | 11 => v = .agg #[.bool false, .slice ka nk kc, .slice va nv vc, .slice da nd dc, .int .i64 n]
  | 12 => ∃ r1 r2, v = .agg #[.bool false, r1, r2, (.slice da nd dc), .int .i64 n] ∧ RefAt w r1 r2 (.slice da nd dc) x
  | 13 => v = .int .i64 ((sz : Nat) : Int)
  | 14 => v = .bool false
  | 15 => v = .bool false
  | _ => True
theorem PFi7_stable (nk kc nv vc nd dc kl qc p g g3 g4 mk mv md ek ev ed sz : Nat) (n : Int) (ka va da qa ma mb mc ea eb ec : Option Addr) (f : Bool) (k vL : List UInt8) (x y z : Nd)  : ∀ i j, i < 16 → j < 16 → j ≠ i → j ∉ ([[], [], [0, 1], [0, 1, 2], [0, 1, 2, 3], [0, 1, 2, 3], [0, 1, 2, 3, 4, 5], [0, 1, 2, 3, 4, 5, 6], [0, 1, 2, 3, 4, 5, 6, 7], [0, 1, 2, 3, 4, 5, 6, 7, 8], [0, 1, 2, 3, 4, 5, 6, 7, 8, 9], [0, 1, 2, 3, 4, 5, 6, 7, 8], [0, 1, 2, 3, 4, 5, 6, 7, 8, 9, 10, 11], [0, 1, 2, 3, 4, 5, 6, 7, 8, 9, 10, 11, 12], [0, 1, 2, 3, 4, 5, 6, 7, 8, 9, 10, 11, 12, 13], [0, 1, 2, 3, 4, 5, 6, 7, 8, 9, 10, 11, 12, 13, 14]] : List (List Nat)).getD i [] → ∀ v lo hi w w', PFi7 nk kc nv vc nd dc kl qc p g g3 g4 mk mv md ek ev ed sz n ka va da qa ma mb mc ea eb ec f k vL x y z i v lo hi w → GrowC (WFi7 nk kc nv vc nd dc kl qc p g g3 g4 mk mv md ek ev ed sz n ka va da qa ma mb mc ea eb ec f k vL x y z j) w w' → PFi7 nk kc nv vc nd dc kl qc p g g3 g4 mk mv md ek ev ed sz n ka va da qa ma mb mc ea eb ec f k vL x y z i v lo hi w' := by
  intro i j hi hj hne hbs v lo hj2 w w' h hg
  match i, hi with
  | 0, _ =>
    simp only [PFi7] at h ⊢
    exact h
  | 1, _ =>
    simp only [PFi7] at h ⊢
    exact h
  | 2, _ =>
    simp only [PFi7] at h ⊢
    exact h
  | 3, _ =>
    simp only [PFi7] at h ⊢
    exact h
  | 4, _ =>
    simp only [PFi7] at h ⊢
    exact h
  | 5, _ =>
    simp only [PFi7] at h ⊢
    exact h
  | 6, _ =>
    simp only [PFi7] at h ⊢
    exact h
  | 7, _ =>
    simp only [PFi7] at h ⊢
    exact h
  | 8, _ =>
    simp only [PFi7] at h ⊢
    exact h
  | 9, _ =>
    simp only [PFi7] at h ⊢
    exact h
  | 10, _ =>
    simp only [PFi7] at h ⊢
    exact h
  | 11, _ =>
    simp only [PFi7] at h ⊢
    exact h
  | 12, _ =>
    simp only [PFi7] at h ⊢
    obtain ⟨r1, r2, h1, h2⟩ := h; exact ⟨r1, r2, h1, h2.below (hg.below (B := w.heap.size) (fun k hk => ⟨hk, fun _ hw => False.elim hw⟩)) (Nat.le_refl _)⟩
  | 13, _ =>
    simp only [PFi7] at h ⊢
    exact h
  | 14, _ =>
    simp only [PFi7] at h ⊢
    exact h
  | 15, _ =>
    simp only [PFi7] at h ⊢
    exact h
  | (q + 16), hq => exact absurd hq (by omega)
def WFi10 (nk kc nv vc nd dc kl qc p g g3 g4 mk mv md ek ev ed sz : Nat) (n : Int) (ka va da qa ma mb mc ea eb ec : Option Addr) (f : Bool) (k vL : List UInt8) (x y z : Nd) (j b o : Nat) : Prop := False
def PFi10 (nk kc nv vc nd dc kl qc p g g3 g4 mk mv md ek ev ed sz : Nat) (n : Int) (ka va da qa ma mb mc ea eb ec : Option Addr) (f : Bool) (k vL : List UInt8) (x y z : Nd) (i : Nat) (v : Value) (lo hi : Nat) (w : World) : Prop :=
  match i with
  | 0 => v = .bool false
  | 1 => v = .bool true
  | 2 => v = .bool true
  | 3 => v = .agg #[.bool false, .slice ma mk mk, .slice mb mv mv, .slice mc md md, .int .i64 n]
  | 4 => ∃ r1 r2, v = .agg #[.bool false, r1, r2, (.slice mc md md), .int .i64 n] ∧ RefAt w r1 r2 (.slice mc md md) y
  | 5 => v = .agg #[.bool false, .slice ka nk kc, .slice va nv vc, .slice da nd dc, .int .i64 n]
  | 6 => ∃ r1 r2, v = .agg #[.bool false, r1, r2, (.slice da nd dc), .int .i64 n] ∧ RefAt w r1 r2 (.slice da nd dc) x
  | 7 => v = .bool true
  | 8 => v = .bool true
  | 9 => v = .bool true
  | 10 => v = .agg #[.bool false, .slice ea ek ek, .slice eb ev ev, .slice ec ed ed, .int .i64 n]
  | 11 => ∃ r1 r2, v = .agg #[.bool false, r1, r2, (.slice ec ed ed), .int .i64 n] ∧ RefAt w r1 r2 (.slice ec ed ed) z
  | 12 => v = .agg #[.bool false, .slice ka nk kc, .slice va nv vc, .slice da nd dc, .int .i64 n]
  | 13 => ∃ r1 r2, v = .agg #[.bool false, r1, r2, (.slice da nd dc), .int .i64 n] ∧ RefAt w r1 r2 (.slice da nd dc) x
  | 14 => v = .bool true
  | 15 => v = .bool true
  | 16 => v = .bool true
  | 17 => v = .bool true
  | 18 => v = .bool true
  | _ => True
theorem PFi10_stable (nk kc nv vc nd dc kl qc p g g3 g4 mk mv md ek ev ed sz : Nat) (n : Int) (ka va da qa ma mb mc ea eb ec : Option Addr) (f : Bool) (k vL : List UInt8) (x y z : Nd)  : ∀ i j, i < 19 → j < 19 → j ≠ i → j ∉ ([[], [0], [0, 1], [0, 1, 2], [0, 1, 2, 3], [0, 1, 2], [0, 1, 2, 3, 4, 5], [0, 1, 2, 3, 4, 5, 6], [0, 1, 2, 3, 4, 5, 6, 7], [0, 1, 2, 3, 4, 5, 6, 7, 8], [0, 1, 2, 3, 4, 5, 6, 7, 8, 9], [0, 1, 2, 3, 4, 5, 6, 7, 8, 9, 10], [0, 1, 2, 3, 4, 5, 6, 7, 8, 9], [0, 1, 2, 3, 4, 5, 6, 7, 8, 9, 10, 11, 12], [0, 1, 2, 3, 4, 5, 6, 7, 8, 9, 10, 11, 12, 13], [0, 1, 2, 3, 4, 5, 6, 7, 8, 9, 10, 11, 12, 13, 14], [0, 1, 2, 3, 4, 5, 6, 7, 8, 9, 10, 11, 12, 13, 14, 15], [0, 1, 2, 3, 4, 5, 6, 7, 8, 9, 10, 11, 12, 13, 14, 15, 16], [0, 1, 2, 3, 4, 5, 6, 7, 8, 9, 10, 11, 12, 13, 14, 15, 16, 17]] : List (List Nat)).getD i [] → ∀ v lo hi w w', PFi10 nk kc nv vc nd dc kl qc p g g3 g4 mk mv md ek ev ed sz n ka va da qa ma mb mc ea eb ec f k vL x y z i v lo hi w → GrowC (WFi10 nk kc nv vc nd dc kl qc p g g3 g4 mk mv md ek ev ed sz n ka va da qa ma mb mc ea eb ec f k vL x y z j) w w' → PFi10 nk kc nv vc nd dc kl qc p g g3 g4 mk mv md ek ev ed sz n ka va da qa ma mb mc ea eb ec f k vL x y z i v lo hi w' := by
  intro i j hi hj hne hbs v lo hj2 w w' h hg
  match i, hi with
  | 0, _ =>
    simp only [PFi10] at h ⊢
    exact h
  | 1, _ =>
    simp only [PFi10] at h ⊢
    exact h
  | 2, _ =>
    simp only [PFi10] at h ⊢
    exact h
  | 3, _ =>
    simp only [PFi10] at h ⊢
    exact h
  | 4, _ =>
    simp only [PFi10] at h ⊢
    obtain ⟨r1, r2, h1, h2⟩ := h; exact ⟨r1, r2, h1, h2.below (hg.below (B := w.heap.size) (fun k hk => ⟨hk, fun _ hw => False.elim hw⟩)) (Nat.le_refl _)⟩
  | 5, _ =>
    simp only [PFi10] at h ⊢
    exact h
  | 6, _ =>
    simp only [PFi10] at h ⊢
    obtain ⟨r1, r2, h1, h2⟩ := h; exact ⟨r1, r2, h1, h2.below (hg.below (B := w.heap.size) (fun k hk => ⟨hk, fun _ hw => False.elim hw⟩)) (Nat.le_refl _)⟩
  | 7, _ =>
    simp only [PFi10] at h ⊢
    exact h
  | 8, _ =>
    simp only [PFi10] at h ⊢
    exact h
  | 9, _ =>
    simp only [PFi10] at h ⊢
    exact h
  | 10, _ =>
    simp only [PFi10] at h ⊢
    exact h
  | 11, _ =>
    simp only [PFi10] at h ⊢
    obtain ⟨r1, r2, h1, h2⟩ := h; exact ⟨r1, r2, h1, h2.below (hg.below (B := w.heap.size) (fun k hk => ⟨hk, fun _ hw => False.elim hw⟩)) (Nat.le_refl _)⟩
  | 12, _ =>
    simp only [PFi10] at h ⊢
    exact h
  | 13, _ =>
    simp only [PFi10] at h ⊢
    obtain ⟨r1, r2, h1, h2⟩ := h; exact ⟨r1, r2, h1, h2.below (hg.below (B := w.heap.size) (fun k hk => ⟨hk, fun _ hw => False.elim hw⟩)) (Nat.le_refl _)⟩
  | 14, _ =>
    simp only [PFi10] at h ⊢
    exact h
  | 15, _ =>
    simp only [PFi10] at h ⊢
    exact h
  | 16, _ =>
    simp only [PFi10] at h ⊢
    exact h
  | 17, _ =>
    simp only [PFi10] at h ⊢
    exact h
  | 18, _ =>
    simp only [PFi10] at h ⊢
    exact h
  | (q + 19), hq => exact absurd hq (by omega)

set_option maxRecDepth 100000 in
set_option maxHeartbeats 12800000 in
theorem finds_inner (x : Nd) (hsm : x.small) (hlf : x.leaf = false) (hft : x.Fit) (ks vs ds : Value) (k v : List UInt8) (kv vv : Value) (w : World) (hx : NodeAt w ks vs ds x) (hk : Reads 1 w kv k.length (k.map B)) (hv : Reads 1 w vv v.length (v.map B))
    (hkl : k.length ≤ 1048576) (hvl : v.length ≤ 1048576) (hk1 : x.keys.length + 1 ≤ 1048576) (hv1 : x.vals.length + 1 ≤ 1048576) (n : Int) (hn : x.next = n) :
    Calls Try.prog 7 #[.agg #[.bool false, ks, vs, ds, .int .i64 n], kv, vv] w fun e w' => e = .returned (.bool true) ∧ Below w.heap.size w w' := by
  obtain ⟨f, hf⟩ : ∃ f, fhas x.keys k = f := ⟨_, rfl⟩
  obtain ⟨p, hp⟩ : ∃ p, fpos x.keys k = p := ⟨_, rfl⟩
  obtain ⟨y, hy⟩ : ∃ y, x.put k v = y := ⟨_, rfl⟩
  obtain ⟨z, hz⟩ : ∃ z, x.del k = z := ⟨_, rfl⟩
  have hyl : y.leaf = false := by rw [← hy, Nd.put_leaf]; exact hlf
  have hyn : y.next = n := by rw [← hy, Nd.put_next]; exact hn
  have hzl : z.leaf = false := by rw [← hz, Nd.del_leaf]; exact hlf
  have hzn : z.next = n := by rw [← hz, Nd.del_next]; exact hn
  have hys : y.small := by rw [← hy]; exact hsm.put hk1 hv1 hkl hvl
  have hzs : z.small := by rw [← hz]; exact hsm.del k
  obtain ⟨mk, hmk⟩ : ∃ q, y.keys.length = q := ⟨_, rfl⟩
  obtain ⟨mv, hmv⟩ : ∃ q, y.vals.length = q := ⟨_, rfl⟩
  obtain ⟨md, hmd⟩ : ∃ q, y.kids.length = q := ⟨_, rfl⟩
  obtain ⟨ek, hek⟩ : ∃ q, z.keys.length = q := ⟨_, rfl⟩
  obtain ⟨ev, hev⟩ : ∃ q, z.vals.length = q := ⟨_, rfl⟩
  obtain ⟨ed, hed⟩ : ∃ q, z.kids.length = q := ⟨_, rfl⟩
  have hok : x.delOk k = false := Nd.delOk_inner k hlf
  have hsize : psize x = rsize x x.keys.length := psize_eq hft.fits
  obtain ⟨sz, hsz0⟩ : ∃ q, psize x = q := ⟨_, rfl⟩
  have HHF := Lib.hid hf
  have HPP := Lib.hid hp
  have HY := Lib.hid hy
  have HZ := Lib.hid hz
  have HYL := Lib.hid hyl
  have HYN := Lib.hid hyn
  have HZL := Lib.hid hzl
  have HZN := Lib.hid hzn
  have HMK := Lib.hid hmk
  have HMV := Lib.hid hmv
  have HMD := Lib.hid hmd
  have HEK := Lib.hid hek
  have HEV := Lib.hid hev
  have HED := Lib.hid hed
  have HOK := Lib.hid hok
  have HSZ := Lib.hid hsz0
  have HSR := Lib.hid (hsize.symm.trans hsz0)
  have hyx : y = x := by rw [← hy]; exact Nd.put_inner x k v hlf
  have hzx : z = x := by rw [← hz]; exact Nd.del_no hok
  have HYX := Lib.hid hyx
  have HZX := Lib.hid hzx
  clear hyx hzx
  clear hf hp hy hz hyl hyn hzl hzn hmk hmv hmd hek hev hed hok hsize hsz0
  obtain ⟨_, ⟨ka, kc, rfl, _⟩, _⟩ := id hx.keys
  obtain ⟨_, ⟨va, vc, rfl, _⟩, _⟩ := id hx.vals
  obtain ⟨da, dc, rfl⟩ := hx.kids.shape
  obtain ⟨qa, qc, rfl⟩ := hk.shape
  obtain ⟨ua, uc, rfl⟩ := hv.shape
  obtain ⟨nk, hnk⟩ : ∃ nk, x.keys.length = nk := ⟨_, rfl⟩
  obtain ⟨nv, hnv⟩ : ∃ nv, x.vals.length = nv := ⟨_, rfl⟩
  obtain ⟨nd, hnd⟩ : ∃ nd, x.kids.length = nd := ⟨_, rfl⟩
  obtain ⟨kl, hkl2⟩ : ∃ q, k.length = q := ⟨_, rfl⟩
  obtain ⟨vl, hvl2⟩ : ∃ q, v.length = q := ⟨_, rfl⟩
  have hkm : nk + 1 ≤ 1048576 := hnk ▸ hk1
  have hvm : nv + 1 ≤ 1048576 := hnv ▸ hv1
  have hdm : nd ≤ 1048577 := hnd ▸ hsm.kids
  have HKQ := Lib.hid hkl
  have HVQ := Lib.hid hvl
  have HK1 := Lib.hid hk1
  have HV1 := Lib.hid hv1
  have hbase : ∀ u, Below w.heap.size w u → Reads 1 u (.slice qa k.length qc) k.length (k.map B) ∧ Reads 1 u (.slice ua v.length uc) v.length (v.map B) := fun u hb => ⟨hk.below hb (Nat.le_refl _), hv.below hb (Nat.le_refl _)⟩
  simp only [hnk, hnv, hnd, hkl2, hvl2] at hx hk hv hkl hvl hbase ⊢
  obtain ⟨g, hg0⟩ : ∃ g, w.heap.size = g := ⟨_, rfl⟩
  have ba := Box.new w #[.bool false, .slice ka nk kc, .slice va nv vc, .slice da nd dc, .int .i64 n] 25 hg0.symm
  have hB := (Below.refl w.heap.size w).alloc (Nat.le_refl _) (.cells #[.bool false, .slice ka nk kc, .slice va nv vc, .slice da nd dc, .int .i64 n] 25)
  have hs0 : g + 1 ≤ (w.alloc (.cells #[.bool false, .slice ka nk kc, .slice va nv vc, .slice da nd dc, .int .i64 n] 25)).heap.size := by simp; omega
  have hx0 := hx.below hB (Nat.le_refl _)
  have HW := Lib.hid (And.intro ba (And.intro hB (And.intro hx0 hs0)))
  have HG := Lib.hid hg0
  have HBASE := Lib.hid hbase
  have HNK := Lib.hid hnk
  have HNV := Lib.hid hnv
  have HND := Lib.hid hnd
  have HKL := Lib.hid hkl2
  have HVL := Lib.hid hvl2
  have HLF := Lib.hid hlf
  have HN := Lib.hid hn
  have HF := Lib.hid hft
  clear hx hk hv hnk hnv hnd hkl2 hvl2 hk1 hv1 hbase ba hB hs0 hx0 hg0 hlf hn hft
  go_enter Try.func7, Try.ntmps7
  go_wp2_with fail
  have hgw : w.heap.size ≤ g := Nat.le_of_eq HG.out
  rw [HG.out]
  refine calls_world (fun u => Box u g [.bool false, .slice ka nk kc, .slice va nv vc, .slice da nd dc, .int .i64 n] ∧ Below w.heap.size w u ∧ NodeAt u (.slice ka nk kc) (.slice va nv vc) (.slice da nd dc) x ∧ g + 1 ≤ u.heap.size) HW.out ?_
  clear HW
  rintro w1 ⟨ba, hB, hx, hs⟩
  have HX := Lib.hid hx
  clear hx
  refine (lfit_any x hsm _ _ _ w1 HX.out false n HLF.out HN.out).mono ?_
  rintro e w2 ⟨r, rfl, hr, hb2⟩
  obtain rfl : r = true := hr.2 HF.out
  clear hr
  replace ba := ba.below hb2 (Nat.le_refl _)
  replace hB := hB.trans (hb2.mono (by omega))
  replace HX := Lib.hid (HX.out.below hb2 (Nat.le_refl _))
  replace hs := Nat.le_trans hs hb2.size
  clear hb2
  have ca0 := ba.cell 0 _ rfl
  have ca1 := ba.cell 1 _ rfl
  have ca2 := ba.cell 2 _ rfl
  have ca3 := ba.cell 3 _ rfl
  have ca4 := ba.cell 4 _ rfl
  have fa := ba.free
  go_wp2_with fail
  clear ca0 ca1 ca2 ca3 ca4 fa
  have hkb := HBASE.out w2 hB
  refine (find_any x.keys false n (.slice ka nk kc) (.slice va nv vc) (.slice da nd dc) (.slice qa kl qc) rfl rfl k kl w2 HX.out.keys hkb.1 (by rw [HNK.out]; omega)).mono ?_
  rintro e w3 ⟨rfl, hb3⟩
  rw [HPP.out, HHF.out]
  clear hkb
  replace ba := ba.below hb3 (Nat.le_refl _)
  replace hB := hB.trans (hb3.mono (by omega))
  replace HX := Lib.hid (HX.out.below hb3 (Nat.le_refl _))
  replace hs := Nat.le_trans hs hb3.size
  clear hb3
  go_wp2_with fail
  have hgu : g < w3.heap.size := by omega
  refine wp_region_partsDC (WFi4 nk kc nv vc nd dc kl qc p g n ka va da qa f k x) 9 [[], [0], [], [2], [0, 1, 2, 3], [0, 1, 2, 3, 4], [0, 1, 2, 3, 4, 5], [0, 1, 2, 3, 4, 5], [0, 1, 2, 3, 4, 5, 6]] [some 32, some 33, some 34, some 35, some 36, some 31, some 37, some 38, some 9, some 10] (by kernel_rfl) (by kernel_rfl) rfl (PFi4 nk kc nv vc nd dc kl qc p g n ka va da qa f k x) (PFi4_stable nk kc nv vc nd dc kl qc p g n ka va da qa f k x ) ?pFi4 ?_
  case pFi4 =>
    intro i hi o ho vs lo hx_ w' hg hp
    match i, hi with
    | 0, _ =>
      obtain rfl := Option.some.inj ho
      clear ho
      simp only [actsD, List.getD_cons_zero, List.getD_cons_succ, List.foldl_cons, List.foldl_nil, Act.put, List.setIfInBounds_toArray, List.set_cons_succ, List.set_cons_zero]
      have hsz := hg.size
      have hgB : Below w3.heap.size w3 w' := hg.below (fun k hk => ⟨hk, fun o => by rintro ⟨j, _, _, _, hw⟩; exact False.elim hw⟩)
      have e0 := (hg.cell (g) 0 ba.lt (by rintro ⟨j, _, hne, hb, hw⟩; exact False.elim hw)).trans (ba.cell 0 _ rfl)
      have e1 := (hg.cell (g) 1 ba.lt (by rintro ⟨j, _, hne, hb, hw⟩; exact False.elim hw)).trans (ba.cell 1 _ rfl)
      have e2 := (hg.cell (g) 2 ba.lt (by rintro ⟨j, _, hne, hb, hw⟩; exact False.elim hw)).trans (ba.cell 2 _ rfl)
      have e3 := (hg.cell (g) 3 ba.lt (by rintro ⟨j, _, hne, hb, hw⟩; exact False.elim hw)).trans (ba.cell 3 _ rfl)
      have e4 := (hg.cell (g) 4 ba.lt (by rintro ⟨j, _, hne, hb, hw⟩; exact False.elim hw)).trans (ba.cell 4 _ rfl)
      go_wp2
      exact ⟨_, rfl, GrowC.refl _, rfl⟩
    | 1, _ =>
      obtain rfl := Option.some.inj ho
      clear ho
      simp only [actsD, List.getD_cons_zero, List.getD_cons_succ, List.foldl_cons, List.foldl_nil, Act.put, List.setIfInBounds_toArray, List.set_cons_succ, List.set_cons_zero]
      obtain ⟨_, _, _, h0⟩ := hp 0 (by simp)
      simp only [PFi4] at h0
      have hsz := hg.size
      have hgB : Below w3.heap.size w3 w' := hg.below (fun k hk => ⟨hk, fun o => by rintro ⟨j, _, _, _, hw⟩; exact False.elim hw⟩)
      rw [h0]
      go_wp2_with fail
      refine (to_small _ _ _ _ _ (HX.out.below hgB (Nat.le_refl _)) hsm false n HLF.out HN.out).mono ?_
      rintro e wz ⟨r1, r2, rfl, hr, hb⟩
      go_wp2
      exact ⟨_, rfl, GrowC.of_grow hb, r1, r2, rfl, hr⟩
    | 2, _ =>
      obtain rfl := Option.some.inj ho
      clear ho
      simp only [actsD, List.getD_cons_zero, List.getD_cons_succ, List.foldl_cons, List.foldl_nil, Act.put, List.setIfInBounds_toArray, List.set_cons_succ, List.set_cons_zero]
      have hsz := hg.size
      have hgB : Below w3.heap.size w3 w' := hg.below (fun k hk => ⟨hk, fun o => by rintro ⟨j, _, _, _, hw⟩; exact False.elim hw⟩)
      go_wp2
      exact ⟨_, rfl, GrowC.refl _, rfl⟩
    | 3, _ =>
      obtain rfl := Option.some.inj ho
      clear ho
      simp only [actsD, List.getD_cons_zero, List.getD_cons_succ, List.foldl_cons, List.foldl_nil, Act.put, List.setIfInBounds_toArray, List.set_cons_succ, List.set_cons_zero]
      obtain ⟨_, _, _, h2⟩ := hp 2 (by simp)
      simp only [PFi4] at h2
      have hsz := hg.size
      have hgB : Below w3.heap.size w3 w' := hg.below (fun k hk => ⟨hk, fun o => by rintro ⟨j, _, _, _, hw⟩; exact False.elim hw⟩)
      rw [h2]
      have hkb := HBASE.out w' (hB.trans (hgB.mono (by have := hB.size; omega)))
      have cv := run_str_reads (P := Try.prog) (src := 28) (dst := 9) Try.underlying28 Try.underlying5 Try.underlying9 _ hkb.1
      clear hkb
      go_wp2
      exact ⟨_, rfl, GrowC.refl _, rfl⟩
    | 4, _ =>
      obtain rfl := Option.some.inj ho
      clear ho
      simp only [actsD, List.getD_cons_zero, List.getD_cons_succ, List.foldl_cons, List.foldl_nil, Act.put, List.setIfInBounds_toArray, List.set_cons_succ, List.set_cons_zero]
      obtain ⟨_, _, _, h1⟩ := hp 1 (by simp)
      simp only [PFi4] at h1
      obtain ⟨_, _, _, h3⟩ := hp 3 (by simp)
      simp only [PFi4] at h3
      have hsz := hg.size
      have hgB : Below w3.heap.size w3 w' := hg.below (fun k hk => ⟨hk, fun o => by rintro ⟨j, _, _, _, hw⟩; exact False.elim hw⟩)
      obtain ⟨r1, r2, h1, hr1⟩ := h1
      obtain ⟨ra1, ra2, rfl⟩ := hr1.keys.shape
      obtain ⟨rb1, rb2, rfl⟩ := hr1.vals.shape
      rw [h1, h3]
      go_wp2_with fail
      refine (rfind_any x.keys false n _ _ _ rfl rfl k w' hr1.keys (by rw [HNK.out]; omega)).mono ?_
      rintro e wz ⟨rfl, hb⟩
      rw [HPP.out, HHF.out]
      go_wp2
      exact ⟨_, rfl, GrowC.of_grow hb, rfl⟩
    | 5, _ =>
      obtain rfl := Option.some.inj ho
      clear ho
      simp only [actsD, List.getD_cons_zero, List.getD_cons_succ, List.foldl_cons, List.foldl_nil, Act.put, List.setIfInBounds_toArray, List.set_cons_succ, List.set_cons_zero]
      obtain ⟨_, _, _, h4⟩ := hp 4 (by simp)
      simp only [PFi4] at h4
      have hsz := hg.size
      have hgB : Below w3.heap.size w3 w' := hg.below (fun k hk => ⟨hk, fun o => by rintro ⟨j, _, _, _, hw⟩; exact False.elim hw⟩)
      rw [h4]
      go_wp2
      exact ⟨_, rfl, GrowC.refl _, rfl⟩
    | 6, _ =>
      obtain rfl := Option.some.inj ho
      clear ho
      simp only [actsD, List.getD_cons_zero, List.getD_cons_succ, List.foldl_cons, List.foldl_nil, Act.put, List.setIfInBounds_toArray, List.set_cons_succ, List.set_cons_zero]
      obtain ⟨_, _, _, h5⟩ := hp 5 (by simp)
      simp only [PFi4] at h5
      have hsz := hg.size
      have hgB : Below w3.heap.size w3 w' := hg.below (fun k hk => ⟨hk, fun o => by rintro ⟨j, _, _, _, hw⟩; exact False.elim hw⟩)
      rw [h5]
      go_wp2
      exact ⟨_, rfl, GrowC.refl _, rfl⟩
    | 7, _ =>
      obtain rfl := Option.some.inj ho
      clear ho
      simp only [actsD, List.getD_cons_zero, List.getD_cons_succ, List.foldl_cons, List.foldl_nil, Act.put, List.setIfInBounds_toArray, List.set_cons_succ, List.set_cons_zero]
      obtain ⟨_, _, _, h5⟩ := hp 5 (by simp)
      simp only [PFi4] at h5
      have hsz := hg.size
      have hgB : Below w3.heap.size w3 w' := hg.below (fun k hk => ⟨hk, fun o => by rintro ⟨j, _, _, _, hw⟩; exact False.elim hw⟩)
      rw [h5]
      go_wp2
      exact ⟨_, rfl, GrowC.refl _, rfl⟩
    | 8, _ =>
      obtain rfl := Option.some.inj ho
      clear ho
      simp only [actsD, List.getD_cons_zero, List.getD_cons_succ, List.foldl_cons, List.foldl_nil, Act.put, List.setIfInBounds_toArray, List.set_cons_succ, List.set_cons_zero]
      obtain ⟨_, _, _, h6⟩ := hp 6 (by simp)
      simp only [PFi4] at h6
      have hsz := hg.size
      have hgB : Below w3.heap.size w3 w' := hg.below (fun k hk => ⟨hk, fun o => by rintro ⟨j, _, _, _, hw⟩; exact False.elim hw⟩)
      rw [h6]
      go_wp2
      exact ⟨_, rfl, GrowC.refl _, rfl⟩
    | (q + 9), hq => exact absurd hq (by omega)
  intro vS lo hi w4 hg hp hd
  obtain ⟨_, _, _, h0⟩ := hp 0 (by omega)
  obtain ⟨_, _, _, h1⟩ := hp 1 (by omega)
  obtain ⟨_, _, _, h2⟩ := hp 2 (by omega)
  obtain ⟨_, _, _, h3⟩ := hp 3 (by omega)
  obtain ⟨_, _, _, h4⟩ := hp 4 (by omega)
  obtain ⟨_, _, _, h5⟩ := hp 5 (by omega)
  obtain ⟨_, _, _, h6⟩ := hp 6 (by omega)
  obtain ⟨_, _, _, h7⟩ := hp 7 (by omega)
  obtain ⟨_, _, _, h8⟩ := hp 8 (by omega)
  simp only [PFi4] at h0 h1 h2 h3 h4 h5 h6 h7 h8
  clear hp hd
  have hsz := hg.size
  replace ba := ba.grow hg (by intro i _; rintro ⟨j, _, hw⟩; exact False.elim hw)
  replace hB := hB.trans (hg.below (fun k hk => ⟨by omega, fun o => by rintro ⟨j, _, hw⟩; exact False.elim hw⟩))
  have hr : List.range 9 = [0, 1, 2, 3, 4, 5, 6, 7, 8] := rfl
  rw [hr]
  clear hr
  simp only [List.drop_succ_cons, List.drop_zero, List.drop_nil, actsD, List.getD_cons_zero, List.getD_cons_succ, List.foldl_cons, List.foldl_nil, Act.put, List.setIfInBounds_toArray, List.set_cons_succ, List.set_cons_zero, h0, h2, h3, h4, h5, h6, h7, h8]
  clear h0 h2 h3 h4 h5 h6 h7 h8
  have hb4 : Below w3.heap.size w3 w4 := hg.below (fun k hk => ⟨hk, fun o => by rintro ⟨j, _, hw⟩; exact hw⟩)
  replace HX := Lib.hid (HX.out.below hb4 (Nat.le_refl _))
  replace hs := Nat.le_trans hs hb4.size
  clear h1 hg hb4 hsz hgu
  have ca0 := ba.cell 0 _ rfl
  have ca1 := ba.cell 1 _ rfl
  have ca2 := ba.cell 2 _ rfl
  have ca3 := ba.cell 3 _ rfl
  have ca4 := ba.cell 4 _ rfl
  have fa := ba.free
  go_wp2_with fail
  clear ca0 ca1 ca2 ca3 ca4 fa
  have hkb := HBASE.out w4 hB
  have hput := put_any x hsm (.slice ka nk kc) (.slice va nv vc) (.slice da nd dc) k v (.slice qa kl qc) (.slice ua vl uc) w4 HX.out (by rw [HKL.out]; exact hkb.1) (by rw [HVL.out]; exact hkb.2) HKQ.out HVQ.out
  rw [HLF.out, HN.out] at hput
  refine hput.mono ?_
  rintro e w5 ⟨r, rfl, ma, mb, mc, rfl, hky, hb5⟩
  clear hput hkb
  rw [HY.out, HMK.out, HMV.out, HMD.out] at hky
  simp only [nodeV, HY.out, HYL.out, HYN.out, HMK.out, HMV.out, HMD.out]
  replace hky := hky.now.node
  replace ba := ba.below hb5 (Nat.le_refl _)
  replace hB := hB.trans (hb5.mono (by omega))
  replace HX := Lib.hid (HX.out.below hb5 (Nat.le_refl _))
  replace hs := Nat.le_trans hs hb5.size
  clear hb5
  obtain ⟨g3, hg3⟩ : ∃ g3, w5.heap.size = g3 := ⟨_, rfl⟩
  have bm := Box.new w5 #[.bool false, .slice ma mk mk, .slice mb mv mv, .slice mc md md, .int .i64 n] 25 hg3.symm
  have hgr := (Below.refl w5.heap.size w5).alloc (Nat.le_refl _) (.cells #[.bool false, .slice ma mk mk, .slice mb mv mv, .slice mc md md, .int .i64 n] 25)
  have h3g : g < g3 := by omega
  have hlt0 := ba.lt
  have HG3 := Lib.hid hg3
  have hs3 : g3 + 1 ≤ (w5.alloc (.cells #[.bool false, .slice ma mk mk, .slice mb mv mv, .slice mc md md, .int .i64 n] 25)).heap.size := by simp; omega
  have HW := Lib.hid (And.intro (ba.below hgr (Nat.le_refl _)) (And.intro bm (And.intro (hB.trans (hgr.mono (by omega))) (And.intro (HX.out.below hgr (Nat.le_refl _)) (And.intro (hky.below hgr (Nat.le_refl _)) hs3)))))
  clear bm hgr hg3 hky hB HX hs3 hs
  have ca0 := ba.cell 0 _ rfl
  have ca1 := ba.cell 1 _ rfl
  have ca2 := ba.cell 2 _ rfl
  have ca3 := ba.cell 3 _ rfl
  have ca4 := ba.cell 4 _ rfl
  have fa := ba.free
  go_wp2_with fail
  clear ca0 ca1 ca2 ca3 ca4 fa
  clear ba hlt0
  rw [HG3.out]
  refine calls_world (fun u => Box u g [.bool false, .slice ka nk kc, .slice va nv vc, .slice da nd dc, .int .i64 n] ∧ Box u g3 [.bool false, .slice ma mk mk, .slice mb mv mv, .slice mc md md, .int .i64 n] ∧ Below w.heap.size w u ∧ NodeAt u (.slice ka nk kc) (.slice va nv vc) (.slice da nd dc) x ∧ NodeAt u (.slice ma mk mk) (.slice mb mv mv) (.slice mc md md) y ∧ g3 + 1 ≤ u.heap.size) HW.out ?_
  clear HW
  rintro w6 ⟨ba, bm, hB, hx, hy, hs⟩
  have HX := Lib.hid hx
  have HYAT := Lib.hid hy
  clear hx hy
  have hkb := HBASE.out w6 hB
  have hdel := del_any x hsm (.slice ka nk kc) (.slice va nv vc) (.slice da nd dc) k (.slice qa kl qc) w6 HX.out (by rw [HKL.out]; exact hkb.1) HKQ.out
  rw [HLF.out, HN.out, HOK.out] at hdel
  refine hdel.mono ?_
  rintro e w7 ⟨r, rfl, ea, eb, ec, rfl, hkz, hb7⟩
  clear hdel hkb
  rw [HZ.out, HEK.out, HEV.out, HED.out] at hkz
  simp only [nodeV, HZ.out, HZL.out, HZN.out, HEK.out, HEV.out, HED.out]
  replace hkz := hkz.now.node
  replace ba := ba.below hb7 (Nat.le_refl _)
  replace bm := bm.below hb7 (Nat.le_refl _)
  replace hB := hB.trans (hb7.mono (by omega))
  replace HX := Lib.hid (HX.out.below hb7 (Nat.le_refl _))
  replace HYAT := Lib.hid (HYAT.out.below hb7 (Nat.le_refl _))
  replace hs := Nat.le_trans hs hb7.size
  clear hb7
  obtain ⟨g4, hg4⟩ : ∃ g4, w7.heap.size = g4 := ⟨_, rfl⟩
  have bd := Box.new w7 #[.bool false, .slice ea ek ek, .slice eb ev ev, .slice ec ed ed, .int .i64 n] 25 hg4.symm
  have hgr := (Below.refl w7.heap.size w7).alloc (Nat.le_refl _) (.cells #[.bool false, .slice ea ek ek, .slice eb ev ev, .slice ec ed ed, .int .i64 n] 25)
  have h4g : g3 < g4 := by omega
  have hlt0 := ba.lt
  have hlt1 := bm.lt
  have HG4 := Lib.hid hg4
  have hs4 : g4 + 1 ≤ (w7.alloc (.cells #[.bool false, .slice ea ek ek, .slice eb ev ev, .slice ec ed ed, .int .i64 n] 25)).heap.size := by simp; omega
  have HW := Lib.hid (And.intro (ba.below hgr (Nat.le_refl _)) (And.intro (bm.below hgr (Nat.le_refl _)) (And.intro bd (And.intro (hB.trans (hgr.mono (by omega))) (And.intro (HX.out.below hgr (Nat.le_refl _)) (And.intro (HYAT.out.below hgr (Nat.le_refl _)) (And.intro (hkz.below hgr (Nat.le_refl _)) hs4)))))))
  clear bd hgr hg4 hkz hB HX HYAT hs4 hs
  have ca0 := ba.cell 0 _ rfl
  have ca1 := ba.cell 1 _ rfl
  have ca2 := ba.cell 2 _ rfl
  have ca3 := ba.cell 3 _ rfl
  have ca4 := ba.cell 4 _ rfl
  have fa := ba.free
  have cm0 := bm.cell 0 _ rfl
  have cm1 := bm.cell 1 _ rfl
  have cm2 := bm.cell 2 _ rfl
  have cm3 := bm.cell 3 _ rfl
  have cm4 := bm.cell 4 _ rfl
  have fm := bm.free
  go_wp2_with fail
  clear ca0 ca1 ca2 ca3 ca4 fa
  clear cm0 cm1 cm2 cm3 cm4 fm
  clear ba bm hlt0 hlt1
  rw [HG4.out]
  refine wp_world (fun u => Box u g [.bool false, .slice ka nk kc, .slice va nv vc, .slice da nd dc, .int .i64 n] ∧ Box u g3 [.bool false, .slice ma mk mk, .slice mb mv mv, .slice mc md md, .int .i64 n] ∧ Box u g4 [.bool false, .slice ea ek ek, .slice eb ev ev, .slice ec ed ed, .int .i64 n] ∧ Below w.heap.size w u ∧ NodeAt u (.slice ka nk kc) (.slice va nv vc) (.slice da nd dc) x ∧ NodeAt u (.slice ma mk mk) (.slice mb mv mv) (.slice mc md md) y ∧ NodeAt u (.slice ea ek ek) (.slice eb ev ev) (.slice ec ed ed) z ∧ g4 + 1 ≤ u.heap.size) HW.out ?_
  clear HW
  rintro w8 ⟨ba, bm, bd, hB, hx, hy, hz, hs⟩
  have HX := Lib.hid hx
  have HYAT := Lib.hid hy
  have HZAT := Lib.hid hz
  clear hx hy hz
  refine wp_region_partsDC (WFi7 nk kc nv vc nd dc kl qc p g g3 g4 mk mv md ek ev ed sz n ka va da qa ma mb mc ea eb ec f k v x y z) 16 [[], [], [0, 1], [0, 1, 2], [0, 1, 2, 3], [0, 1, 2, 3], [0, 1, 2, 3, 4, 5], [0, 1, 2, 3, 4, 5, 6], [0, 1, 2, 3, 4, 5, 6, 7], [0, 1, 2, 3, 4, 5, 6, 7, 8], [0, 1, 2, 3, 4, 5, 6, 7, 8, 9], [0, 1, 2, 3, 4, 5, 6, 7, 8], [0, 1, 2, 3, 4, 5, 6, 7, 8, 9, 10, 11], [0, 1, 2, 3, 4, 5, 6, 7, 8, 9, 10, 11, 12], [0, 1, 2, 3, 4, 5, 6, 7, 8, 9, 10, 11, 12, 13], [0, 1, 2, 3, 4, 5, 6, 7, 8, 9, 10, 11, 12, 13, 14]] [some 49, some 50, some 51, some 52, some 53, some 54, some 55, some 56, some 57, some 58, some 59, some 60, some 61, some 62, some 63, some 64] (by kernel_rfl) (by kernel_rfl) rfl (PFi7 nk kc nv vc nd dc kl qc p g g3 g4 mk mv md ek ev ed sz n ka va da qa ma mb mc ea eb ec f k v x y z) (PFi7_stable nk kc nv vc nd dc kl qc p g g3 g4 mk mv md ek ev ed sz n ka va da qa ma mb mc ea eb ec f k v x y z ) ?pFi7 ?_
  case pFi7 =>
    intro i hi o ho vs lo hx_ w' hg hp
    match i, hi with
    | 0, _ =>
      obtain rfl := Option.some.inj ho
      clear ho
      simp only [actsD, List.getD_cons_zero, List.getD_cons_succ, List.foldl_cons, List.foldl_nil, Act.put, List.setIfInBounds_toArray, List.set_cons_succ, List.set_cons_zero]
      have hsz := hg.size
      have hgB : Below w8.heap.size w8 w' := hg.below (fun k hk => ⟨hk, fun o => by rintro ⟨j, _, _, _, hw⟩; exact False.elim hw⟩)
      go_wp2
      exact ⟨_, rfl, GrowC.refl _, rfl⟩
    | 1, _ =>
      obtain rfl := Option.some.inj ho
      clear ho
      simp only [actsD, List.getD_cons_zero, List.getD_cons_succ, List.foldl_cons, List.foldl_nil, Act.put, List.setIfInBounds_toArray, List.set_cons_succ, List.set_cons_zero]
      have hsz := hg.size
      have hgB : Below w8.heap.size w8 w' := hg.below (fun k hk => ⟨hk, fun o => by rintro ⟨j, _, _, _, hw⟩; exact False.elim hw⟩)
      go_wp2
      exact ⟨_, rfl, GrowC.refl _, rfl⟩
    | 2, _ =>
      obtain rfl := Option.some.inj ho
      clear ho
      simp only [actsD, List.getD_cons_zero, List.getD_cons_succ, List.foldl_cons, List.foldl_nil, Act.put, List.setIfInBounds_toArray, List.set_cons_succ, List.set_cons_zero]
      obtain ⟨_, _, _, h0⟩ := hp 0 (by simp)
      simp only [PFi7] at h0
      obtain ⟨_, _, _, h1⟩ := hp 1 (by simp)
      simp only [PFi7] at h1
      have hsz := hg.size
      have hgB : Below w8.heap.size w8 w' := hg.below (fun k hk => ⟨hk, fun o => by rintro ⟨j, _, _, _, hw⟩; exact False.elim hw⟩)
      rw [h0, h1]
      go_wp2
      exact ⟨_, rfl, GrowC.refl _, rfl⟩
    | 3, _ =>
      obtain rfl := Option.some.inj ho
      clear ho
      simp only [actsD, List.getD_cons_zero, List.getD_cons_succ, List.foldl_cons, List.foldl_nil, Act.put, List.setIfInBounds_toArray, List.set_cons_succ, List.set_cons_zero]
      obtain ⟨_, _, _, h2⟩ := hp 2 (by simp)
      simp only [PFi7] at h2
      have hsz := hg.size
      have hgB : Below w8.heap.size w8 w' := hg.below (fun k hk => ⟨hk, fun o => by rintro ⟨j, _, _, _, hw⟩; exact False.elim hw⟩)
      rw [h2]
      go_wp2
      exact ⟨_, rfl, GrowC.refl _, rfl⟩
    | 4, _ =>
      obtain rfl := Option.some.inj ho
      clear ho
      simp only [actsD, List.getD_cons_zero, List.getD_cons_succ, List.foldl_cons, List.foldl_nil, Act.put, List.setIfInBounds_toArray, List.set_cons_succ, List.set_cons_zero]
      obtain ⟨_, _, _, h3⟩ := hp 3 (by simp)
      simp only [PFi7] at h3
      have hsz := hg.size
      have hgB : Below w8.heap.size w8 w' := hg.below (fun k hk => ⟨hk, fun o => by rintro ⟨j, _, _, _, hw⟩; exact False.elim hw⟩)
      rw [h3]
      go_wp2
      exact ⟨_, rfl, GrowC.refl _, rfl⟩
    | 5, _ =>
      obtain rfl := Option.some.inj ho
      clear ho
      simp only [actsD, List.getD_cons_zero, List.getD_cons_succ, List.foldl_cons, List.foldl_nil, Act.put, List.setIfInBounds_toArray, List.set_cons_succ, List.set_cons_zero]
      obtain ⟨_, _, _, h3⟩ := hp 3 (by simp)
      simp only [PFi7] at h3
      have hsz := hg.size
      have hgB : Below w8.heap.size w8 w' := hg.below (fun k hk => ⟨hk, fun o => by rintro ⟨j, _, _, _, hw⟩; exact False.elim hw⟩)
      rw [h3]
      go_wp2
      exact ⟨_, rfl, GrowC.refl _, rfl⟩
    | 6, _ =>
      obtain rfl := Option.some.inj ho
      clear ho
      simp only [actsD, List.getD_cons_zero, List.getD_cons_succ, List.foldl_cons, List.foldl_nil, Act.put, List.setIfInBounds_toArray, List.set_cons_succ, List.set_cons_zero]
      obtain ⟨_, _, _, h3⟩ := hp 3 (by simp)
      simp only [PFi7] at h3
      obtain ⟨_, _, _, h4⟩ := hp 4 (by simp)
      simp only [PFi7] at h4
      obtain ⟨_, _, _, h5⟩ := hp 5 (by simp)
      simp only [PFi7] at h5
      have hsz := hg.size
      have hgB : Below w8.heap.size w8 w' := hg.below (fun k hk => ⟨hk, fun o => by rintro ⟨j, _, _, _, hw⟩; exact False.elim hw⟩)
      rw [h3, h4, h5]
      go_wp2
      exact ⟨_, rfl, GrowC.refl _, rfl⟩
    | 7, _ =>
      obtain rfl := Option.some.inj ho
      clear ho
      simp only [actsD, List.getD_cons_zero, List.getD_cons_succ, List.foldl_cons, List.foldl_nil, Act.put, List.setIfInBounds_toArray, List.set_cons_succ, List.set_cons_zero]
      obtain ⟨_, _, _, h3⟩ := hp 3 (by simp)
      simp only [PFi7] at h3
      obtain ⟨_, _, _, h6⟩ := hp 6 (by simp)
      simp only [PFi7] at h6
      have hsz := hg.size
      have hgB : Below w8.heap.size w8 w' := hg.below (fun k hk => ⟨hk, fun o => by rintro ⟨j, _, _, _, hw⟩; exact False.elim hw⟩)
      rw [h3, h6]
      go_wp2
      exact ⟨_, rfl, GrowC.refl _, rfl⟩
    | 8, _ =>
      obtain rfl := Option.some.inj ho
      clear ho
      simp only [actsD, List.getD_cons_zero, List.getD_cons_succ, List.foldl_cons, List.foldl_nil, Act.put, List.setIfInBounds_toArray, List.set_cons_succ, List.set_cons_zero]
      obtain ⟨_, _, _, h7⟩ := hp 7 (by simp)
      simp only [PFi7] at h7
      have hsz := hg.size
      have hgB : Below w8.heap.size w8 w' := hg.below (fun k hk => ⟨hk, fun o => by rintro ⟨j, _, _, _, hw⟩; exact False.elim hw⟩)
      rw [h7]
      go_wp2
      exact ⟨_, rfl, GrowC.refl _, rfl⟩
    | 9, _ =>
      obtain rfl := Option.some.inj ho
      clear ho
      simp only [actsD, List.getD_cons_zero, List.getD_cons_succ, List.foldl_cons, List.foldl_nil, Act.put, List.setIfInBounds_toArray, List.set_cons_succ, List.set_cons_zero]
      obtain ⟨_, _, _, h8⟩ := hp 8 (by simp)
      simp only [PFi7] at h8
      have hsz := hg.size
      have hgB : Below w8.heap.size w8 w' := hg.below (fun k hk => ⟨hk, fun o => by rintro ⟨j, _, _, _, hw⟩; exact False.elim hw⟩)
      rw [h8]
      have e0 := (hg.cell (g) 0 ba.lt (by rintro ⟨j, _, hne, hb, hw⟩; exact False.elim hw)).trans (ba.cell 0 _ rfl)
      have e1 := (hg.cell (g) 1 ba.lt (by rintro ⟨j, _, hne, hb, hw⟩; exact False.elim hw)).trans (ba.cell 1 _ rfl)
      have e2 := (hg.cell (g) 2 ba.lt (by rintro ⟨j, _, hne, hb, hw⟩; exact False.elim hw)).trans (ba.cell 2 _ rfl)
      have e3 := (hg.cell (g) 3 ba.lt (by rintro ⟨j, _, hne, hb, hw⟩; exact False.elim hw)).trans (ba.cell 3 _ rfl)
      have e4 := (hg.cell (g) 4 ba.lt (by rintro ⟨j, _, hne, hb, hw⟩; exact False.elim hw)).trans (ba.cell 4 _ rfl)
      go_wp2
      exact ⟨_, rfl, GrowC.refl _, rfl⟩
    | 10, _ =>
      obtain rfl := Option.some.inj ho
      clear ho
      simp only [actsD, List.getD_cons_zero, List.getD_cons_succ, List.foldl_cons, List.foldl_nil, Act.put, List.setIfInBounds_toArray, List.set_cons_succ, List.set_cons_zero]
      obtain ⟨_, _, _, h8⟩ := hp 8 (by simp)
      simp only [PFi7] at h8
      obtain ⟨_, _, _, h9⟩ := hp 9 (by simp)
      simp only [PFi7] at h9
      have hsz := hg.size
      have hgB : Below w8.heap.size w8 w' := hg.below (fun k hk => ⟨hk, fun o => by rintro ⟨j, _, _, _, hw⟩; exact False.elim hw⟩)
      rw [h8, h9]
      go_wp2_with fail
      refine (psize_any x hsm _ _ _ w' (HX.out.below hgB (Nat.le_refl _)) false n HLF.out).mono ?_
      rintro e wz ⟨rfl, hb⟩
      rw [HSZ.out]
      go_wp2
      exact ⟨_, rfl, GrowC.of_grow hb, rfl⟩
    | 11, _ =>
      obtain rfl := Option.some.inj ho
      clear ho
      simp only [actsD, List.getD_cons_zero, List.getD_cons_succ, List.foldl_cons, List.foldl_nil, Act.put, List.setIfInBounds_toArray, List.set_cons_succ, List.set_cons_zero]
      obtain ⟨_, _, _, h8⟩ := hp 8 (by simp)
      simp only [PFi7] at h8
      have hsz := hg.size
      have hgB : Below w8.heap.size w8 w' := hg.below (fun k hk => ⟨hk, fun o => by rintro ⟨j, _, _, _, hw⟩; exact False.elim hw⟩)
      rw [h8]
      have e0 := (hg.cell (g) 0 ba.lt (by rintro ⟨j, _, hne, hb, hw⟩; exact False.elim hw)).trans (ba.cell 0 _ rfl)
      have e1 := (hg.cell (g) 1 ba.lt (by rintro ⟨j, _, hne, hb, hw⟩; exact False.elim hw)).trans (ba.cell 1 _ rfl)
      have e2 := (hg.cell (g) 2 ba.lt (by rintro ⟨j, _, hne, hb, hw⟩; exact False.elim hw)).trans (ba.cell 2 _ rfl)
      have e3 := (hg.cell (g) 3 ba.lt (by rintro ⟨j, _, hne, hb, hw⟩; exact False.elim hw)).trans (ba.cell 3 _ rfl)
      have e4 := (hg.cell (g) 4 ba.lt (by rintro ⟨j, _, hne, hb, hw⟩; exact False.elim hw)).trans (ba.cell 4 _ rfl)
      go_wp2
      exact ⟨_, rfl, GrowC.refl _, rfl⟩
    | 12, _ =>
      obtain rfl := Option.some.inj ho
      clear ho
      simp only [actsD, List.getD_cons_zero, List.getD_cons_succ, List.foldl_cons, List.foldl_nil, Act.put, List.setIfInBounds_toArray, List.set_cons_succ, List.set_cons_zero]
      obtain ⟨_, _, _, h8⟩ := hp 8 (by simp)
      simp only [PFi7] at h8
      obtain ⟨_, _, _, h11⟩ := hp 11 (by simp)
      simp only [PFi7] at h11
      have hsz := hg.size
      have hgB : Below w8.heap.size w8 w' := hg.below (fun k hk => ⟨hk, fun o => by rintro ⟨j, _, _, _, hw⟩; exact False.elim hw⟩)
      rw [h8, h11]
      go_wp2_with fail
      refine (to_small _ _ _ _ _ (HX.out.below hgB (Nat.le_refl _)) hsm false n HLF.out HN.out).mono ?_
      rintro e wz ⟨r1, r2, rfl, hr, hb⟩
      go_wp2
      exact ⟨_, rfl, GrowC.of_grow hb, r1, r2, rfl, hr⟩
    | 13, _ =>
      obtain rfl := Option.some.inj ho
      clear ho
      simp only [actsD, List.getD_cons_zero, List.getD_cons_succ, List.foldl_cons, List.foldl_nil, Act.put, List.setIfInBounds_toArray, List.set_cons_succ, List.set_cons_zero]
      obtain ⟨_, _, _, h8⟩ := hp 8 (by simp)
      simp only [PFi7] at h8
      obtain ⟨_, _, _, h12⟩ := hp 12 (by simp)
      simp only [PFi7] at h12
      have hsz := hg.size
      have hgB : Below w8.heap.size w8 w' := hg.below (fun k hk => ⟨hk, fun o => by rintro ⟨j, _, _, _, hw⟩; exact False.elim hw⟩)
      obtain ⟨r1, r2, h12, hr1⟩ := h12
      rw [h8, h12]
      go_wp2_with fail
      refine (rsize_any x hsm _ _ _ w' hr1 false n HLF.out).mono ?_
      rintro e wz ⟨rfl, hb⟩
      rw [HSR.out]
      go_wp2
      exact ⟨_, rfl, GrowC.of_grow hb, rfl⟩
    | 14, _ =>
      obtain rfl := Option.some.inj ho
      clear ho
      simp only [actsD, List.getD_cons_zero, List.getD_cons_succ, List.foldl_cons, List.foldl_nil, Act.put, List.setIfInBounds_toArray, List.set_cons_succ, List.set_cons_zero]
      obtain ⟨_, _, _, h8⟩ := hp 8 (by simp)
      simp only [PFi7] at h8
      obtain ⟨_, _, _, h10⟩ := hp 10 (by simp)
      simp only [PFi7] at h10
      obtain ⟨_, _, _, h13⟩ := hp 13 (by simp)
      simp only [PFi7] at h13
      have hsz := hg.size
      have hgB : Below w8.heap.size w8 w' := hg.below (fun k hk => ⟨hk, fun o => by rintro ⟨j, _, _, _, hw⟩; exact False.elim hw⟩)
      rw [h8, h10, h13]
      go_wp2
      exact ⟨_, rfl, GrowC.refl _, rfl⟩
    | 15, _ =>
      obtain rfl := Option.some.inj ho
      clear ho
      simp only [actsD, List.getD_cons_zero, List.getD_cons_succ, List.foldl_cons, List.foldl_nil, Act.put, List.setIfInBounds_toArray, List.set_cons_succ, List.set_cons_zero]
      obtain ⟨_, _, _, h8⟩ := hp 8 (by simp)
      simp only [PFi7] at h8
      obtain ⟨_, _, _, h14⟩ := hp 14 (by simp)
      simp only [PFi7] at h14
      have hsz := hg.size
      have hgB : Below w8.heap.size w8 w' := hg.below (fun k hk => ⟨hk, fun o => by rintro ⟨j, _, _, _, hw⟩; exact False.elim hw⟩)
      rw [h8, h14]
      go_wp2
      exact ⟨_, rfl, GrowC.refl _, rfl⟩
    | (q + 16), hq => exact absurd hq (by omega)
  intro vS lo hi w9 hg hp hd
  obtain ⟨_, _, _, h0⟩ := hp 0 (by omega)
  obtain ⟨_, _, _, h1⟩ := hp 1 (by omega)
  obtain ⟨_, _, _, h2⟩ := hp 2 (by omega)
  obtain ⟨_, _, _, h3⟩ := hp 3 (by omega)
  obtain ⟨_, _, _, h4⟩ := hp 4 (by omega)
  obtain ⟨_, _, _, h5⟩ := hp 5 (by omega)
  obtain ⟨_, _, _, h6⟩ := hp 6 (by omega)
  obtain ⟨_, _, _, h7⟩ := hp 7 (by omega)
  obtain ⟨_, _, _, h8⟩ := hp 8 (by omega)
  obtain ⟨_, _, _, h9⟩ := hp 9 (by omega)
  obtain ⟨_, _, _, h10⟩ := hp 10 (by omega)
  obtain ⟨_, _, _, h11⟩ := hp 11 (by omega)
  obtain ⟨_, _, _, h12⟩ := hp 12 (by omega)
  obtain ⟨_, _, _, h13⟩ := hp 13 (by omega)
  obtain ⟨_, _, _, h14⟩ := hp 14 (by omega)
  obtain ⟨_, _, _, h15⟩ := hp 15 (by omega)
  simp only [PFi7] at h0 h1 h2 h3 h4 h5 h6 h7 h8 h9 h10 h11 h12 h13 h14 h15
  clear hp hd
  have hsz := hg.size
  replace ba := ba.grow hg (by intro i _; rintro ⟨j, _, hw⟩; exact False.elim hw)
  replace bm := bm.grow hg (by intro i _; rintro ⟨j, _, hw⟩; exact False.elim hw)
  replace bd := bd.grow hg (by intro i _; rintro ⟨j, _, hw⟩; exact False.elim hw)
  replace hB := hB.trans (hg.below (fun k hk => ⟨by omega, fun o => by rintro ⟨j, _, hw⟩; exact False.elim hw⟩))
  have hr : List.range 16 = [0, 1, 2, 3, 4, 5, 6, 7, 8, 9, 10, 11, 12, 13, 14, 15] := rfl
  rw [hr]
  clear hr
  simp only [List.drop_succ_cons, List.drop_zero, List.drop_nil, actsD, List.getD_cons_zero, List.getD_cons_succ, List.foldl_cons, List.foldl_nil, Act.put, List.setIfInBounds_toArray, List.set_cons_succ, List.set_cons_zero, h0, h1, h2, h3, h4, h5, h6, h7, h8, h9, h10, h11, h13, h14, h15]
  clear h0 h1 h2 h3 h4 h5 h6 h7 h8 h9 h10 h11 h13 h14 h15
  clear h12
  have hbb : Below w8.heap.size w8 w9 := hg.below (fun k hk => ⟨hk, fun o => by rintro ⟨j, _, hw⟩; exact hw⟩)
  replace HX := Lib.hid (HX.out.below hbb (Nat.le_refl _))
  replace HYAT := Lib.hid (HYAT.out.below hbb (Nat.le_refl _))
  replace HZAT := Lib.hid (HZAT.out.below hbb (Nat.le_refl _))
  replace hs := Nat.le_trans hs hbb.size
  clear hg hbb hsz
  have ca0 := ba.cell 0 _ rfl
  have ca1 := ba.cell 1 _ rfl
  have ca2 := ba.cell 2 _ rfl
  have ca3 := ba.cell 3 _ rfl
  have ca4 := ba.cell 4 _ rfl
  have fa := ba.free
  have cm0 := bm.cell 0 _ rfl
  have cm1 := bm.cell 1 _ rfl
  have cm2 := bm.cell 2 _ rfl
  have cm3 := bm.cell 3 _ rfl
  have cm4 := bm.cell 4 _ rfl
  have fm := bm.free
  have cd0 := bd.cell 0 _ rfl
  have cd1 := bd.cell 1 _ rfl
  have cd2 := bd.cell 2 _ rfl
  have cd3 := bd.cell 3 _ rfl
  have cd4 := bd.cell 4 _ rfl
  have fd := bd.free
  go_upto_region 10 with (fail)
  clear ca0 ca1 ca2 ca3 ca4 fa
  clear cm0 cm1 cm2 cm3 cm4 fm
  clear cd0 cd1 cd2 cd3 cd4 fd
  refine wp_region_partsDC (WFi10 nk kc nv vc nd dc kl qc p g g3 g4 mk mv md ek ev ed sz n ka va da qa ma mb mc ea eb ec f k v x y z) 19 [[], [0], [0, 1], [0, 1, 2], [0, 1, 2, 3], [0, 1, 2], [0, 1, 2, 3, 4, 5], [0, 1, 2, 3, 4, 5, 6], [0, 1, 2, 3, 4, 5, 6, 7], [0, 1, 2, 3, 4, 5, 6, 7, 8], [0, 1, 2, 3, 4, 5, 6, 7, 8, 9], [0, 1, 2, 3, 4, 5, 6, 7, 8, 9, 10], [0, 1, 2, 3, 4, 5, 6, 7, 8, 9], [0, 1, 2, 3, 4, 5, 6, 7, 8, 9, 10, 11, 12], [0, 1, 2, 3, 4, 5, 6, 7, 8, 9, 10, 11, 12, 13], [0, 1, 2, 3, 4, 5, 6, 7, 8, 9, 10, 11, 12, 13, 14], [0, 1, 2, 3, 4, 5, 6, 7, 8, 9, 10, 11, 12, 13, 14, 15], [0, 1, 2, 3, 4, 5, 6, 7, 8, 9, 10, 11, 12, 13, 14, 15, 16], [0, 1, 2, 3, 4, 5, 6, 7, 8, 9, 10, 11, 12, 13, 14, 15, 16, 17]] [some 68, some 69, some 70, some 71, some 72, some 73, some 74, some 75, some 76, some 77, some 78, some 79, some 80, some 81, some 82, some 83, some 84, some 85, some 86, some 6] (by kernel_rfl) (by kernel_rfl) rfl (PFi10 nk kc nv vc nd dc kl qc p g g3 g4 mk mv md ek ev ed sz n ka va da qa ma mb mc ea eb ec f k v x y z) (PFi10_stable nk kc nv vc nd dc kl qc p g g3 g4 mk mv md ek ev ed sz n ka va da qa ma mb mc ea eb ec f k v x y z ) ?pFi10 ?_
  case pFi10 =>
    intro i hi o ho vs lo hx_ w' hg hp
    match i, hi with
    | 0, _ =>
      obtain rfl := Option.some.inj ho
      clear ho
      simp only [actsD, List.getD_cons_zero, List.getD_cons_succ, List.foldl_cons, List.foldl_nil, Act.put, List.setIfInBounds_toArray, List.set_cons_succ, List.set_cons_zero]
      have hsz := hg.size
      have hgB : Below w9.heap.size w9 w' := hg.below (fun k hk => ⟨hk, fun o => by rintro ⟨j, _, _, _, hw⟩; exact False.elim hw⟩)
      go_wp2
      exact ⟨_, rfl, GrowC.refl _, rfl⟩
    | 1, _ =>
      obtain rfl := Option.some.inj ho
      clear ho
      simp only [actsD, List.getD_cons_zero, List.getD_cons_succ, List.foldl_cons, List.foldl_nil, Act.put, List.setIfInBounds_toArray, List.set_cons_succ, List.set_cons_zero]
      obtain ⟨_, _, _, h0⟩ := hp 0 (by simp)
      simp only [PFi10] at h0
      have hsz := hg.size
      have hgB : Below w9.heap.size w9 w' := hg.below (fun k hk => ⟨hk, fun o => by rintro ⟨j, _, _, _, hw⟩; exact False.elim hw⟩)
      rw [h0]
      go_wp2
      exact ⟨_, rfl, GrowC.refl _, rfl⟩
    | 2, _ =>
      obtain rfl := Option.some.inj ho
      clear ho
      simp only [actsD, List.getD_cons_zero, List.getD_cons_succ, List.foldl_cons, List.foldl_nil, Act.put, List.setIfInBounds_toArray, List.set_cons_succ, List.set_cons_zero]
      obtain ⟨_, _, _, h1⟩ := hp 1 (by simp)
      simp only [PFi10] at h1
      have hsz := hg.size
      have hgB : Below w9.heap.size w9 w' := hg.below (fun k hk => ⟨hk, fun o => by rintro ⟨j, _, _, _, hw⟩; exact False.elim hw⟩)
      rw [h1]
      go_wp2
      exact ⟨_, rfl, GrowC.refl _, rfl⟩
    | 3, _ =>
      obtain rfl := Option.some.inj ho
      clear ho
      simp only [actsD, List.getD_cons_zero, List.getD_cons_succ, List.foldl_cons, List.foldl_nil, Act.put, List.setIfInBounds_toArray, List.set_cons_succ, List.set_cons_zero]
      obtain ⟨_, _, _, h2⟩ := hp 2 (by simp)
      simp only [PFi10] at h2
      have hsz := hg.size
      have hgB : Below w9.heap.size w9 w' := hg.below (fun k hk => ⟨hk, fun o => by rintro ⟨j, _, _, _, hw⟩; exact False.elim hw⟩)
      rw [h2]
      have e0 := (hg.cell (g3) 0 bm.lt (by rintro ⟨j, _, hne, hb, hw⟩; exact False.elim hw)).trans (bm.cell 0 _ rfl)
      have e1 := (hg.cell (g3) 1 bm.lt (by rintro ⟨j, _, hne, hb, hw⟩; exact False.elim hw)).trans (bm.cell 1 _ rfl)
      have e2 := (hg.cell (g3) 2 bm.lt (by rintro ⟨j, _, hne, hb, hw⟩; exact False.elim hw)).trans (bm.cell 2 _ rfl)
      have e3 := (hg.cell (g3) 3 bm.lt (by rintro ⟨j, _, hne, hb, hw⟩; exact False.elim hw)).trans (bm.cell 3 _ rfl)
      have e4 := (hg.cell (g3) 4 bm.lt (by rintro ⟨j, _, hne, hb, hw⟩; exact False.elim hw)).trans (bm.cell 4 _ rfl)
      go_wp2
      exact ⟨_, rfl, GrowC.refl _, rfl⟩
    | 4, _ =>
      obtain rfl := Option.some.inj ho
      clear ho
      simp only [actsD, List.getD_cons_zero, List.getD_cons_succ, List.foldl_cons, List.foldl_nil, Act.put, List.setIfInBounds_toArray, List.set_cons_succ, List.set_cons_zero]
      obtain ⟨_, _, _, h2⟩ := hp 2 (by simp)
      simp only [PFi10] at h2
      obtain ⟨_, _, _, h3⟩ := hp 3 (by simp)
      simp only [PFi10] at h3
      have hsz := hg.size
      have hgB : Below w9.heap.size w9 w' := hg.below (fun k hk => ⟨hk, fun o => by rintro ⟨j, _, _, _, hw⟩; exact False.elim hw⟩)
      rw [h2, h3]
      go_wp2_with fail
      refine (to_small _ _ _ _ _ (HYAT.out.below hgB (Nat.le_refl _)) hys false n HYL.out HYN.out).mono ?_
      rintro e wz ⟨r1, r2, rfl, hr, hb⟩
      go_wp2
      exact ⟨_, rfl, GrowC.of_grow hb, r1, r2, rfl, hr⟩
    | 5, _ =>
      obtain rfl := Option.some.inj ho
      clear ho
      simp only [actsD, List.getD_cons_zero, List.getD_cons_succ, List.foldl_cons, List.foldl_nil, Act.put, List.setIfInBounds_toArray, List.set_cons_succ, List.set_cons_zero]
      obtain ⟨_, _, _, h2⟩ := hp 2 (by simp)
      simp only [PFi10] at h2
      have hsz := hg.size
      have hgB : Below w9.heap.size w9 w' := hg.below (fun k hk => ⟨hk, fun o => by rintro ⟨j, _, _, _, hw⟩; exact False.elim hw⟩)
      rw [h2]
      have e0 := (hg.cell (g) 0 ba.lt (by rintro ⟨j, _, hne, hb, hw⟩; exact False.elim hw)).trans (ba.cell 0 _ rfl)
      have e1 := (hg.cell (g) 1 ba.lt (by rintro ⟨j, _, hne, hb, hw⟩; exact False.elim hw)).trans (ba.cell 1 _ rfl)
      have e2 := (hg.cell (g) 2 ba.lt (by rintro ⟨j, _, hne, hb, hw⟩; exact False.elim hw)).trans (ba.cell 2 _ rfl)
      have e3 := (hg.cell (g) 3 ba.lt (by rintro ⟨j, _, hne, hb, hw⟩; exact False.elim hw)).trans (ba.cell 3 _ rfl)
      have e4 := (hg.cell (g) 4 ba.lt (by rintro ⟨j, _, hne, hb, hw⟩; exact False.elim hw)).trans (ba.cell 4 _ rfl)
      go_wp2
      exact ⟨_, rfl, GrowC.refl _, rfl⟩
    | 6, _ =>
      obtain rfl := Option.some.inj ho
      clear ho
      simp only [actsD, List.getD_cons_zero, List.getD_cons_succ, List.foldl_cons, List.foldl_nil, Act.put, List.setIfInBounds_toArray, List.set_cons_succ, List.set_cons_zero]
      obtain ⟨_, _, _, h2⟩ := hp 2 (by simp)
      simp only [PFi10] at h2
      obtain ⟨_, _, _, h5⟩ := hp 5 (by simp)
      simp only [PFi10] at h5
      have hsz := hg.size
      have hgB : Below w9.heap.size w9 w' := hg.below (fun k hk => ⟨hk, fun o => by rintro ⟨j, _, _, _, hw⟩; exact False.elim hw⟩)
      rw [h2, h5]
      go_wp2_with fail
      refine (to_small _ _ _ _ _ (HX.out.below hgB (Nat.le_refl _)) hsm false n HLF.out HN.out).mono ?_
      rintro e wz ⟨r1, r2, rfl, hr, hb⟩
      go_wp2
      exact ⟨_, rfl, GrowC.of_grow hb, r1, r2, rfl, hr⟩
    | 7, _ =>
      obtain rfl := Option.some.inj ho
      clear ho
      simp only [actsD, List.getD_cons_zero, List.getD_cons_succ, List.foldl_cons, List.foldl_nil, Act.put, List.setIfInBounds_toArray, List.set_cons_succ, List.set_cons_zero]
      obtain ⟨_, _, _, h2⟩ := hp 2 (by simp)
      simp only [PFi10] at h2
      obtain ⟨_, _, _, h4⟩ := hp 4 (by simp)
      simp only [PFi10] at h4
      obtain ⟨_, _, _, h6⟩ := hp 6 (by simp)
      simp only [PFi10] at h6
      have hsz := hg.size
      have hgB : Below w9.heap.size w9 w' := hg.below (fun k hk => ⟨hk, fun o => by rintro ⟨j, _, _, _, hw⟩; exact False.elim hw⟩)
      obtain ⟨r1, r2, h4, hr1⟩ := h4
      obtain ⟨q1, q2, h6, hq1⟩ := h6
      rw [HYX.out] at hr1
      rw [h2, h4, h6]
      go_wp2_with fail
      refine (same_small _ hsm _ _ _ _ _ _ _ hr1 hq1 _ _).mono ?_
      rintro e wz ⟨rfl, hb⟩
      go_wp2
      exact ⟨_, rfl, GrowC.of_grow hb, rfl⟩
    | 8, _ =>
      obtain rfl := Option.some.inj ho
      clear ho
      simp only [actsD, List.getD_cons_zero, List.getD_cons_succ, List.foldl_cons, List.foldl_nil, Act.put, List.setIfInBounds_toArray, List.set_cons_succ, List.set_cons_zero]
      obtain ⟨_, _, _, h2⟩ := hp 2 (by simp)
      simp only [PFi10] at h2
      obtain ⟨_, _, _, h7⟩ := hp 7 (by simp)
      simp only [PFi10] at h7
      have hsz := hg.size
      have hgB : Below w9.heap.size w9 w' := hg.below (fun k hk => ⟨hk, fun o => by rintro ⟨j, _, _, _, hw⟩; exact False.elim hw⟩)
      rw [h2, h7]
      go_wp2
      exact ⟨_, rfl, GrowC.refl _, rfl⟩
    | 9, _ =>
      obtain rfl := Option.some.inj ho
      clear ho
      simp only [actsD, List.getD_cons_zero, List.getD_cons_succ, List.foldl_cons, List.foldl_nil, Act.put, List.setIfInBounds_toArray, List.set_cons_succ, List.set_cons_zero]
      obtain ⟨_, _, _, h8⟩ := hp 8 (by simp)
      simp only [PFi10] at h8
      have hsz := hg.size
      have hgB : Below w9.heap.size w9 w' := hg.below (fun k hk => ⟨hk, fun o => by rintro ⟨j, _, _, _, hw⟩; exact False.elim hw⟩)
      rw [h8]
      go_wp2
      exact ⟨_, rfl, GrowC.refl _, rfl⟩
    | 10, _ =>
      obtain rfl := Option.some.inj ho
      clear ho
      simp only [actsD, List.getD_cons_zero, List.getD_cons_succ, List.foldl_cons, List.foldl_nil, Act.put, List.setIfInBounds_toArray, List.set_cons_succ, List.set_cons_zero]
      obtain ⟨_, _, _, h9⟩ := hp 9 (by simp)
      simp only [PFi10] at h9
      have hsz := hg.size
      have hgB : Below w9.heap.size w9 w' := hg.below (fun k hk => ⟨hk, fun o => by rintro ⟨j, _, _, _, hw⟩; exact False.elim hw⟩)
      rw [h9]
      have e0 := (hg.cell (g4) 0 bd.lt (by rintro ⟨j, _, hne, hb, hw⟩; exact False.elim hw)).trans (bd.cell 0 _ rfl)
      have e1 := (hg.cell (g4) 1 bd.lt (by rintro ⟨j, _, hne, hb, hw⟩; exact False.elim hw)).trans (bd.cell 1 _ rfl)
      have e2 := (hg.cell (g4) 2 bd.lt (by rintro ⟨j, _, hne, hb, hw⟩; exact False.elim hw)).trans (bd.cell 2 _ rfl)
      have e3 := (hg.cell (g4) 3 bd.lt (by rintro ⟨j, _, hne, hb, hw⟩; exact False.elim hw)).trans (bd.cell 3 _ rfl)
      have e4 := (hg.cell (g4) 4 bd.lt (by rintro ⟨j, _, hne, hb, hw⟩; exact False.elim hw)).trans (bd.cell 4 _ rfl)
      go_wp2
      exact ⟨_, rfl, GrowC.refl _, rfl⟩
    | 11, _ =>
      obtain rfl := Option.some.inj ho
      clear ho
      simp only [actsD, List.getD_cons_zero, List.getD_cons_succ, List.foldl_cons, List.foldl_nil, Act.put, List.setIfInBounds_toArray, List.set_cons_succ, List.set_cons_zero]
      obtain ⟨_, _, _, h9⟩ := hp 9 (by simp)
      simp only [PFi10] at h9
      obtain ⟨_, _, _, h10⟩ := hp 10 (by simp)
      simp only [PFi10] at h10
      have hsz := hg.size
      have hgB : Below w9.heap.size w9 w' := hg.below (fun k hk => ⟨hk, fun o => by rintro ⟨j, _, _, _, hw⟩; exact False.elim hw⟩)
      rw [h9, h10]
      go_wp2_with fail
      refine (to_small _ _ _ _ _ (HZAT.out.below hgB (Nat.le_refl _)) hzs false n HZL.out HZN.out).mono ?_
      rintro e wz ⟨r1, r2, rfl, hr, hb⟩
      go_wp2
      exact ⟨_, rfl, GrowC.of_grow hb, r1, r2, rfl, hr⟩
    | 12, _ =>
      obtain rfl := Option.some.inj ho
      clear ho
      simp only [actsD, List.getD_cons_zero, List.getD_cons_succ, List.foldl_cons, List.foldl_nil, Act.put, List.setIfInBounds_toArray, List.set_cons_succ, List.set_cons_zero]
      obtain ⟨_, _, _, h9⟩ := hp 9 (by simp)
      simp only [PFi10] at h9
      have hsz := hg.size
      have hgB : Below w9.heap.size w9 w' := hg.below (fun k hk => ⟨hk, fun o => by rintro ⟨j, _, _, _, hw⟩; exact False.elim hw⟩)
      rw [h9]
      have e0 := (hg.cell (g) 0 ba.lt (by rintro ⟨j, _, hne, hb, hw⟩; exact False.elim hw)).trans (ba.cell 0 _ rfl)
      have e1 := (hg.cell (g) 1 ba.lt (by rintro ⟨j, _, hne, hb, hw⟩; exact False.elim hw)).trans (ba.cell 1 _ rfl)
      have e2 := (hg.cell (g) 2 ba.lt (by rintro ⟨j, _, hne, hb, hw⟩; exact False.elim hw)).trans (ba.cell 2 _ rfl)
      have e3 := (hg.cell (g) 3 ba.lt (by rintro ⟨j, _, hne, hb, hw⟩; exact False.elim hw)).trans (ba.cell 3 _ rfl)
      have e4 := (hg.cell (g) 4 ba.lt (by rintro ⟨j, _, hne, hb, hw⟩; exact False.elim hw)).trans (ba.cell 4 _ rfl)
      go_wp2
      exact ⟨_, rfl, GrowC.refl _, rfl⟩
    | 13, _ =>
      obtain rfl := Option.some.inj ho
      clear ho
      simp only [actsD, List.getD_cons_zero, List.getD_cons_succ, List.foldl_cons, List.foldl_nil, Act.put, List.setIfInBounds_toArray, List.set_cons_succ, List.set_cons_zero]
      obtain ⟨_, _, _, h9⟩ := hp 9 (by simp)
      simp only [PFi10] at h9
      obtain ⟨_, _, _, h12⟩ := hp 12 (by simp)
      simp only [PFi10] at h12
      have hsz := hg.size
      have hgB : Below w9.heap.size w9 w' := hg.below (fun k hk => ⟨hk, fun o => by rintro ⟨j, _, _, _, hw⟩; exact False.elim hw⟩)
      rw [h9, h12]
      go_wp2_with fail
      refine (to_small _ _ _ _ _ (HX.out.below hgB (Nat.le_refl _)) hsm false n HLF.out HN.out).mono ?_
      rintro e wz ⟨r1, r2, rfl, hr, hb⟩
      go_wp2
      exact ⟨_, rfl, GrowC.of_grow hb, r1, r2, rfl, hr⟩
    | 14, _ =>
      obtain rfl := Option.some.inj ho
      clear ho
      simp only [actsD, List.getD_cons_zero, List.getD_cons_succ, List.foldl_cons, List.foldl_nil, Act.put, List.setIfInBounds_toArray, List.set_cons_succ, List.set_cons_zero]
      obtain ⟨_, _, _, h9⟩ := hp 9 (by simp)
      simp only [PFi10] at h9
      obtain ⟨_, _, _, h11⟩ := hp 11 (by simp)
      simp only [PFi10] at h11
      obtain ⟨_, _, _, h13⟩ := hp 13 (by simp)
      simp only [PFi10] at h13
      have hsz := hg.size
      have hgB : Below w9.heap.size w9 w' := hg.below (fun k hk => ⟨hk, fun o => by rintro ⟨j, _, _, _, hw⟩; exact False.elim hw⟩)
      obtain ⟨r1, r2, h11, hr1⟩ := h11
      obtain ⟨q1, q2, h13, hq1⟩ := h13
      rw [HZX.out] at hr1
      rw [h9, h11, h13]
      go_wp2_with fail
      refine (same_small _ hsm _ _ _ _ _ _ _ hr1 hq1 _ _).mono ?_
      rintro e wz ⟨rfl, hb⟩
      go_wp2
      exact ⟨_, rfl, GrowC.of_grow hb, rfl⟩
    | 15, _ =>
      obtain rfl := Option.some.inj ho
      clear ho
      simp only [actsD, List.getD_cons_zero, List.getD_cons_succ, List.foldl_cons, List.foldl_nil, Act.put, List.setIfInBounds_toArray, List.set_cons_succ, List.set_cons_zero]
      obtain ⟨_, _, _, h9⟩ := hp 9 (by simp)
      simp only [PFi10] at h9
      obtain ⟨_, _, _, h14⟩ := hp 14 (by simp)
      simp only [PFi10] at h14
      have hsz := hg.size
      have hgB : Below w9.heap.size w9 w' := hg.below (fun k hk => ⟨hk, fun o => by rintro ⟨j, _, _, _, hw⟩; exact False.elim hw⟩)
      rw [h9, h14]
      go_wp2
      exact ⟨_, rfl, GrowC.refl _, rfl⟩
    | 16, _ =>
      obtain rfl := Option.some.inj ho
      clear ho
      simp only [actsD, List.getD_cons_zero, List.getD_cons_succ, List.foldl_cons, List.foldl_nil, Act.put, List.setIfInBounds_toArray, List.set_cons_succ, List.set_cons_zero]
      obtain ⟨_, _, _, h15⟩ := hp 15 (by simp)
      simp only [PFi10] at h15
      have hsz := hg.size
      have hgB : Below w9.heap.size w9 w' := hg.below (fun k hk => ⟨hk, fun o => by rintro ⟨j, _, _, _, hw⟩; exact False.elim hw⟩)
      rw [h15]
      go_wp2
      exact ⟨_, rfl, GrowC.refl _, rfl⟩
    | 17, _ =>
      obtain rfl := Option.some.inj ho
      clear ho
      simp only [actsD, List.getD_cons_zero, List.getD_cons_succ, List.foldl_cons, List.foldl_nil, Act.put, List.setIfInBounds_toArray, List.set_cons_succ, List.set_cons_zero]
      obtain ⟨_, _, _, h16⟩ := hp 16 (by simp)
      simp only [PFi10] at h16
      have hsz := hg.size
      have hgB : Below w9.heap.size w9 w' := hg.below (fun k hk => ⟨hk, fun o => by rintro ⟨j, _, _, _, hw⟩; exact False.elim hw⟩)
      rw [h16]
      go_wp2_with fail
      refine (awake_any _).mono ?_
      rintro e wz ⟨rfl, hb⟩
      go_wp2
      exact ⟨_, rfl, GrowC.of_grow hb, rfl⟩
    | 18, _ =>
      obtain rfl := Option.some.inj ho
      clear ho
      simp only [actsD, List.getD_cons_zero, List.getD_cons_succ, List.foldl_cons, List.foldl_nil, Act.put, List.setIfInBounds_toArray, List.set_cons_succ, List.set_cons_zero]
      obtain ⟨_, _, _, h16⟩ := hp 16 (by simp)
      simp only [PFi10] at h16
      obtain ⟨_, _, _, h17⟩ := hp 17 (by simp)
      simp only [PFi10] at h17
      have hsz := hg.size
      have hgB : Below w9.heap.size w9 w' := hg.below (fun k hk => ⟨hk, fun o => by rintro ⟨j, _, _, _, hw⟩; exact False.elim hw⟩)
      rw [h16, h17]
      go_wp2
      exact ⟨_, rfl, GrowC.refl _, rfl⟩
    | (q + 19), hq => exact absurd hq (by omega)
  intro vS lo hi w10 hg hp hd
  obtain ⟨_, _, _, h0⟩ := hp 0 (by omega)
  obtain ⟨_, _, _, h1⟩ := hp 1 (by omega)
  obtain ⟨_, _, _, h2⟩ := hp 2 (by omega)
  obtain ⟨_, _, _, h3⟩ := hp 3 (by omega)
  obtain ⟨_, _, _, h4⟩ := hp 4 (by omega)
  obtain ⟨_, _, _, h5⟩ := hp 5 (by omega)
  obtain ⟨_, _, _, h6⟩ := hp 6 (by omega)
  obtain ⟨_, _, _, h7⟩ := hp 7 (by omega)
  obtain ⟨_, _, _, h8⟩ := hp 8 (by omega)
  obtain ⟨_, _, _, h9⟩ := hp 9 (by omega)
  obtain ⟨_, _, _, h10⟩ := hp 10 (by omega)
  obtain ⟨_, _, _, h11⟩ := hp 11 (by omega)
  obtain ⟨_, _, _, h12⟩ := hp 12 (by omega)
  obtain ⟨_, _, _, h13⟩ := hp 13 (by omega)
  obtain ⟨_, _, _, h14⟩ := hp 14 (by omega)
  obtain ⟨_, _, _, h15⟩ := hp 15 (by omega)
  obtain ⟨_, _, _, h16⟩ := hp 16 (by omega)
  obtain ⟨_, _, _, h17⟩ := hp 17 (by omega)
  obtain ⟨_, _, _, h18⟩ := hp 18 (by omega)
  simp only [PFi10] at h0 h1 h2 h3 h4 h5 h6 h7 h8 h9 h10 h11 h12 h13 h14 h15 h16 h17 h18
  clear hp hd
  have hsz := hg.size
  replace ba := ba.grow hg (by intro i _; rintro ⟨j, _, hw⟩; exact False.elim hw)
  replace bm := bm.grow hg (by intro i _; rintro ⟨j, _, hw⟩; exact False.elim hw)
  replace bd := bd.grow hg (by intro i _; rintro ⟨j, _, hw⟩; exact False.elim hw)
  replace hB := hB.trans (hg.below (fun k hk => ⟨by omega, fun o => by rintro ⟨j, _, hw⟩; exact False.elim hw⟩))
  have hr : List.range 19 = [0, 1, 2, 3, 4, 5, 6, 7, 8, 9, 10, 11, 12, 13, 14, 15, 16, 17, 18] := rfl
  rw [hr]
  clear hr
  simp only [List.drop_succ_cons, List.drop_zero, List.drop_nil, actsD, List.getD_cons_zero, List.getD_cons_succ, List.foldl_cons, List.foldl_nil, Act.put, List.setIfInBounds_toArray, List.set_cons_succ, List.set_cons_zero, h0, h1, h2, h3, h5, h7, h8, h9, h10, h12, h14, h15, h16, h17, h18]
  clear h0 h1 h2 h3 h5 h7 h8 h9 h10 h12 h14 h15 h16 h17 h18
  go_wp2
  go_ret
  exact ⟨rfl, hB⟩

end Go.Proofs.Ytfbblgcdggpehaa

/- The reference's Size, two and four. Conditions: short lists. -/
import Derived.Test.YtfbblgcdggpehaaRFit
namespace Go.Proofs.Ytfbblgcdggpehaa
set_option linter.unusedSimpArgs false
set_option linter.unusedVariables false
open Go.RowKit

/-- small enough -/
structure Nd.small (x : Nd) : Prop where
  keys : x.keys.length ≤ 1048576
  vals : x.vals.length ≤ 1048576
  kids : x.kids.length ≤ 1048577
  keys2 : ∀ l ∈ x.keys, l.length ≤ 1048576
  vals2 : ∀ l ∈ x.vals, l.length ≤ 1048576

theorem Nd.small.ok {x : Nd} (h : x.small) : x.ok :=
  ⟨Nat.le_trans h.keys (by decide), Nat.le_trans h.vals (by decide), Nat.le_trans h.kids (by decide), fun l hl => Nat.le_trans (h.keys2 l hl) (by decide), fun l hl => Nat.le_trans (h.vals2 l hl) (by decide)⟩

/-- the size of a node's first k keys and what belongs to them -/
def rsize (x : Nd) : Nat → Nat
  | 0 => if x.leaf then 7 else 11
  | k + 1 => rsize x k + 2 + (x.keys.getD k []).length + (if x.leaf then 2 + (x.vals.getD k []).length else 4)

theorem getD_len {L : List (List UInt8)} {M : Nat} (h : ∀ l ∈ L, l.length ≤ M) (k : Nat) : (L.getD k []).length ≤ M := by
  rw [List.getD_eq_getElem?_getD]
  cases e : L[k]? with
  | none => simp
  | some l => exact h l (List.mem_of_getElem? e)

theorem rsize_le {x : Nd} (h : x.small) : ∀ k, rsize x k ≤ 11 + k * 2097160
  | 0 => by unfold rsize; split <;> omega
  | k + 1 => by
    have h1 := rsize_le h k
    have h2 := getD_len h.keys2 k
    have h3 := getD_len h.vals2 k
    rw [rsize]
    split <;> omega

theorem rsize_mono (x : Nd) : ∀ k j, k ≤ j → rsize x k ≤ rsize x j := by
  intro k j h
  induction h with
  | refl => exact Nat.le_refl _
  | step _ ih => rw [rsize]; omega

theorem rsize_any (x : Nd) (hsm : x.small) (ks vs ds : Value) (w : World) (hx : RefAt w ks vs ds x) (b : Bool) (n : Int) (hb : x.leaf = b) :
    Calls Try.prog 24 #[.agg #[.bool b, ks, vs, ds, .int .i64 n]] w fun e w' => e = .returned (.int .i64 (rsize x x.keys.length)) ∧ Below w.heap.size w w' := by
  obtain ⟨ka, kc, rfl⟩ := hx.keys.shape
  obtain ⟨va, vc, rfl⟩ := hx.vals.shape
  obtain ⟨da, dc, rfl⟩ := hx.kids.shape
  have hx1 := hx.keys
  have hx2 := hx.vals
  obtain ⟨nk, hnk⟩ : ∃ nk, x.keys.length = nk := ⟨_, rfl⟩
  obtain ⟨nv, hnv⟩ : ∃ nv, x.vals.length = nv := ⟨_, rfl⟩
  obtain ⟨nd, hnd⟩ : ∃ nd, x.kids.length = nd := ⟨_, rfl⟩
  have hk : nk ≤ 1048576 := hnk ▸ hsm.keys
  have hv : nv ≤ 1048576 := hnv ▸ hsm.vals
  have hd : nd ≤ 1048577 := hnd ▸ hsm.kids
  rw [hnk] at hx1
  rw [hnv] at hx2
  simp only [hnk, hnv, hnd]
  obtain ⟨g, hg0⟩ : ∃ g, w.heap.size = g := ⟨_, rfl⟩
  have ba := Box.new w #[.bool b, .slice ka nk kc, .slice va nv vc, .slice da nd dc, .int .i64 n] 38 hg0.symm
  have hB := (Below.refl w.heap.size w).alloc (Nat.le_refl _) (.cells #[.bool b, .slice ka nk kc, .slice va nv vc, .slice da nd dc, .int .i64 n] 38)
  have HG := Lib.hid hg0
  have HNK := Lib.hid hnk
  have HNV := Lib.hid hnv
  have HX1 := Lib.hid hx1
  have HX2 := Lib.hid hx2
  have HLF := Lib.hid hb
  have HW := Lib.hid (⟨ba, hB⟩ : Box (w.alloc (.cells #[.bool b, .slice ka nk kc, .slice va nv vc, .slice da nd dc, .int .i64 n] 38)) g [.bool b, .slice ka nk kc, .slice va nv vc, .slice da nd dc, .int .i64 n] ∧ Below w.heap.size w (w.alloc (.cells #[.bool b, .slice ka nk kc, .slice va nv vc, .slice da nd dc, .int .i64 n] 38)))
  have hz : rsize x 0 = if b then 7 else 11 := by rw [rsize, hb]
  clear hx hx1 hx2 ba hB hnk hnv hnd hg0 hb
  have key : ∀ (w0 : World), Box w0 g [.bool b, .slice ka nk kc, .slice va nv vc, .slice da nd dc, .int .i64 n] → Below w.heap.size w w0 → True := fun _ _ _ => trivial
  cases b with
  | true =>
    have HZ := Lib.hid hz
    clear hz key
    go_enter Try.func24, Try.ntmps24
    go_wp2_with fail
    rw [HG.out]
    refine wp_world (fun w0 => Box w0 g [.bool true, .slice ka nk kc, .slice va nv vc, .slice da nd dc, .int .i64 n] ∧ Below w.heap.size w w0) HW.out ?_
    clear HW
    rintro w0 ⟨ba, hB⟩
    have ca0 := ba.cell 0 _ rfl
    have ca1 := ba.cell 1 _ rfl
    have ca2 := ba.cell 2 _ rfl
    go_loop [3, 4] (fun s i => ∃ k, k ≤ nk ∧ i = .int .i64 k ∧ s = .int .i64 (rsize x k)) (fun _ i => nk - (intOf i).toNat)
    case atStart => exact ⟨0, Nat.zero_le _, rfl, by rw [HZ.out]; rfl⟩
    case round =>
      obtain ⟨k, hk2, rfl, rfl⟩ := hrel
      have hr1 := rsize_le hsm k
      obtain ⟨r, hr⟩ : ∃ r, rsize x k = r := ⟨_, rfl⟩
      rw [hr] at hr1
      simp only [hr]
      have HR := Lib.hid hr
      clear hr
      by_cases hlt : k < nk
      · have hkl : k < x.keys.length := by rw [HNK.out]; exact hlt
        have hu : (x.keys.map S)[k]? = some (S x.keys[k]) := by rw [List.getElem?_map, List.getElem?_eq_getElem hkl]; rfl
        have HU := Lib.hid (List.getElem?_eq_getElem hkl)
        have hll := hsm.keys2 _ (List.getElem_mem hkl)
        generalize x.keys[k] = l at *
        obtain ⟨b1, p1, q1, e1, hb1, _, hc1⟩ := HX1.out.at k hlt _ hu
        have hd1 := (hB.cell (p := ⟨b1, p1 + k, none⟩) hb1).trans hc1
        have E1 := Lib.hid (Value.slice.inj e1).1
        simp only [S] at hd1
        clear e1 hu hc1 hkl
        have ca1q := ca1
        rw [E1.out] at ca1
        clear ca1q
        by_cases hlv : k < nv
        · have hkl : k < x.vals.length := by rw [HNV.out]; exact hlv
          have hu : (x.vals.map S)[k]? = some (S x.vals[k]) := by rw [List.getElem?_map, List.getElem?_eq_getElem hkl]; rfl
          have HU2 := Lib.hid (List.getElem?_eq_getElem hkl)
          have hll2 := hsm.vals2 _ (List.getElem_mem hkl)
          generalize x.vals[k] = l2 at *
          obtain ⟨b2, p2, q2, e2, hb2, _, hc2⟩ := HX2.out.at k hlv _ hu
          have hd2 := (hB.cell (p := ⟨b2, p2 + k, none⟩) hb2).trans hc2
          have E2 := Lib.hid (Value.slice.inj e2).1
          simp only [S] at hd2
          clear e2 hu hc2 hkl
          have ca2q := ca2
          rw [E2.out] at ca2
          clear ca2q
          go_wp2
          go_round
          case rel =>
            refine ⟨k + 1, by omega, by go_num, ?_⟩
            rw [rsize, HLF.out, HR.out, List.getD_eq_getElem?_getD, List.getD_eq_getElem?_getD, HU.out, HU2.out]
            simp; omega
          case measure => simp [intOf]; omega
        · have hn : x.vals[k]? = none := List.getElem?_eq_none (by rw [HNV.out]; omega)
          have HN2 := Lib.hid hn
          clear hn
          go_wp2
          go_round
          case rel =>
            refine ⟨k + 1, by omega, by go_num, ?_⟩
            rw [rsize, HLF.out, HR.out, List.getD_eq_getElem?_getD, List.getD_eq_getElem?_getD, HU.out, HN2.out]
            simp
          case measure => simp [intOf]; omega
      · obtain rfl : nk = k := by omega
        go_wp2
        go_ret
        exact ⟨by rw [HR.out]; rfl, hB⟩
  | false =>
    have HZ := Lib.hid hz
    clear hz key
    go_enter Try.func24, Try.ntmps24
    go_wp2_with fail
    rw [HG.out]
    refine wp_world (fun w0 => Box w0 g [.bool false, .slice ka nk kc, .slice va nv vc, .slice da nd dc, .int .i64 n] ∧ Below w.heap.size w w0) HW.out ?_
    clear HW
    rintro w0 ⟨ba, hB⟩
    have ca0 := ba.cell 0 _ rfl
    have ca1 := ba.cell 1 _ rfl
    have ca2 := ba.cell 2 _ rfl
    go_loop [3, 4] (fun s i => ∃ k, k ≤ nk ∧ i = .int .i64 k ∧ s = .int .i64 (rsize x k)) (fun _ i => nk - (intOf i).toNat)
    case atStart => exact ⟨0, Nat.zero_le _, rfl, by rw [HZ.out]; rfl⟩
    case round =>
      obtain ⟨k, hk2, rfl, rfl⟩ := hrel
      have hr1 := rsize_le hsm k
      obtain ⟨r, hr⟩ : ∃ r, rsize x k = r := ⟨_, rfl⟩
      rw [hr] at hr1
      simp only [hr]
      have HR := Lib.hid hr
      clear hr
      by_cases hlt : k < nk
      · have hkl : k < x.keys.length := by rw [HNK.out]; exact hlt
        have hu : (x.keys.map S)[k]? = some (S x.keys[k]) := by rw [List.getElem?_map, List.getElem?_eq_getElem hkl]; rfl
        have HU := Lib.hid (List.getElem?_eq_getElem hkl)
        have hll := hsm.keys2 _ (List.getElem_mem hkl)
        generalize x.keys[k] = l at *
        obtain ⟨b1, p1, q1, e1, hb1, _, hc1⟩ := HX1.out.at k hlt _ hu
        have hd1 := (hB.cell (p := ⟨b1, p1 + k, none⟩) hb1).trans hc1
        have E1 := Lib.hid (Value.slice.inj e1).1
        simp only [S] at hd1
        clear e1 hu hc1 hkl
        have ca1q := ca1
        rw [E1.out] at ca1
        clear ca1q
        go_wp2
        go_round
        case rel =>
          refine ⟨k + 1, by omega, by go_num, ?_⟩
          rw [rsize, HLF.out, HR.out, List.getD_eq_getElem?_getD, HU.out]
          simp
        case measure => simp [intOf]; omega
      · obtain rfl : nk = k := by omega
        go_wp2
        go_ret
        exact ⟨by rw [HR.out]; rfl, hB⟩

/-- a number as two and as four bytes -/
def two (u : Nat) : List UInt8 := [UInt8.ofNat (u / 256), UInt8.ofNat u]
def four (u : Nat) : List UInt8 := [UInt8.ofNat (u / 16777216), UInt8.ofNat (u / 65536), UInt8.ofNat (u / 256), UInt8.ofNat u]

theorem ofNat_B (u : Nat) : B (UInt8.ofNat u) = .int .u8 ((u : Int) % 256) := by
  simp [B]

theorem cellsB {w : World} {arr : Array Value} {T n : Nat} {l : List UInt8} (hn : arr.size = n) (hl : arr.toList = l.map B) : Reads 1 (w.alloc (.cells arr T)) (.slice (some ⟨w.heap.size, 0, none⟩) n n) n (l.map B) := by
  subst hn
  refine ⟨_, _, rfl, by rw [← hl]; simp, Nat.le_refl _, fun _ => ⟨_, 0, rfl, by simp, fun j u hu => ?_⟩⟩
  rw [World.cell?_alloc_at _ _ _ _ rfl]
  rw [← hl] at hu
  simpa using hu

theorem two_any (n : Int) (u : Nat) (hn : n = (u : Int)) (hu : u ≤ 1152921504606846976) (w : World) :
    Calls Try.prog 36 #[.int .i64 n] w fun e w' => ∃ g, e = .returned (.slice (some ⟨g, 0, none⟩) 2 2) ∧ Reads 1 w' (.slice (some ⟨g, 0, none⟩) 2 2) 2 ((two u).map B) ∧ Below w.heap.size w w' := by
  subst hn
  go_enter Try.func36, Try.ntmps36
  go_wp2
  go_ret
  refine ⟨_, rfl, cellsB rfl ?_, (Below.refl _ _).alloc (Nat.le_refl _) _⟩
  simp only [two, List.map_cons, List.map_nil, ofNat_B]
  rw [show ((u / 256 : Nat) : Int) = (u : Int) / 256 by omega]

theorem four_any (n : Int) (u : Nat) (hn : n = (u : Int)) (hu : u ≤ 1152921504606846976) (w : World) :
    Calls Try.prog 37 #[.int .i64 n] w fun e w' => ∃ g, e = .returned (.slice (some ⟨g, 0, none⟩) 4 4) ∧ Reads 1 w' (.slice (some ⟨g, 0, none⟩) 4 4) 4 ((four u).map B) ∧ Below w.heap.size w w' := by
  subst hn
  go_enter Try.func37, Try.ntmps37
  go_wp2
  go_ret
  refine ⟨_, rfl, cellsB rfl ?_, (Below.refl _ _).alloc (Nat.le_refl _) _⟩
  simp only [four, List.map_cons, List.map_nil, ofNat_B]
  rw [show ((u / 256 : Nat) : Int) = (u : Int) / 256 by omega, show ((u / 65536 : Nat) : Int) = (u : Int) / 65536 by omega, show ((u / 16777216 : Nat) : Int) = (u : Int) / 16777216 by omega]

end Go.Proofs.Ytfbblgcdggpehaa

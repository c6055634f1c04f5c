/- layer 14: to, ints. Conditions: at most 2^20 wants. -/
import Derived.Test.YtoghmllkaafckaaLkRHeld
namespace Go.Proofs.Ytoghmllkaafckaa
set_option linter.unusedSimpArgs false
set_option linter.unusedVariables false
open Go.RowKit

def WTo5 (bl ol nl cl kx m cb : Nat) (bo : Option Addr) (x1 : ByteArray) (x2 : Int) (j b o : Nat) : Prop := False
def PTo5 (bl ol nl cl kx m cb : Nat) (bo : Option Addr) (x1 : ByteArray) (x2 : Int) (i : Nat) (v : Value) (lo hi : Nat) (w : World) : Prop :=
  match i with
  | 0 => v = .slice bo m cb
  | 1 => v = .slice (some ⟨bl, ol, none⟩) nl cl
  | 2 => v = .int .i64 ((kx : Nat) : Int)
  | 3 => v = .pointer (some ⟨bl, ol + kx * 2, none⟩)
  | 4 => v = .pointer (some ⟨bl, ol + kx * 2, none⟩)
  | 5 => v = .string x1
  | 6 => v = .slice (some ⟨bl, ol, none⟩) nl cl
  | 7 => v = .int .i64 ((kx : Nat) : Int)
  | 8 => v = .pointer (some ⟨bl, ol + kx * 2, none⟩)
  | 9 => v = .pointer (some ⟨bl, ol + kx * 2 + 1, none⟩)
  | 10 => v = .int .i64 x2
  | 11 => v = .agg #[.string x1, .int .i64 x2]
  | 12 => v = .slice (some ⟨lo, 0, none⟩) 1 1 ∧ lo < w.heap.size ∧ w.cell? ⟨lo, 0, none⟩ = some (.string x1) ∧ w.cell? ⟨lo, 1, none⟩ = some (.int .i64 x2)
  | _ => True
theorem PTo5_stable (bl ol nl cl kx m cb : Nat) (bo : Option Addr) (x1 : ByteArray) (x2 : Int)  : ∀ i j, i < 13 → j < 13 → j ≠ i → j ∉ ([[], [], [], [1, 2], [1, 2, 3], [1, 2, 3, 4], [], [], [6, 7], [6, 7, 8], [6, 7, 8, 9], [1, 2, 3, 4, 5, 6, 7, 8, 9, 10], [1, 2, 3, 4, 5, 6, 7, 8, 9, 10, 11]] : List (List Nat)).getD i [] → ∀ v lo hi w w', PTo5 bl ol nl cl kx m cb bo x1 x2 i v lo hi w → GrowC (WTo5 bl ol nl cl kx m cb bo x1 x2 j) w w' → PTo5 bl ol nl cl kx m cb bo x1 x2 i v lo hi w' := by
  intro i j hi hj hne hbs v lo hj2 w w' h hg
  match i, hi with
  | 0, _ =>
    simp only [PTo5] at h ⊢
    exact h
  | 1, _ =>
    simp only [PTo5] at h ⊢
    exact h
  | 2, _ =>
    simp only [PTo5] at h ⊢
    exact h
  | 3, _ =>
    simp only [PTo5] at h ⊢
    exact h
  | 4, _ =>
    simp only [PTo5] at h ⊢
    exact h
  | 5, _ =>
    simp only [PTo5] at h ⊢
    exact h
  | 6, _ =>
    simp only [PTo5] at h ⊢
    exact h
  | 7, _ =>
    simp only [PTo5] at h ⊢
    exact h
  | 8, _ =>
    simp only [PTo5] at h ⊢
    exact h
  | 9, _ =>
    simp only [PTo5] at h ⊢
    exact h
  | 10, _ =>
    simp only [PTo5] at h ⊢
    exact h
  | 11, _ =>
    simp only [PTo5] at h ⊢
    exact h
  | 12, _ =>
    simp only [PTo5] at h ⊢
    exact ⟨h.1, Nat.lt_of_lt_of_le h.2.1 hg.size, (hg.cell _ _ h.2.1 (fun hw => hw)).trans h.2.2.1, (hg.cell _ _ h.2.1 (fun hw => hw)).trans h.2.2.2⟩
  | (q + 13), hq => exact absurd hq (by omega)

set_option maxRecDepth 100000 in
set_option maxHeartbeats 3200000 in
theorem to_any (l : List Wn) (v : Value) (n : Nat) (hl : l.length = n) (hn : n ≤ 1099511627776) (w : World) (hv : Reads 2 w v n (wcells l)) :
    Calls Try.prog 21 #[v] w fun e w' => ∃ (a : Option Addr) (cp : Nat), e = .returned (.slice a n cp) ∧ Reads 2 w' (.slice a n cp) n (wcells l) ∧ (∀ b, (Value.slice a n cp).ownBlock = some b → w.heap.size ≤ b ∧ b < w'.heap.size) ∧ Below w.heap.size w w' := by
  obtain ⟨ao, c, rfl⟩ := hv.shape
  have HL := Lib.hid hl
  have HV := Lib.hid hv
  clear hl hv
  obtain ⟨G, hG⟩ : ∃ G, w.heap.size = G := ⟨_, rfl⟩
  have HG := Lib.hid hG
  clear hG
  go_enter Try.func21, Try.ntmps21
  go_wp2_with fail
  go_loopw [3, 4] (fun s i wr => ∃ (k cb : Nat) (bo : Option Addr), k ≤ n ∧ i = .int .i64 k ∧ s = .slice bo k cb ∧
      wr.ownsRow G 52 2 (.slice bo k cb) k (wcells (l.take k)) ∧ Below G w wr) (fun _ i _ => n - (intOf i).toNat)
  case atStart => exact ⟨0, 0, none, Nat.zero_le _, rfl, rfl, World.ownsRow_nil _ _ _ _, Below.refl _ _⟩
  case round =>
    obtain ⟨k, cb, bo, hk, rfl, rfl, hown, hnx⟩ := hrel
    have HO := Lib.hid hown
    have HNX := Lib.hid hnx
    have hsz : G ≤ wr.heap.size := by have := hnx.size; have := HG.out; omega
    clear hown hnx
    by_cases hlt : k < n
    · have hkl : k < l.length := by rw [HL.out]; exact hlt
      have HTS : Hid (l.take (k + 1) = l.take k ++ [l[k]]) := Lib.hid (List.take_succ_eq_append_getElem hkl)
      obtain ⟨b, o, c', e, hb, _, hc1, hc2⟩ := Wns.at HV.out k hlt l[k] (List.getElem?_eq_getElem hkl)
      injection e with e1 e2 e3
      subst e1 e3
      have hbG : b < G := by rw [← HG.out]; exact hb
      generalize l[k] = x at *
      obtain ⟨x1, x2⟩ := x
      have hd1 := (HNX.out.cell (p := ⟨b, o + k * 2, none⟩) hbG).trans hc1
      have hd2 := (HNX.out.cell (p := ⟨b, o + k * 2 + 1, none⟩) hbG).trans hc2
      simp only at hd1 hd2
      have hbl : b < wr.heap.size := by omega
      have hB : Below wr.heap.size wr wr := Below.refl _ _
      have HSZ := Lib.hid hsz
      clear hc1 hc2 hkl hb e2
      go_wp2_with fail
      refine wp_region_partsDC (WTo5 b o n c k k cb bo x1 x2) 13 [[], [], [], [1, 2], [1, 2, 3], [1, 2, 3, 4], [], [], [6, 7], [6, 7, 8], [6, 7, 8, 9], [1, 2, 3, 4, 5, 6, 7, 8, 9, 10], [1, 2, 3, 4, 5, 6, 7, 8, 9, 10, 11]] [some 11, some 12, some 13, some 14, some 15, some 16, some 17, some 18, some 19, some 20, some 21, some 22, some 23, some 24, some 3] (by kernel_rfl) (by kernel_rfl) rfl (PTo5 b o n c k k cb bo x1 x2) (PTo5_stable b o n c k k cb bo x1 x2 ) ?pTo5 ?_
      case pTo5 =>
        intro i hi o ho vs lo hx_ w' hg hp
        match i, hi with
        | 0, _ =>
          obtain rfl := Option.some.inj ho
          clear ho
          simp only [actsD, List.getD_cons_zero, List.getD_cons_succ, List.foldl_cons, List.foldl_nil, Act.put, List.setIfInBounds_toArray, List.set_cons_succ, List.set_cons_zero]
          have hsz := hg.size
          have hgB : Below wr.heap.size wr w' := hg.below (fun k hk => ⟨hk, fun o => by rintro ⟨j, _, _, _, hw⟩; exact False.elim hw⟩)
          go_wp2
          exact ⟨_, rfl, GrowC.refl _, rfl⟩
        | 1, _ =>
          obtain rfl := Option.some.inj ho
          clear ho
          simp only [actsD, List.getD_cons_zero, List.getD_cons_succ, List.foldl_cons, List.foldl_nil, Act.put, List.setIfInBounds_toArray, List.set_cons_succ, List.set_cons_zero]
          have hsz := hg.size
          have hgB : Below wr.heap.size wr w' := hg.below (fun k hk => ⟨hk, fun o => by rintro ⟨j, _, _, _, hw⟩; exact False.elim hw⟩)
          go_wp2
          exact ⟨_, rfl, GrowC.refl _, rfl⟩
        | 2, _ =>
          obtain rfl := Option.some.inj ho
          clear ho
          simp only [actsD, List.getD_cons_zero, List.getD_cons_succ, List.foldl_cons, List.foldl_nil, Act.put, List.setIfInBounds_toArray, List.set_cons_succ, List.set_cons_zero]
          have hsz := hg.size
          have hgB : Below wr.heap.size wr w' := hg.below (fun k hk => ⟨hk, fun o => by rintro ⟨j, _, _, _, hw⟩; exact False.elim hw⟩)
          go_wp2
          exact ⟨_, rfl, GrowC.refl _, rfl⟩
        | 3, _ =>
          obtain rfl := Option.some.inj ho
          clear ho
          simp only [actsD, List.getD_cons_zero, List.getD_cons_succ, List.foldl_cons, List.foldl_nil, Act.put, List.setIfInBounds_toArray, List.set_cons_succ, List.set_cons_zero]
          obtain ⟨_, _, _, h1⟩ := hp 1 (by simp)
          simp only [PTo5] at h1
          obtain ⟨_, _, _, h2⟩ := hp 2 (by simp)
          simp only [PTo5] at h2
          have hsz := hg.size
          have hgB : Below wr.heap.size wr w' := hg.below (fun k hk => ⟨hk, fun o => by rintro ⟨j, _, _, _, hw⟩; exact False.elim hw⟩)
          rw [h1, h2]
          go_wp2
          exact ⟨_, rfl, GrowC.refl _, rfl⟩
        | 4, _ =>
          obtain rfl := Option.some.inj ho
          clear ho
          simp only [actsD, List.getD_cons_zero, List.getD_cons_succ, List.foldl_cons, List.foldl_nil, Act.put, List.setIfInBounds_toArray, List.set_cons_succ, List.set_cons_zero]
          obtain ⟨_, _, _, h3⟩ := hp 3 (by simp)
          simp only [PTo5] at h3
          have hsz := hg.size
          have hgB : Below wr.heap.size wr w' := hg.below (fun k hk => ⟨hk, fun o => by rintro ⟨j, _, _, _, hw⟩; exact False.elim hw⟩)
          rw [h3]
          go_wp2
          exact ⟨_, rfl, GrowC.refl _, rfl⟩
        | 5, _ =>
          obtain rfl := Option.some.inj ho
          clear ho
          simp only [actsD, List.getD_cons_zero, List.getD_cons_succ, List.foldl_cons, List.foldl_nil, Act.put, List.setIfInBounds_toArray, List.set_cons_succ, List.set_cons_zero]
          obtain ⟨_, _, _, h4⟩ := hp 4 (by simp)
          simp only [PTo5] at h4
          have hsz := hg.size
          have hgB : Below wr.heap.size wr w' := hg.below (fun k hk => ⟨hk, fun o => by rintro ⟨j, _, _, _, hw⟩; exact False.elim hw⟩)
          rw [h4]
          have e0 := (hgB.cell (p := ⟨b, o + k * 2, none⟩) hbl).trans hd1
          go_wp2
          exact ⟨_, rfl, GrowC.refl _, rfl⟩
        | 6, _ =>
          obtain rfl := Option.some.inj ho
          clear ho
          simp only [actsD, List.getD_cons_zero, List.getD_cons_succ, List.foldl_cons, List.foldl_nil, Act.put, List.setIfInBounds_toArray, List.set_cons_succ, List.set_cons_zero]
          have hsz := hg.size
          have hgB : Below wr.heap.size wr w' := hg.below (fun k hk => ⟨hk, fun o => by rintro ⟨j, _, _, _, hw⟩; exact False.elim hw⟩)
          go_wp2
          exact ⟨_, rfl, GrowC.refl _, rfl⟩
        | 7, _ =>
          obtain rfl := Option.some.inj ho
          clear ho
          simp only [actsD, List.getD_cons_zero, List.getD_cons_succ, List.foldl_cons, List.foldl_nil, Act.put, List.setIfInBounds_toArray, List.set_cons_succ, List.set_cons_zero]
          have hsz := hg.size
          have hgB : Below wr.heap.size wr w' := hg.below (fun k hk => ⟨hk, fun o => by rintro ⟨j, _, _, _, hw⟩; exact False.elim hw⟩)
          go_wp2
          exact ⟨_, rfl, GrowC.refl _, rfl⟩
        | 8, _ =>
          obtain rfl := Option.some.inj ho
          clear ho
          simp only [actsD, List.getD_cons_zero, List.getD_cons_succ, List.foldl_cons, List.foldl_nil, Act.put, List.setIfInBounds_toArray, List.set_cons_succ, List.set_cons_zero]
          obtain ⟨_, _, _, h6⟩ := hp 6 (by simp)
          simp only [PTo5] at h6
          obtain ⟨_, _, _, h7⟩ := hp 7 (by simp)
          simp only [PTo5] at h7
          have hsz := hg.size
          have hgB : Below wr.heap.size wr w' := hg.below (fun k hk => ⟨hk, fun o => by rintro ⟨j, _, _, _, hw⟩; exact False.elim hw⟩)
          rw [h6, h7]
          go_wp2
          exact ⟨_, rfl, GrowC.refl _, rfl⟩
        | 9, _ =>
          obtain rfl := Option.some.inj ho
          clear ho
          simp only [actsD, List.getD_cons_zero, List.getD_cons_succ, List.foldl_cons, List.foldl_nil, Act.put, List.setIfInBounds_toArray, List.set_cons_succ, List.set_cons_zero]
          obtain ⟨_, _, _, h8⟩ := hp 8 (by simp)
          simp only [PTo5] at h8
          have hsz := hg.size
          have hgB : Below wr.heap.size wr w' := hg.below (fun k hk => ⟨hk, fun o => by rintro ⟨j, _, _, _, hw⟩; exact False.elim hw⟩)
          rw [h8]
          go_wp2
          exact ⟨_, rfl, GrowC.refl _, rfl⟩
        | 10, _ =>
          obtain rfl := Option.some.inj ho
          clear ho
          simp only [actsD, List.getD_cons_zero, List.getD_cons_succ, List.foldl_cons, List.foldl_nil, Act.put, List.setIfInBounds_toArray, List.set_cons_succ, List.set_cons_zero]
          obtain ⟨_, _, _, h9⟩ := hp 9 (by simp)
          simp only [PTo5] at h9
          have hsz := hg.size
          have hgB : Below wr.heap.size wr w' := hg.below (fun k hk => ⟨hk, fun o => by rintro ⟨j, _, _, _, hw⟩; exact False.elim hw⟩)
          rw [h9]
          have e0 := (hgB.cell (p := ⟨b, o + k * 2 + 1, none⟩) hbl).trans hd2
          go_wp2
          exact ⟨_, rfl, GrowC.refl _, rfl⟩
        | 11, _ =>
          obtain rfl := Option.some.inj ho
          clear ho
          simp only [actsD, List.getD_cons_zero, List.getD_cons_succ, List.foldl_cons, List.foldl_nil, Act.put, List.setIfInBounds_toArray, List.set_cons_succ, List.set_cons_zero]
          obtain ⟨_, _, _, h5⟩ := hp 5 (by simp)
          simp only [PTo5] at h5
          obtain ⟨_, _, _, h10⟩ := hp 10 (by simp)
          simp only [PTo5] at h10
          have hsz := hg.size
          have hgB : Below wr.heap.size wr w' := hg.below (fun k hk => ⟨hk, fun o => by rintro ⟨j, _, _, _, hw⟩; exact False.elim hw⟩)
          rw [h5, h10]
          go_wp2
          exact ⟨_, rfl, GrowC.refl _, rfl⟩
        | 12, _ =>
          obtain rfl := Option.some.inj ho
          clear ho
          simp only [actsD, List.getD_cons_zero, List.getD_cons_succ, List.foldl_cons, List.foldl_nil, Act.put, List.setIfInBounds_toArray, List.set_cons_succ, List.set_cons_zero]
          obtain ⟨_, _, _, h11⟩ := hp 11 (by simp)
          simp only [PTo5] at h11
          have hsz := hg.size
          have hgB : Below wr.heap.size wr w' := hg.below (fun k hk => ⟨hk, fun o => by rintro ⟨j, _, _, _, hw⟩; exact False.elim hw⟩)
          rw [h11]
          have hbx := Box.new w' #[.string x1, .int .i64 x2] 52 rfl
          go_wp2
          exact ⟨_, rfl, GrowC.of_grow ((Grow.refl _).alloc _), rfl, by simp, hbx.cell 0 _ rfl, hbx.cell 1 _ rfl⟩
        | (q + 13), hq => exact absurd hq (by omega)
      intro vS lo hi w5 hg hp hd
      obtain ⟨_, _, _, h0⟩ := hp 0 (by decide)
      obtain ⟨_, _, _, h1⟩ := hp 1 (by decide)
      obtain ⟨_, _, _, h2⟩ := hp 2 (by decide)
      obtain ⟨_, _, _, h3⟩ := hp 3 (by decide)
      obtain ⟨_, _, _, h4⟩ := hp 4 (by decide)
      obtain ⟨_, _, _, h5⟩ := hp 5 (by decide)
      obtain ⟨_, _, _, h6⟩ := hp 6 (by decide)
      obtain ⟨_, _, _, h7⟩ := hp 7 (by decide)
      obtain ⟨_, _, _, h8⟩ := hp 8 (by decide)
      obtain ⟨_, _, _, h9⟩ := hp 9 (by decide)
      obtain ⟨_, _, _, h10⟩ := hp 10 (by decide)
      obtain ⟨_, _, _, h11⟩ := hp 11 (by decide)
      obtain ⟨_, _, _, h12⟩ := hp 12 (by decide)
      simp only [PTo5] at h0 h1 h2 h3 h4 h5 h6 h7 h8 h9 h10 h11 h12
      clear hp hd
      have hsz := hg.size
      replace hB := hB.trans (hg.below (fun k hk => ⟨by omega, fun o => by rintro ⟨j, _, hw⟩; exact False.elim hw⟩))
      have hr : List.range 13 = [0, 1, 2, 3, 4, 5, 6, 7, 8, 9, 10, 11, 12] := rfl
      rw [hr]
      clear hr
      simp only [List.drop_succ_cons, List.drop_zero, List.drop_nil, actsD, List.getD_cons_zero, List.getD_cons_succ, List.foldl_cons, List.foldl_nil, Act.put, List.setIfInBounds_toArray, List.set_cons_succ, List.set_cons_zero, h0, h1, h2, h3, h4, h5, h6, h7, h8, h9, h10, h11]
      clear h0 h1 h2 h3 h4 h5 h6 h7 h8 h9 h10 h11
      obtain ⟨e12, hlt12, hc91, hc92⟩ := h12
      simp only [e12]
      have HO3 := Lib.hid (own_growx (X := fun _ => False) HO.out (GrowX.of_growC hg (fun k o hw => by obtain ⟨j, _, hw⟩ := hw; exact hw)) (fun _ _ h => h))
      have HB3 := Lib.hid (HNX.out.trans (hB.mono HSZ.out))
      have hG3 : G ≤ w5.heap.size := by have := hg.size; have := HSZ.out; have h8 : wr.drew.heap.size = wr.heap.size := rfl; omega
      clear hg e12 hB
      go_wp2_with (at_builtin; refine wpList_append_k rwnsOf (.tmp 11) (.tmp 23) rfl rfl (base := G) rfl HO3.out rfl rfl (news := [.string x1, .int .i64 x2]) (by intro j u hu; rw [Addr.add_lit]; match j, hu with | 0, hu => (simp at hu; subst hu; exact hc91) | 1, hu => (simp at hu; subst hu; exact hc92) | (q + 2), hu => (simp at hu)) (by intro u hu; simp at hu; rcases hu with rfl | rfl <;> rfl) (by omega) (by omega) (by omega) (by omega) ?_; intro ob cb4 w6 hown4 hgr4 hor4)
      have hbel : Below G w w6 := HB3.out.trans (hgr4.below (fun q hq => ⟨by omega, fun o h => by have := (HO3.out.lt q h.1).1; omega⟩))
      have hown6 : w6.ownsRow G 52 2 (.slice (some ⟨ob, 0, none⟩) (k + 1) cb4) (k + 1) (wcells (l.take (k + 1))) := by rw [HTS.out, wcells_append]; exact hown4
      go_roundw
      case rel => exact ⟨k + 1, cb4, some ⟨ob, 0, none⟩, by omega, by go_num, rfl, hown6, hbel⟩
      case measure => simp [intOf]; omega
    · obtain rfl : n = k := by omega
      have hall : l.take n = l := List.take_of_length_le (Nat.le_of_eq HL.out)
      rw [hall] at HO
      go_wp2_with fail
      go_ret
      exact ⟨bo, cb, rfl, Reads.of_own HO.out, fun b e => by rw [HG.out]; exact HO.out.lt b e, by rw [HG.out]; exact HNX.out⟩

set_option maxRecDepth 100000 in
set_option maxHeartbeats 3200000 in
theorem ints_same (c : List Int) (va vb : Value) (n : Nat) (hl : c.length = n) (hn : n ≤ 1152921504606846976) (w : World) (hva : Reads 1 w va n (c.map (Value.int .i64))) (hvb : Reads 1 w vb n (c.map (Value.int .i64))) :
    Calls Try.prog 22 #[va, vb] w (True2 w) := by
  obtain ⟨aa, ca, rfl⟩ := hva.shape
  obtain ⟨ab, cb, rfl⟩ := hvb.shape
  have HL := Lib.hid hl
  have HA := Lib.hid hva
  have HB := Lib.hid hvb
  have hnn : ((n : Int) != (n : Int)) = false := by simp
  clear hl hva hvb
  go_enter Try.func22, Try.ntmps22
  go_wp2_with fail
  go_loopw [5] (fun i wr => ∃ k : Nat, k ≤ n ∧ i = .int .i64 k ∧ Below w.heap.size w wr) (fun i _ => n - (intOf i).toNat)
  case atStart => exact ⟨0, Nat.zero_le _, rfl, Below.refl _ _⟩
  case round =>
    obtain ⟨k, hk, rfl, hnx⟩ := hrel
    by_cases hlt : k < n
    · have hkl : k < c.length := by rw [HL.out]; exact hlt
      obtain ⟨b1, o1, c1, e, hb1, _, hc1⟩ := Reads.at HA.out k hlt (.int .i64 c[k]) (by rw [List.getElem?_map, List.getElem?_eq_getElem hkl]; rfl)
      injection e with e1 e2 e3
      subst e1 e3
      obtain ⟨b2, o2, c2, e, hb2, _, hc2⟩ := Reads.at HB.out k hlt (.int .i64 c[k]) (by rw [List.getElem?_map, List.getElem?_eq_getElem hkl]; rfl)
      injection e with e1 e2 e3
      subst e1 e3
      generalize c[k] = x at *
      have hd1 := (hnx.cell (p := ⟨b1, o1 + k, none⟩) hb1).trans hc1
      have hd2 := (hnx.cell (p := ⟨b2, o2 + k, none⟩) hb2).trans hc2
      have hxx : (x != x) = false := by simp
      clear hc1 hc2 hkl
      go_wp2_with fail
      go_quiet (fail)
      have hq := below_dn hnx nq
      go_wp2_with fail
      go_roundw
      case rel => exact ⟨k + 1, by omega, by go_num, hq⟩
      case measure => simp [intOf]; omega
    · obtain rfl : n = k := by omega
      go_wp2_with fail
      go_ret
      exact ⟨rfl, hnx⟩
end Go.Proofs.Ytoghmllkaafckaa

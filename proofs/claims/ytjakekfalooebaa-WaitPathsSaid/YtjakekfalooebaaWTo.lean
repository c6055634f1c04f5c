/- What to, same and awake answer. Conditions: at most 2^40 edges. -/
import Derived.Test.YtjakekfalooebaaWFree
namespace Go.Proofs.Ytjakekfalooebaa
set_option linter.unusedSimpArgs false
set_option linter.unusedVariables false
open Go.RowKit
open W (Rch IsCyc IsVic FreeTo)

def WTo5 (b o k n c : Nat) (sv : Value) (x1 x2 : Int) (j b o : Nat) : Prop := False
def PTo5 (b o k n c : Nat) (sv : Value) (x1 x2 : Int) (i : Nat) (v : Value) (lo hi : Nat) (w : World) : Prop :=
  match i with
  | 0 => v = sv
  | 1 => v = .slice (some ⟨b, o, none⟩) n c
  | 2 => v = .int .i64 k
  | 3 => v = .pointer (some ⟨b, o + k * 2, none⟩)
  | 4 => v = .pointer (some ⟨b, o + k * 2, none⟩)
  | 5 => v = .int .i64 x1
  | 6 => v = .slice (some ⟨b, o, none⟩) n c
  | 7 => v = .int .i64 k
  | 8 => v = .pointer (some ⟨b, o + k * 2, none⟩)
  | 9 => v = .pointer (some ⟨b, o + k * 2 + 1, none⟩)
  | 10 => v = .int .i64 x2
  | 11 => v = .agg #[.int .i64 x1, .int .i64 x2]
  | 12 => v = .slice (some ⟨lo, 0, none⟩) 1 1 ∧ lo < w.heap.size ∧ w.cell? ⟨lo, 0, none⟩ = some (.int .i64 x1) ∧ w.cell? ⟨lo, 1, none⟩ = some (.int .i64 x2)
  | _ => True
theorem PTo5_stable (b o k n c : Nat) (sv : Value) (x1 x2 : Int)  : ∀ i j, i < 13 → j < 13 → j ≠ i → j ∉ ([[], [], [], [1, 2], [1, 2, 3], [1, 2, 3, 4], [], [], [6, 7], [6, 7, 8], [6, 7, 8, 9], [1, 2, 3, 4, 5, 6, 7, 8, 9, 10], [1, 2, 3, 4, 5, 6, 7, 8, 9, 10, 11]] : List (List Nat)).getD i [] → ∀ v lo hi w w', PTo5 b o k n c sv x1 x2 i v lo hi w → GrowC (WTo5 b o k n c sv x1 x2 j) w w' → PTo5 b o k n c sv x1 x2 i v lo hi w' := by
  intro i j hi hj hne hbs v lo hj2 w w' h hg
  match i, hi with
  | 0, _ =>
    simp only [PTo5] at h ⊢
    exact h
  | 1, _ =>
    simp only [PTo5] at h ⊢
    exact h
  | 2, _ =>
    simp only [PTo5] at h ⊢
    exact h
  | 3, _ =>
    simp only [PTo5] at h ⊢
    exact h
  | 4, _ =>
    simp only [PTo5] at h ⊢
    exact h
  | 5, _ =>
    simp only [PTo5] at h ⊢
    exact h
  | 6, _ =>
    simp only [PTo5] at h ⊢
    exact h
  | 7, _ =>
    simp only [PTo5] at h ⊢
    exact h
  | 8, _ =>
    simp only [PTo5] at h ⊢
    exact h
  | 9, _ =>
    simp only [PTo5] at h ⊢
    exact h
  | 10, _ =>
    simp only [PTo5] at h ⊢
    exact h
  | 11, _ =>
    simp only [PTo5] at h ⊢
    exact h
  | 12, _ =>
    simp only [PTo5] at h ⊢
    exact ⟨h.1, Nat.lt_of_lt_of_le h.2.1 hg.size, (hg.cell _ _ h.2.1 (fun hw => hw)).trans h.2.2.1, (hg.cell _ _ h.2.1 (fun hw => hw)).trans h.2.2.2⟩
  | (q + 13), hq => exact absurd hq (by omega)

set_option maxRecDepth 100000 in
set_option maxHeartbeats 3200000 in
theorem toE_any (l : List (Int × Int)) (v : Value) (n : Nat) (hl : l.length = n) (hn : n ≤ 1099511627776) (w : World) (hv : Reads 2 w v n (ecells l)) :
    Calls Try.prog 12 #[v] w fun e w' => ∃ v', e = .returned v' ∧ Reads 2 w' v' n (ecells l) ∧ Below w.heap.size w w' := by
  obtain ⟨ao, c, rfl⟩ := hv.shape
  have HL := Lib.hid hl
  have HV := Lib.hid hv
  clear hl hv
  go_enter Try.func12, Try.ntmps12
  go_wp2_with fail
  go_loopw [3, 4] (fun s i wr => ∃ (k cb : Nat) (bo : Option Addr), k ≤ n ∧ i = .int .i64 k ∧ s = .slice bo k cb ∧ wr.ownsRow w.heap.size 48 2 (.slice bo k cb) k (ecells (l.take k)) ∧ Below w.heap.size w wr) (fun _ i _ => n - (intOf i).toNat)
  case atStart => exact ⟨0, 0, none, Nat.zero_le _, rfl, rfl, World.ownsRow_nil _ _ _ _, Below.refl _ _⟩
  case round =>
    obtain ⟨k, cb, bo, hk, rfl, rfl, hown, hnx⟩ := hrel
    have HO := Lib.hid hown
    have hsz := hnx.size
    clear hown
    by_cases hlt : k < n
    · have hkl : k < l.length := by rw [HL.out]; exact hlt
      have hts : l.take (k + 1) = l.take k ++ [l[k]] := List.take_succ_eq_append_getElem hkl
      obtain ⟨b, o, c', e, hb, _, hc1, hc2⟩ := Edges.at HV.out k hlt l[k] (List.getElem?_eq_getElem hkl)
      injection e with e1 e2 e3
      subst e1 e3
      generalize l[k] = x at *
      obtain ⟨x1, x2⟩ := x
      have hd1 := (hnx.cell (p := ⟨b, o + k * 2, none⟩) hb).trans hc1
      have hd2 := (hnx.cell (p := ⟨b, o + k * 2 + 1, none⟩) hb).trans hc2
      have hbr : b < wr.heap.size := Nat.lt_of_lt_of_le hb hsz
      have HT := Lib.hid hts
      clear hc1 hc2 hkl hts
      go_wp2_with fail
      have hB := hnx
      refine wp_region_partsDC (WTo5 b o k n c (.slice bo k cb) x1 x2) 13 [[], [], [], [1, 2], [1, 2, 3], [1, 2, 3, 4], [], [], [6, 7], [6, 7, 8], [6, 7, 8, 9], [1, 2, 3, 4, 5, 6, 7, 8, 9, 10], [1, 2, 3, 4, 5, 6, 7, 8, 9, 10, 11]] [some 11, some 12, some 13, some 14, some 15, some 16, some 17, some 18, some 19, some 20, some 21, some 22, some 23, some 24, some 3] (by kernel_rfl) (by kernel_rfl) rfl (PTo5 b o k n c (.slice bo k cb) x1 x2) (PTo5_stable b o k n c (.slice bo k cb) x1 x2 ) ?pTo5 ?_
      case pTo5 =>
        intro i hi o ho vs lo hx_ w' hg hp
        match i, hi with
        | 0, _ =>
          obtain rfl := Option.some.inj ho
          clear ho
          simp only [actsD, List.getD_cons_zero, List.getD_cons_succ, List.foldl_cons, List.foldl_nil, Act.put, List.setIfInBounds_toArray, List.set_cons_succ, List.set_cons_zero]
          have hsz := hg.size
          have hgB : Below wr.heap.size wr w' := hg.below (fun k hk => ⟨hk, fun o => by rintro ⟨j, _, _, _, hw⟩; exact False.elim hw⟩)
          go_wp2
          exact ⟨_, rfl, GrowC.refl _, rfl⟩
        | 1, _ =>
          obtain rfl := Option.some.inj ho
          clear ho
          simp only [actsD, List.getD_cons_zero, List.getD_cons_succ, List.foldl_cons, List.foldl_nil, Act.put, List.setIfInBounds_toArray, List.set_cons_succ, List.set_cons_zero]
          have hsz := hg.size
          have hgB : Below wr.heap.size wr w' := hg.below (fun k hk => ⟨hk, fun o => by rintro ⟨j, _, _, _, hw⟩; exact False.elim hw⟩)
          go_wp2
          exact ⟨_, rfl, GrowC.refl _, rfl⟩
        | 2, _ =>
          obtain rfl := Option.some.inj ho
          clear ho
          simp only [actsD, List.getD_cons_zero, List.getD_cons_succ, List.foldl_cons, List.foldl_nil, Act.put, List.setIfInBounds_toArray, List.set_cons_succ, List.set_cons_zero]
          have hsz := hg.size
          have hgB : Below wr.heap.size wr w' := hg.below (fun k hk => ⟨hk, fun o => by rintro ⟨j, _, _, _, hw⟩; exact False.elim hw⟩)
          go_wp2
          exact ⟨_, rfl, GrowC.refl _, rfl⟩
        | 3, _ =>
          obtain rfl := Option.some.inj ho
          clear ho
          simp only [actsD, List.getD_cons_zero, List.getD_cons_succ, List.foldl_cons, List.foldl_nil, Act.put, List.setIfInBounds_toArray, List.set_cons_succ, List.set_cons_zero]
          obtain ⟨_, _, _, h1⟩ := hp 1 (by simp)
          simp only [PTo5] at h1
          obtain ⟨_, _, _, h2⟩ := hp 2 (by simp)
          simp only [PTo5] at h2
          have hsz := hg.size
          have hgB : Below wr.heap.size wr w' := hg.below (fun k hk => ⟨hk, fun o => by rintro ⟨j, _, _, _, hw⟩; exact False.elim hw⟩)
          rw [h1, h2]
          go_wp2
          exact ⟨_, rfl, GrowC.refl _, rfl⟩
        | 4, _ =>
          obtain rfl := Option.some.inj ho
          clear ho
          simp only [actsD, List.getD_cons_zero, List.getD_cons_succ, List.foldl_cons, List.foldl_nil, Act.put, List.setIfInBounds_toArray, List.set_cons_succ, List.set_cons_zero]
          obtain ⟨_, _, _, h3⟩ := hp 3 (by simp)
          simp only [PTo5] at h3
          have hsz := hg.size
          have hgB : Below wr.heap.size wr w' := hg.below (fun k hk => ⟨hk, fun o => by rintro ⟨j, _, _, _, hw⟩; exact False.elim hw⟩)
          rw [h3]
          go_wp2
          exact ⟨_, rfl, GrowC.refl _, rfl⟩
        | 5, _ =>
          obtain rfl := Option.some.inj ho
          clear ho
          simp only [actsD, List.getD_cons_zero, List.getD_cons_succ, List.foldl_cons, List.foldl_nil, Act.put, List.setIfInBounds_toArray, List.set_cons_succ, List.set_cons_zero]
          obtain ⟨_, _, _, h4⟩ := hp 4 (by simp)
          simp only [PTo5] at h4
          have hsz := hg.size
          have hgB : Below wr.heap.size wr w' := hg.below (fun k hk => ⟨hk, fun o => by rintro ⟨j, _, _, _, hw⟩; exact False.elim hw⟩)
          rw [h4]
          have e0 := (hgB.cell (p := ⟨b, o + k * 2, none⟩) hbr).trans hd1
          go_wp2
          exact ⟨_, rfl, GrowC.refl _, rfl⟩
        | 6, _ =>
          obtain rfl := Option.some.inj ho
          clear ho
          simp only [actsD, List.getD_cons_zero, List.getD_cons_succ, List.foldl_cons, List.foldl_nil, Act.put, List.setIfInBounds_toArray, List.set_cons_succ, List.set_cons_zero]
          have hsz := hg.size
          have hgB : Below wr.heap.size wr w' := hg.below (fun k hk => ⟨hk, fun o => by rintro ⟨j, _, _, _, hw⟩; exact False.elim hw⟩)
          go_wp2
          exact ⟨_, rfl, GrowC.refl _, rfl⟩
        | 7, _ =>
          obtain rfl := Option.some.inj ho
          clear ho
          simp only [actsD, List.getD_cons_zero, List.getD_cons_succ, List.foldl_cons, List.foldl_nil, Act.put, List.setIfInBounds_toArray, List.set_cons_succ, List.set_cons_zero]
          have hsz := hg.size
          have hgB : Below wr.heap.size wr w' := hg.below (fun k hk => ⟨hk, fun o => by rintro ⟨j, _, _, _, hw⟩; exact False.elim hw⟩)
          go_wp2
          exact ⟨_, rfl, GrowC.refl _, rfl⟩
        | 8, _ =>
          obtain rfl := Option.some.inj ho
          clear ho
          simp only [actsD, List.getD_cons_zero, List.getD_cons_succ, List.foldl_cons, List.foldl_nil, Act.put, List.setIfInBounds_toArray, List.set_cons_succ, List.set_cons_zero]
          obtain ⟨_, _, _, h6⟩ := hp 6 (by simp)
          simp only [PTo5] at h6
          obtain ⟨_, _, _, h7⟩ := hp 7 (by simp)
          simp only [PTo5] at h7
          have hsz := hg.size
          have hgB : Below wr.heap.size wr w' := hg.below (fun k hk => ⟨hk, fun o => by rintro ⟨j, _, _, _, hw⟩; exact False.elim hw⟩)
          rw [h6, h7]
          go_wp2
          exact ⟨_, rfl, GrowC.refl _, rfl⟩
        | 9, _ =>
          obtain rfl := Option.some.inj ho
          clear ho
          simp only [actsD, List.getD_cons_zero, List.getD_cons_succ, List.foldl_cons, List.foldl_nil, Act.put, List.setIfInBounds_toArray, List.set_cons_succ, List.set_cons_zero]
          obtain ⟨_, _, _, h8⟩ := hp 8 (by simp)
          simp only [PTo5] at h8
          have hsz := hg.size
          have hgB : Below wr.heap.size wr w' := hg.below (fun k hk => ⟨hk, fun o => by rintro ⟨j, _, _, _, hw⟩; exact False.elim hw⟩)
          rw [h8]
          go_wp2
          exact ⟨_, rfl, GrowC.refl _, rfl⟩
        | 10, _ =>
          obtain rfl := Option.some.inj ho
          clear ho
          simp only [actsD, List.getD_cons_zero, List.getD_cons_succ, List.foldl_cons, List.foldl_nil, Act.put, List.setIfInBounds_toArray, List.set_cons_succ, List.set_cons_zero]
          obtain ⟨_, _, _, h9⟩ := hp 9 (by simp)
          simp only [PTo5] at h9
          have hsz := hg.size
          have hgB : Below wr.heap.size wr w' := hg.below (fun k hk => ⟨hk, fun o => by rintro ⟨j, _, _, _, hw⟩; exact False.elim hw⟩)
          rw [h9]
          have e0 := (hgB.cell (p := ⟨b, o + k * 2 + 1, none⟩) hbr).trans hd2
          go_wp2
          exact ⟨_, rfl, GrowC.refl _, rfl⟩
        | 11, _ =>
          obtain rfl := Option.some.inj ho
          clear ho
          simp only [actsD, List.getD_cons_zero, List.getD_cons_succ, List.foldl_cons, List.foldl_nil, Act.put, List.setIfInBounds_toArray, List.set_cons_succ, List.set_cons_zero]
          obtain ⟨_, _, _, h5⟩ := hp 5 (by simp)
          simp only [PTo5] at h5
          obtain ⟨_, _, _, h10⟩ := hp 10 (by simp)
          simp only [PTo5] at h10
          have hsz := hg.size
          have hgB : Below wr.heap.size wr w' := hg.below (fun k hk => ⟨hk, fun o => by rintro ⟨j, _, _, _, hw⟩; exact False.elim hw⟩)
          rw [h5, h10]
          go_wp2
          exact ⟨_, rfl, GrowC.refl _, rfl⟩
        | 12, _ =>
          obtain rfl := Option.some.inj ho
          clear ho
          simp only [actsD, List.getD_cons_zero, List.getD_cons_succ, List.foldl_cons, List.foldl_nil, Act.put, List.setIfInBounds_toArray, List.set_cons_succ, List.set_cons_zero]
          obtain ⟨_, _, _, h11⟩ := hp 11 (by simp)
          simp only [PTo5] at h11
          have hsz := hg.size
          have hgB : Below wr.heap.size wr w' := hg.below (fun k hk => ⟨hk, fun o => by rintro ⟨j, _, _, _, hw⟩; exact False.elim hw⟩)
          rw [h11]
          have hbx := Box.new w' #[.int .i64 x1, .int .i64 x2] 48 rfl
          go_wp2
          exact ⟨_, rfl, GrowC.of_grow ((Grow.refl _).alloc _), rfl, by simp, hbx.cell 0 _ rfl, hbx.cell 1 _ rfl⟩
        | (q + 13), hq => exact absurd hq (by omega)
      intro vS lo hi w5 hg hp hd
      obtain ⟨_, _, _, h0⟩ := hp 0 (by omega)
      obtain ⟨_, _, _, h1⟩ := hp 1 (by omega)
      obtain ⟨_, _, _, h2⟩ := hp 2 (by omega)
      obtain ⟨_, _, _, h3⟩ := hp 3 (by omega)
      obtain ⟨_, _, _, h4⟩ := hp 4 (by omega)
      obtain ⟨_, _, _, h5⟩ := hp 5 (by omega)
      obtain ⟨_, _, _, h6⟩ := hp 6 (by omega)
      obtain ⟨_, _, _, h7⟩ := hp 7 (by omega)
      obtain ⟨_, _, _, h8⟩ := hp 8 (by omega)
      obtain ⟨_, _, _, h9⟩ := hp 9 (by omega)
      obtain ⟨_, _, _, h10⟩ := hp 10 (by omega)
      obtain ⟨_, _, _, h11⟩ := hp 11 (by omega)
      obtain ⟨_, _, _, h12⟩ := hp 12 (by omega)
      simp only [PTo5] at h0 h1 h2 h3 h4 h5 h6 h7 h8 h9 h10 h11 h12
      clear hp hd
      have hsz := hg.size
      replace hB := hB.trans (hg.below (fun k hk => ⟨by omega, fun o => by rintro ⟨j, _, hw⟩; exact False.elim hw⟩))
      have hr : List.range 13 = [0, 1, 2, 3, 4, 5, 6, 7, 8, 9, 10, 11, 12] := rfl
      rw [hr]
      clear hr
      simp only [List.drop_succ_cons, List.drop_zero, List.drop_nil, actsD, List.getD_cons_zero, List.getD_cons_succ, List.foldl_cons, List.foldl_nil, Act.put, List.setIfInBounds_toArray, List.set_cons_succ, List.set_cons_zero, h0, h1, h2, h3, h4, h5, h6, h7, h8, h9, h10, h11]
      clear h0 h1 h2 h3 h4 h5 h6 h7 h8 h9 h10 h11
      obtain ⟨e12, hlt12, hc1, hc2⟩ := h12
      simp only [e12]
      have hown2 := own_growx (X := fun _ => False) HO.out (GrowX.of_growC hg (by rintro k o ⟨j, _, hw⟩; exact False.elim hw)) (fun _ _ h => h)
      have hbw := hB
      clear hg e12
      go_wp2_with (at_builtin; refine wpList_append_row redgesOf (.tmp 11) (.tmp 23) rfl rfl (base := w.heap.size) (W0 := w) rfl hown2 hbw rfl rfl (news := [.int .i64 x1, .int .i64 x2]) (by intro j u hu; rw [Addr.add_lit]; match j, hu with | 0, hu => (simp at hu; subst hu; exact hc1) | 1, hu => (simp at hu; subst hu; exact hc2) | (q + 2), hu => (simp at hu)) (by intro u hu; simp at hu; rcases hu with rfl | rfl <;> rfl) (by omega) (by omega) (by omega) (by omega) ?_; intro g4 cap4 w6 hown3 hbel hg4 hlt4 hle4; clear hown2 hc1 hc2 hlt12)
      have hown4 : w6.ownsRow w.heap.size 48 2 (.slice (some ⟨g4, 0, none⟩) (k + 1) cap4) (k + 1) (ecells (l.take (k + 1))) := by rw [HT.out, ecells_append]; exact hown3
      go_roundw
      case rel => exact ⟨k + 1, cap4, _, by omega, by go_num, rfl, hown4, hbel⟩
      case measure => simp [intOf]; omega
    · obtain rfl : n = k := by omega
      have hr := Reads.of_own HO.out
      rw [List.take_of_length_le (Nat.le_of_eq HL.out)] at hr
      have HR := Lib.hid hr
      clear hr
      go_wp2
      go_ret
      exact ⟨_, rfl, HR.out, hnx⟩

set_option maxRecDepth 100000 in
set_option maxHeartbeats 1600000 in
/-- two lists of the same edges -/
theorem sameE_any (l : List (Int × Int)) (v v2 : Value) (n : Nat) (hl : l.length = n) (hn : n ≤ 1099511627776) (w : World) (hv : Reads 2 w v n (ecells l)) (hv2 : Reads 2 w v2 n (ecells l)) :
    Calls Try.prog 14 #[v, v2] w fun e w' => e = .returned (.bool true) ∧ Below w.heap.size w w' := by
  obtain ⟨ao, c, rfl⟩ := hv.shape
  obtain ⟨ao2, c2, rfl⟩ := hv2.shape
  have HL := Lib.hid hl
  have HV := Lib.hid hv
  have HV2 := Lib.hid hv2
  clear hl hv hv2
  go_enter Try.func14, Try.ntmps14
  go_wp2_with fail
  go_loopw [5] (fun i wr => ∃ (k : Nat), k ≤ n ∧ i = .int .i64 k ∧ Below w.heap.size w wr) (fun i _ => n - (intOf i).toNat)
  case atStart => exact ⟨0, Nat.zero_le _, rfl, Below.refl _ _⟩
  case round =>
    obtain ⟨k, hk, rfl, hnx⟩ := hrel
    by_cases hlt : k < n
    · have hkl : k < l.length := by rw [HL.out]; exact hlt
      obtain ⟨b, o, c', e, hb, _, hc1, hc2⟩ := Edges.at HV.out k hlt l[k] (List.getElem?_eq_getElem hkl)
      obtain ⟨b2, o2, c2', e', hb2, _, hc3, hc4⟩ := Edges.at HV2.out k hlt l[k] (List.getElem?_eq_getElem hkl)
      injection e with e1 e2 e3
      injection e' with e1' e2' e3'
      subst e1 e3 e1' e3'
      generalize l[k] = x at *
      obtain ⟨x1, x2⟩ := x
      have hd1 := (hnx.cell (p := ⟨b, o + k * 2, none⟩) hb).trans hc1
      have hd2 := (hnx.cell (p := ⟨b, o + k * 2 + 1, none⟩) hb).trans hc2
      have hd3 := (hnx.cell (p := ⟨b2, o2 + k * 2, none⟩) hb2).trans hc3
      have hd4 := (hnx.cell (p := ⟨b2, o2 + k * 2 + 1, none⟩) hb2).trans hc4
      clear hc1 hc2 hc3 hc4 hkl
      go_wp2_with fail
      go_quiet (fail)
      go_wp2
      have hq := below_dn (Below.refl wr.heap.size wr) nq
      go_roundw
      case rel => exact ⟨k + 1, by omega, by go_num, hnx.trans (hq.mono hnx.size)⟩
      case measure => simp [intOf]; omega
    · obtain rfl : n = k := by omega
      go_wp2
      go_ret
      exact ⟨rfl, hnx⟩

namespace W
def L0 : List (Int × Int) := [(1, 2), (2, 1), (2, 3)]
theorem L0_12 : Rch L0 1 2 := .one (by simp [L0])
theorem L0_21 : Rch L0 2 1 := .one (by simp [L0])
theorem L0_src {a b : Int} (h : Rch L0 a b) : a = 1 ∨ a = 2 := by have := h.source; simp [L0] at this; omega
theorem L0_cyc : IsCyc L0 1 [1, 2] := by
  refine ⟨by simp, fun x => ?_⟩
  constructor
  · intro h
    simp at h
    rcases h with rfl | rfl
    · exact ⟨L0_12.trans L0_21, L0_12.trans L0_21⟩
    · exact ⟨L0_12, L0_21⟩
  · rintro ⟨_, h⟩
    have := L0_src h
    simp; omega
theorem L0_vic1 : IsVic L0 1 2 true := by
  refine ⟨fun _ => ⟨⟨L0_12, L0_21⟩, fun x _ h => ?_⟩, (by intro h; cases h)⟩
  have := L0_src h; omega
theorem L0_vic3 {v : Int} {ok : Bool} (h : IsVic L0 3 v ok) : ok = false := by
  cases ok with
  | false => rfl
  | true => have := L0_src ((h.yes rfl).1.1); omega
theorem L0_free {f : List (Int × Int)} (h : FreeTo L0 f) : f = [] := by
  refine h.eq (.step (v := 2) (L0_21.trans L0_12) ?_ ?_)
  · intro e he hr; have := L0_src hr; omega
  · exact .done (by intro e he; exact absurd he (by simp [wout, L0]))
end W

set_option maxRecDepth 100000 in
set_option maxHeartbeats 3200000 in
theorem awake_any (w : World) : Calls Try.prog 7 #[] w fun e w' => e = .returned (.bool true) ∧ Below w.heap.size w w' := by
  obtain ⟨wa, hwa⟩ : ∃ wa, wa = w.alloc (.cells #[.int .i64 1, .int .i64 2, .int .i64 2, .int .i64 1, .int .i64 2, .int .i64 3] 24) := ⟨_, rfl⟩
  have own0 := World.ownsRow_lit (size := 2) (base := w.heap.size) (e := 24) w #[.int .i64 1, .int .i64 2, .int .i64 2, .int .i64 1, .int .i64 2, .int .i64 3] 3 (Nat.le_refl _) (by unfold maxLen; omega) rfl
  have hB0 := (Below.refl w.heap.size w).alloc (Nat.le_refl _) (.cells #[.int .i64 1, .int .i64 2, .int .i64 2, .int .i64 1, .int .i64 2, .int .i64 3] 24)
  rw [← hwa] at own0 hB0
  have HR0 : Hid (Reads 2 wa (.slice (some ⟨w.heap.size, 0, none⟩) 3 3) 3 (ecells W.L0)) := Lib.hid (Reads.of_own own0)
  have HB0 := Lib.hid hB0
  have HWA := Lib.hid hwa
  clear own0 hB0 hwa
  go_enter Try.func7, Try.ntmps7
  go_wp2_with fail
  rw [← HWA.out]
  refine (cycle_any W.L0 _ 3 rfl (by decide) 1 wa HR0.out).mono ?_
  rintro e w1 ⟨cc, ao1, m, cap, rfl, hcl, hcyc, hi, hb1⟩
  obtain rfl := hcyc.eq W.L0_cyc
  have hm2 : m = 2 := hcl.symm
  subst hm2
  obtain ⟨b, o, c', e, hb, _, hc1⟩ := Reads.at hi 0 (by decide) (.int .i64 1) rfl
  injection e with e1 e2 e3
  subst e1 e3
  have HB1 := Lib.hid (HB0.out.trans (hb1.mono HB0.out.size))
  have HR1 := Lib.hid (HR0.out.below hb1 (Nat.le_refl _))
  clear hcl hcyc hi hb1 HB0 HR0
  go_wp2_with fail
  refine (victim_any W.L0 _ 3 rfl (by decide) 1 w1 HR1.out).mono ?_
  rintro e w2 ⟨v, ok, rfl, hv, hb2⟩
  obtain ⟨rfl, rfl⟩ := hv.eq W.L0_vic1
  have hc2 := (hb2.cell (p := ⟨b, o + 0, none⟩) hb).trans hc1
  have hbb2 : b < w2.heap.size := Nat.lt_of_lt_of_le hb hb2.size
  have HB2 := Lib.hid (HB1.out.trans (hb2.mono HB1.out.size))
  have HR2 := Lib.hid (HR1.out.below hb2 (Nat.le_refl _))
  clear hv hb2 HB1 HR1 hc1 hb
  go_wp2_with fail
  refine (victim_any W.L0 _ 3 rfl (by decide) 3 w2 HR2.out).mono ?_
  rintro e w3 ⟨v, ok, rfl, hv, hb3⟩
  obtain rfl := W.L0_vic3 hv
  have hc3 := (hb3.cell (p := ⟨b, o + 0, none⟩) hbb2).trans hc2
  have hbb3 : b < w3.heap.size := Nat.lt_of_lt_of_le hbb2 hb3.size
  have HB3 := Lib.hid (HB2.out.trans (hb3.mono HB2.out.size))
  have HR3 := Lib.hid (HR2.out.below hb3 (Nat.le_refl _))
  clear hv hb3 HB2 HR2 hc2 hbb2
  simp only [Nat.add_zero] at hc3
  go_wp2_with fail
  refine (free_any W.L0 _ 3 rfl (by decide) w3 HR3.out).mono ?_
  rintro e w4 ⟨f, v4, rfl, hf, hr4, hb4⟩
  obtain rfl := W.L0_free hf
  obtain ⟨ao4, c4, rfl⟩ := Reads.shape hr4
  have HB4 := Lib.hid (HB3.out.trans (hb4.mono HB3.out.size))
  clear hf hr4 hb4
  simp only [List.length_nil]
  go_wp2
  go_ret
  exact ⟨rfl, HB4.out⟩
end Go.Proofs.Ytjakekfalooebaa

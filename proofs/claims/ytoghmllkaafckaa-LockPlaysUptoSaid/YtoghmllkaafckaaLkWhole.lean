/- lock: whole: the modes that one would come to hold. Conditions: at most 2^40 locks and wants. -/
import Derived.Test.YtoghmllkaafckaaLkIdx
import Derived.Deep.DeepCutAuto
namespace Go.Proofs.Ytoghmllkaafckaa
set_option linter.unusedSimpArgs false
set_option linter.unusedVariables false
open Go.RowKit

def WWh9 (g tb : Nat) (x1 : ByteArray) (x2 id m0 : Int) (bo : Option Addr) (m cb : Nat) (j b o : Nat) : Prop := False
def PWh9 (g tb : Nat) (x1 : ByteArray) (x2 id m0 : Int) (bo : Option Addr) (m cb : Nat) (i : Nat) (v : Value) (lo hi : Nat) (w : World) : Prop :=
  match i with
  | 0 => v = .slice bo m cb
  | 1 => v = .pointer (some ⟨g, 0, none⟩)
  | 2 => v = .string x1
  | 3 => v = .pointer (some ⟨tb, 0, none⟩)
  | 4 => v = .int .i64 id
  | 5 => v = .pointer (some ⟨g, 0, none⟩)
  | 6 => v = .string x1
  | 7 => v = .int .i64 m0
  | 8 => v = .agg #[.string x1, .int .i64 m0]
  | 9 => v = .slice (some ⟨lo, 0, none⟩) 1 1 ∧ lo < w.heap.size ∧ w.cell? ⟨lo, 0, none⟩ = some (.string x1) ∧ w.cell? ⟨lo, 1, none⟩ = some (.int .i64 m0)
  | _ => True
theorem PWh9_stable (g tb : Nat) (x1 : ByteArray) (x2 id m0 : Int) (bo : Option Addr) (m cb : Nat)  : ∀ i j, i < 10 → j < 10 → j ≠ i → j ∉ ([[], [], [1], [], [], [], [5], [3, 4, 5, 6], [1, 2, 3, 4, 5, 6, 7], [1, 2, 3, 4, 5, 6, 7, 8]] : List (List Nat)).getD i [] → ∀ v lo hi w w', PWh9 g tb x1 x2 id m0 bo m cb i v lo hi w → GrowC (WWh9 g tb x1 x2 id m0 bo m cb j) w w' → PWh9 g tb x1 x2 id m0 bo m cb i v lo hi w' := by
  intro i j hi hj hne hbs v lo hj2 w w' h hg
  match i, hi with
  | 0, _ =>
    simp only [PWh9] at h ⊢
    exact h
  | 1, _ =>
    simp only [PWh9] at h ⊢
    exact h
  | 2, _ =>
    simp only [PWh9] at h ⊢
    exact h
  | 3, _ =>
    simp only [PWh9] at h ⊢
    exact h
  | 4, _ =>
    simp only [PWh9] at h ⊢
    exact h
  | 5, _ =>
    simp only [PWh9] at h ⊢
    exact h
  | 6, _ =>
    simp only [PWh9] at h ⊢
    exact h
  | 7, _ =>
    simp only [PWh9] at h ⊢
    exact h
  | 8, _ =>
    simp only [PWh9] at h ⊢
    exact h
  | 9, _ =>
    simp only [PWh9] at h ⊢
    exact ⟨h.1, Nat.lt_of_lt_of_le h.2.1 hg.size, (hg.cell _ _ h.2.1 (fun hw => hw)).trans h.2.2.1, (hg.cell _ _ h.2.1 (fun hw => hw)).trans h.2.2.2⟩
  | (q + 10), hq => exact absurd hq (by omega)
def WWh10 (g ob jx : Nat) (x1 : ByteArray) (x2 mo : Int) (m cb : Nat) (j b o : Nat) : Prop := False
def PWh10 (g ob jx : Nat) (x1 : ByteArray) (x2 mo : Int) (m cb : Nat) (i : Nat) (v : Value) (lo hi : Nat) (w : World) : Prop :=
  match i with
  | 0 => v = .slice (some ⟨ob, 0, none⟩) m cb
  | 1 => v = .int .i64 ((jx : Nat) : Int)
  | 2 => v = .slice (some ⟨ob, 0, none⟩) m cb
  | 3 => v = .int .i64 ((jx : Nat) : Int)
  | 4 => v = .pointer (some ⟨ob, jx * 2, none⟩)
  | 5 => v = .pointer (some ⟨ob, jx * 2 + 1, none⟩)
  | 6 => v = .int .i64 mo
  | 7 => v = .pointer (some ⟨g, 1, none⟩)
  | 8 => v = .int .i64 x2
  | 9 => v = .int .i64 (joinI mo x2)
  | 10 => v = .pointer (some ⟨ob, jx * 2, none⟩)
  | 11 => v = .pointer (some ⟨ob, jx * 2 + 1, none⟩)
  | _ => True
theorem PWh10_stable (g ob jx : Nat) (x1 : ByteArray) (x2 mo : Int) (m cb : Nat)  : ∀ i j, i < 12 → j < 12 → j ≠ i → j ∉ ([[], [], [], [], [2, 3], [2, 3, 4], [2, 3, 4, 5], [], [7], [2, 3, 4, 5, 6, 7, 8], [0, 1, 2, 3, 4, 5, 6, 7, 8, 9], [0, 1, 2, 3, 4, 5, 6, 7, 8, 9, 10]] : List (List Nat)).getD i [] → ∀ v lo hi w w', PWh10 g ob jx x1 x2 mo m cb i v lo hi w → GrowC (WWh10 g ob jx x1 x2 mo m cb j) w w' → PWh10 g ob jx x1 x2 mo m cb i v lo hi w' := by
  intro i j hi hj hne hbs v lo hj2 w w' h hg
  match i, hi with
  | 0, _ =>
    simp only [PWh10] at h ⊢
    exact h
  | 1, _ =>
    simp only [PWh10] at h ⊢
    exact h
  | 2, _ =>
    simp only [PWh10] at h ⊢
    exact h
  | 3, _ =>
    simp only [PWh10] at h ⊢
    exact h
  | 4, _ =>
    simp only [PWh10] at h ⊢
    exact h
  | 5, _ =>
    simp only [PWh10] at h ⊢
    exact h
  | 6, _ =>
    simp only [PWh10] at h ⊢
    exact h
  | 7, _ =>
    simp only [PWh10] at h ⊢
    exact h
  | 8, _ =>
    simp only [PWh10] at h ⊢
    exact h
  | 9, _ =>
    simp only [PWh10] at h ⊢
    exact h
  | 10, _ =>
    simp only [PWh10] at h ⊢
    exact h
  | 11, _ =>
    simp only [PWh10] at h ⊢
    exact h
  | (q + 12), hq => exact absurd hq (by omega)

theorem own_free {w : World} {base e K n cap g : Nat} {v : Value} {xs : List Value} (h : w.ownsRow base e K v n xs) (hv : v = .slice (some ⟨g, 0, none⟩) n cap) (o : Nat) : w.frozen? ⟨g, o, none⟩ = false := by
  subst hv
  rcases h.2 with ⟨h0, _⟩ | ⟨g', cap', cur, e0, _, hg, _⟩
  · simp at h0
  · injection e0 with e1 e2 e3
    injection e1 with e1
    injection e1 with e1
    subst e1
    exact frozen_of_row' hg o
theorem GrowX.of_grownBy {u u' : World} {r : Option Nat} (hgr : u.grownBy u' r) : GrowX (fun q => r = some q) u u' :=
  ⟨hgr.os, hgr.tape, hgr.output, hgr.size, fun k hk hx => hgr.block k hk (fun e => hx e.symm)⟩
theorem Box.growx {X : Nat → Prop} {w w' : World} {g : Nat} {vs : List Value} (h : Box w g vs) (hg : GrowX X w w') (hX : ¬ X g) : Box w' g vs := by
  have hb : w'.heap[g]? = w.heap[g]? := hg.block g h.lt hX
  refine ⟨Nat.lt_of_lt_of_le h.lt hg.size, fun i v hi => ?_, fun o => ?_⟩
  · rw [← h.cell i v hi]; exact World.cell?_of_block (w := w) hb
  · rw [← h.free o]; exact World.frozen?_of_block (w := w) hb
theorem wstep_no {L : List Hd} {id : Int} {O : List Wn} {x : Wn} (h : isM x.2 = false) : wstep L id O x = O := by unfold wstep; rw [if_neg (by rw [h]; simp)]
theorem wstep_new {L : List Hd} {id : Int} {O : List Wn} {x : Wn} (h : isM x.2 = true) (hf : O.findIdx? (fun y => decide (y.1 = x.1)) = none) : wstep L id O x = O ++ [(x.1, joinI (modeL L id x.1) x.2)] := by unfold wstep; rw [if_pos h, hf]
theorem wstep_old {L : List Hd} {id : Int} {O : List Wn} {x : Wn} (h : isM x.2 = true) {i : Nat} {m : Int} (hf : O.findIdx? (fun y => decide (y.1 = x.1)) = some i) (hi : O[i]? = some (x.1, m)) : wstep L id O x = O.set i (x.1, joinI m x.2) := by
  unfold wstep; rw [if_pos h, hf]
  simp only [List.getD_eq_getElem?_getD, hi, Option.getD_some]
theorem find_at {O : List Wn} {n : ByteArray} {i : Nat} (hf : O.findIdx? (fun y => decide (y.1 = n)) = some i) : ∃ m, O[i]? = some (n, m) ∧ i < O.length := by
  obtain ⟨hil, he, _⟩ := List.findIdx?_eq_some_iff_getElem.1 hf
  have he' : O[i].1 = n := by simpa using he
  exact ⟨O[i].2, by rw [List.getElem?_eq_getElem hil]; exact congrArg some (Prod.ext he' rfl), hil⟩

set_option maxRecDepth 100000 in
set_option maxHeartbeats 6400000 in
theorem whole_any (L : List Hd) (tb n c : Nat) (ao : Option Addr) (hn : n ≤ 1099511627776) (id : Int) (l : List Wn) (v : Value) (nl : Nat) (hl : l.length = nl) (hnl : nl ≤ 1099511627776) (w : World) (ht : TabR w tb n c ao L) (hv : Reads 2 w v nl (wcells l)) :
    Calls Try.prog 36 #[.pointer (some ⟨tb, 0, none⟩), .int .i64 id, v] w fun e w' => ∃ v' m, e = .returned v' ∧ w'.ownsRow w.heap.size 40 2 v' m (wcells (whole L id l)) ∧ (whole L id l).length = m ∧ m ≤ nl ∧ Below w.heap.size w w' := by
  obtain ⟨av, cv, rfl⟩ := hv.shape
  have HL := Lib.hid hl
  have HV := Lib.hid hv
  have HT := Lib.hid ht
  clear hl hv ht
  obtain ⟨G, hG⟩ : ∃ G, w.heap.size = G := ⟨_, rfl⟩
  rw [hG]
  have HG := Lib.hid hG
  clear hG
  go_enter Try.func36, Try.ntmps36
  go_wp2_with fail
  go_loopw [7, 13] (fun s i wr => ∃ (k m cb : Nat) (bo : Option Addr), k ≤ nl ∧ i = .int .i64 k ∧ s = .slice bo m cb ∧ Hid ((whole L id (l.take k)).length = m) ∧ m ≤ k ∧
      wr.ownsRow G 40 2 (.slice bo m cb) m (wcells (whole L id (l.take k))) ∧ Below G w wr) (fun _ i _ => nl - (intOf i).toNat)
  case atStart => exact ⟨0, 0, 0, none, Nat.zero_le _, rfl, rfl, Lib.hid rfl, Nat.le_refl _, World.ownsRow_nil _ _ _ _, Below.refl _ _⟩
  case round =>
    obtain ⟨k, m, cb, bo, hk, rfl, rfl, HM, hmk, hown, hnx⟩ := hrel
    have HO := Lib.hid hown
    have hsz : G ≤ wr.heap.size := by have := hnx.size; have := HG.out; omega
    have HNX := Lib.hid hnx
    clear hown hnx
    by_cases hlt : k < nl
    · have hkl : k < l.length := by rw [HL.out]; exact hlt
      have hts : whole L id (l.take (k + 1)) = wstep L id (whole L id (l.take k)) l[k] := by rw [List.take_succ_eq_append_getElem hkl, whole_snoc]
      obtain ⟨b, o, c', e, hb, _, hc1, hc2⟩ := Wns.at HV.out k hlt l[k] (List.getElem?_eq_getElem hkl)
      injection e with e1 e2 e3
      subst e1 e3
      have hbG : b < G := by rw [← HG.out]; exact hb
      generalize l[k] = x at *
      obtain ⟨x1, x2⟩ := x
      have hd1 := (HNX.out.cell (p := ⟨b, o + k * 2, none⟩) hbG).trans hc1
      have hd2 := (HNX.out.cell (p := ⟨b, o + k * 2 + 1, none⟩) hbG).trans hc2
      simp only at hd1 hd2
      clear hc1 hc2 hkl hb e2
      have HTS := Lib.hid hts
      clear hts
      generalize whole L id (l.take k) = O at *
      by_cases hm : isM x2 = true
      case neg =>
        have hm' : isM x2 = false := by simpa using hm
        have HT2 : Hid (whole L id (l.take (k + 1)) = O) := Lib.hid (by rw [HTS.out]; exact wstep_no hm')
        clear hm HTS
        go_wp2_with (go_at_call 27; refine (is_any _ _).mono ?_; rintro e w' ⟨rfl, rfl⟩)
        go_roundw
        case rel => exact ⟨k + 1, m, cb, bo, by omega, by go_num, rfl, by rw [HT2.out]; exact HM, by omega, by rw [HT2.out]; exact HO.out.alloc _, HNX.out.alloc hsz _⟩
        case measure => simp [intOf]; omega
      case pos =>
        obtain ⟨g, hgs⟩ : ∃ g, wr.heap.size = g := ⟨_, rfl⟩
        have HGS := Lib.hid hgs
        have be0 := Box.new wr #[.string x1, .int .i64 x2] 40 hgs.symm
        have HE0 := Lib.hid be0
        have HR0 : Hid (Reads 2 (wr.alloc (.cells #[.string x1, .int .i64 x2] 40)) (.slice bo m cb) m (wcells O)) := Lib.hid (Reads.of_own (HO.out.alloc _))
        have HB0 := Lib.hid (HNX.out.alloc hsz (.cells #[.string x1, .int .i64 x2] 40))
        have HO0 : Hid ((wr.alloc (.cells #[.string x1, .int .i64 x2] 40)).ownsRow G 40 2 (.slice bo m cb) m (wcells O)) := Lib.hid (HO.out.alloc _)
        have hgG : G ≤ g := by omega
        have HNG : Hid (¬ (Value.slice bo m cb).ownBlock = some g) := Lib.hid (fun e => by have := (HO.out.lt g e).2; omega)
        clear be0 hgs HO HNX
        cases hf : O.findIdx? (fun y => decide (y.1 = x1)) with
        | none =>
          have HF := Lib.hid hf
          have HT2 : Hid (whole L id (l.take (k + 1)) = O ++ [(x1, joinI (modeL L id x1) x2)]) := Lib.hid (by rw [HTS.out]; exact wstep_new hm hf)
          clear hf HTS
          go_wp2_with (first | (go_at_call 27; refine (is_any _ _).mono ?_; rintro e w' ⟨rfl, rfl⟩) | fail)
          rw [HGS.out]
          refine (idxW_no O m cb bo HM.out (by omega) g x1 x2 _ HR0.out HE0.out HF.out).mono ?_
          rintro e w1 ⟨rfl, hb1⟩
          obtain ⟨w2, hw2⟩ : ∃ w2, w2 = w1 := ⟨_, rfl⟩
          rw [← hw2] at hb1 ⊢
          have be := HE0.out.below hb1 (Nat.le_refl _)
          have hB := HB0.out.trans (hb1.mono (by have := HGS.out; simp; omega))
          have HO2 := Lib.hid (own_below HO0.out hb1 (fun q e => (HO0.out.lt q e).2))
          have HT2x : Hid (TabR w2 tb n c ao L) := Lib.hid (HT.out.below hB (by rw [HG.out]; exact Nat.le_refl _))
          obtain ⟨m0, hm0⟩ : ∃ m0, modeL L id x1 = m0 := ⟨_, rfl⟩
          have HM0 := Lib.hid hm0
          have hG2 : G ≤ w2.heap.size := by have := hB.size; have := HG.out; omega
          clear hw2 hb1 HE0 HR0 HB0 HO0 hm0
          go_wp2_with fail
          refine wp_region_partsDC (WWh9 g tb x1 x2 id m0 bo m cb) 10 [[], [], [1], [], [], [], [5], [3, 4, 5, 6], [1, 2, 3, 4, 5, 6, 7], [1, 2, 3, 4, 5, 6, 7, 8]] [some 28, some 29, some 30, some 31, some 32, some 33, some 34, some 35, some 36, some 37, some 38, some 7] (by kernel_rfl) (by kernel_rfl) rfl (PWh9 g tb x1 x2 id m0 bo m cb) (PWh9_stable g tb x1 x2 id m0 bo m cb ) ?pWh9 ?_
          case pWh9 =>
            intro i hi o ho vs lo hx_ w' hg hp
            match i, hi with
            | 0, _ =>
              obtain rfl := Option.some.inj ho
              clear ho
              simp only [actsD, List.getD_cons_zero, List.getD_cons_succ, List.foldl_cons, List.foldl_nil, Act.put, List.setIfInBounds_toArray, List.set_cons_succ, List.set_cons_zero]
              have hsz := hg.size
              have hgB : Below w2.heap.size w2 w' := hg.below (fun k hk => ⟨hk, fun o => by rintro ⟨j, _, _, _, hw⟩; exact False.elim hw⟩)
              go_wp2
              exact ⟨_, rfl, GrowC.refl _, rfl⟩
            | 1, _ =>
              obtain rfl := Option.some.inj ho
              clear ho
              simp only [actsD, List.getD_cons_zero, List.getD_cons_succ, List.foldl_cons, List.foldl_nil, Act.put, List.setIfInBounds_toArray, List.set_cons_succ, List.set_cons_zero]
              have hsz := hg.size
              have hgB : Below w2.heap.size w2 w' := hg.below (fun k hk => ⟨hk, fun o => by rintro ⟨j, _, _, _, hw⟩; exact False.elim hw⟩)
              go_wp2
              exact ⟨_, rfl, GrowC.refl _, rfl⟩
            | 2, _ =>
              obtain rfl := Option.some.inj ho
              clear ho
              simp only [actsD, List.getD_cons_zero, List.getD_cons_succ, List.foldl_cons, List.foldl_nil, Act.put, List.setIfInBounds_toArray, List.set_cons_succ, List.set_cons_zero]
              obtain ⟨_, _, _, h1⟩ := hp 1 (by simp)
              simp only [PWh9] at h1
              have hsz := hg.size
              have hgB : Below w2.heap.size w2 w' := hg.below (fun k hk => ⟨hk, fun o => by rintro ⟨j, _, _, _, hw⟩; exact False.elim hw⟩)
              rw [h1]
              have e0 := (hg.cell (g) 0 be.lt (by rintro ⟨j, _, hne, hb, hw⟩; exact False.elim hw)).trans (be.cell 0 _ rfl)
              go_wp2
              exact ⟨_, rfl, GrowC.refl _, rfl⟩
            | 3, _ =>
              obtain rfl := Option.some.inj ho
              clear ho
              simp only [actsD, List.getD_cons_zero, List.getD_cons_succ, List.foldl_cons, List.foldl_nil, Act.put, List.setIfInBounds_toArray, List.set_cons_succ, List.set_cons_zero]
              have hsz := hg.size
              have hgB : Below w2.heap.size w2 w' := hg.below (fun k hk => ⟨hk, fun o => by rintro ⟨j, _, _, _, hw⟩; exact False.elim hw⟩)
              go_wp2
              exact ⟨_, rfl, GrowC.refl _, rfl⟩
            | 4, _ =>
              obtain rfl := Option.some.inj ho
              clear ho
              simp only [actsD, List.getD_cons_zero, List.getD_cons_succ, List.foldl_cons, List.foldl_nil, Act.put, List.setIfInBounds_toArray, List.set_cons_succ, List.set_cons_zero]
              have hsz := hg.size
              have hgB : Below w2.heap.size w2 w' := hg.below (fun k hk => ⟨hk, fun o => by rintro ⟨j, _, _, _, hw⟩; exact False.elim hw⟩)
              go_wp2
              exact ⟨_, rfl, GrowC.refl _, rfl⟩
            | 5, _ =>
              obtain rfl := Option.some.inj ho
              clear ho
              simp only [actsD, List.getD_cons_zero, List.getD_cons_succ, List.foldl_cons, List.foldl_nil, Act.put, List.setIfInBounds_toArray, List.set_cons_succ, List.set_cons_zero]
              have hsz := hg.size
              have hgB : Below w2.heap.size w2 w' := hg.below (fun k hk => ⟨hk, fun o => by rintro ⟨j, _, _, _, hw⟩; exact False.elim hw⟩)
              go_wp2
              exact ⟨_, rfl, GrowC.refl _, rfl⟩
            | 6, _ =>
              obtain rfl := Option.some.inj ho
              clear ho
              simp only [actsD, List.getD_cons_zero, List.getD_cons_succ, List.foldl_cons, List.foldl_nil, Act.put, List.setIfInBounds_toArray, List.set_cons_succ, List.set_cons_zero]
              obtain ⟨_, _, _, h5⟩ := hp 5 (by simp)
              simp only [PWh9] at h5
              have hsz := hg.size
              have hgB : Below w2.heap.size w2 w' := hg.below (fun k hk => ⟨hk, fun o => by rintro ⟨j, _, _, _, hw⟩; exact False.elim hw⟩)
              rw [h5]
              have e0 := (hg.cell (g) 0 be.lt (by rintro ⟨j, _, hne, hb, hw⟩; exact False.elim hw)).trans (be.cell 0 _ rfl)
              go_wp2
              exact ⟨_, rfl, GrowC.refl _, rfl⟩
            | 7, _ =>
              obtain rfl := Option.some.inj ho
              clear ho
              simp only [actsD, List.getD_cons_zero, List.getD_cons_succ, List.foldl_cons, List.foldl_nil, Act.put, List.setIfInBounds_toArray, List.set_cons_succ, List.set_cons_zero]
              obtain ⟨_, _, _, h3⟩ := hp 3 (by simp)
              simp only [PWh9] at h3
              obtain ⟨_, _, _, h4⟩ := hp 4 (by simp)
              simp only [PWh9] at h4
              obtain ⟨_, _, _, h6⟩ := hp 6 (by simp)
              simp only [PWh9] at h6
              have hsz := hg.size
              have hgB : Below w2.heap.size w2 w' := hg.below (fun k hk => ⟨hk, fun o => by rintro ⟨j, _, _, _, hw⟩; exact False.elim hw⟩)
              rw [h3, h4, h6]
              go_wp2_with fail
              refine (mode_any L tb n c ao hn id x1 _ (HT2x.out.below hgB (Nat.le_refl _))).mono ?_
              rintro e wc ⟨rfl, hbc⟩
              rw [HM0.out]
              go_wp2
              exact ⟨_, rfl, GrowC.of_grow hbc, rfl⟩
            | 8, _ =>
              obtain rfl := Option.some.inj ho
              clear ho
              simp only [actsD, List.getD_cons_zero, List.getD_cons_succ, List.foldl_cons, List.foldl_nil, Act.put, List.setIfInBounds_toArray, List.set_cons_succ, List.set_cons_zero]
              obtain ⟨_, _, _, h2⟩ := hp 2 (by simp)
              simp only [PWh9] at h2
              obtain ⟨_, _, _, h7⟩ := hp 7 (by simp)
              simp only [PWh9] at h7
              have hsz := hg.size
              have hgB : Below w2.heap.size w2 w' := hg.below (fun k hk => ⟨hk, fun o => by rintro ⟨j, _, _, _, hw⟩; exact False.elim hw⟩)
              rw [h2, h7]
              go_wp2
              exact ⟨_, rfl, GrowC.refl _, rfl⟩
            | 9, _ =>
              obtain rfl := Option.some.inj ho
              clear ho
              simp only [actsD, List.getD_cons_zero, List.getD_cons_succ, List.foldl_cons, List.foldl_nil, Act.put, List.setIfInBounds_toArray, List.set_cons_succ, List.set_cons_zero]
              obtain ⟨_, _, _, h8⟩ := hp 8 (by simp)
              simp only [PWh9] at h8
              have hsz := hg.size
              have hgB : Below w2.heap.size w2 w' := hg.below (fun k hk => ⟨hk, fun o => by rintro ⟨j, _, _, _, hw⟩; exact False.elim hw⟩)
              rw [h8]
              have hbx := Box.new w' #[.string x1, .int .i64 m0] 40 rfl
              go_wp2
              exact ⟨_, rfl, GrowC.of_grow ((Grow.refl _).alloc _), rfl, by simp, hbx.cell 0 _ rfl, hbx.cell 1 _ rfl⟩
            | (q + 10), hq => exact absurd hq (by omega)
          intro vS lo hi w3 hg hp hd
          obtain ⟨_, _, _, h0⟩ := hp 0 (by decide)
          obtain ⟨_, _, _, h1⟩ := hp 1 (by decide)
          obtain ⟨_, _, _, h2⟩ := hp 2 (by decide)
          obtain ⟨_, _, _, h3⟩ := hp 3 (by decide)
          obtain ⟨_, _, _, h4⟩ := hp 4 (by decide)
          obtain ⟨_, _, _, h5⟩ := hp 5 (by decide)
          obtain ⟨_, _, _, h6⟩ := hp 6 (by decide)
          obtain ⟨_, _, _, h7⟩ := hp 7 (by decide)
          obtain ⟨_, _, _, h8⟩ := hp 8 (by decide)
          obtain ⟨_, _, _, h9⟩ := hp 9 (by decide)
          simp only [PWh9] at h0 h1 h2 h3 h4 h5 h6 h7 h8 h9
          clear hp hd
          have hsz := hg.size
          replace be := be.grow hg (by intro i _; rintro ⟨j, _, hw⟩; exact False.elim hw)
          replace hB := hB.trans (hg.below (fun k hk => ⟨by omega, fun o => by rintro ⟨j, _, hw⟩; exact False.elim hw⟩))
          have hr : List.range 10 = [0, 1, 2, 3, 4, 5, 6, 7, 8, 9] := rfl
          rw [hr]
          clear hr
          simp only [List.drop_succ_cons, List.drop_zero, List.drop_nil, actsD, List.getD_cons_zero, List.getD_cons_succ, List.foldl_cons, List.foldl_nil, Act.put, List.setIfInBounds_toArray, List.set_cons_succ, List.set_cons_zero, h0, h1, h2, h3, h4, h5, h6, h7, h8]
          clear h0 h1 h2 h3 h4 h5 h6 h7 h8
          obtain ⟨e9, hlt9, hc91, hc92⟩ := h9
          simp only [e9]
          have ho3 := own_growx (X := fun _ => False) HO2.out (GrowX.of_growC hg (fun k o hw => by obtain ⟨j, _, hw⟩ := hw; exact hw)) (fun _ _ h => h)
          have hG3 : G ≤ w3.heap.size := by omega
          have HB3 := Lib.hid hB
          have HBE3 := Lib.hid be
          have HO3 := Lib.hid ho3
          clear hg e9 be hB HO2 ho3
          go_wp2_with (at_builtin; refine wpList_append_two wnsOf (.tmp 28) (.tmp 37) rfl rfl (base := G) rfl HO3.out rfl rfl (news := [.string x1, .int .i64 m0]) (by intro j u hu; rw [Addr.add_lit]; match j, hu with | 0, hu => (simp at hu; subst hu; exact hc91) | 1, hu => (simp at hu; subst hu; exact hc92) | (q + 2), hu => (simp at hu)) (by intro u hu; simp at hu; rcases hu with rfl | rfl <;> rfl) (by omega) (by omega) (by omega) (by omega) ?_; intro ob cb4 w4 hown4 hgr4 hor4)
          have HO4 := Lib.hid hown4
          have HB4 := Lib.hid (HB3.out.grown hgr4 hG3 (fun k hk => (HO3.out.lt k hk).1))
          have HBE4 := Lib.hid (HBE3.out.growx (GrowX.of_grownBy hgr4) (fun e => HNG.out e))
          have hob4 : ob < w4.heap.size := (HO4.out.lt ob rfl).2
          have hne4 : ob ≠ g := hor4.elim (fun e e2 => HNG.out (by subst e2; exact e)) (fun e e2 => by have := HBE3.out.lt; omega)
          have hGo : G ≤ ob := (HO4.out.lt ob rfl).1
          clear hown4 hgr4 hor4
          have HO4x : Hid (w4.ownsRow G 40 2 (.slice (some ⟨ob, 0, none⟩) (m + 1) cb4) (m + 1) (wcells (O ++ [(x1, m0)]))) := Lib.hid (by rw [wcells_append]; exact HO4.out)
          clear HO4
          have HO4 := HO4x
          clear HO4x
          have HJ : Hid ((O ++ [(x1, m0)])[m]? = some (x1, m0)) := Lib.hid (by rw [List.getElem?_append_right (by rw [HM.out]; exact Nat.le_refl _), HM.out]; simp)
          have HS : Hid ((wcells (O ++ [(x1, m0)])).set (m * 2 + 1) (.int .i64 (joinI m0 x2)) = wcells (O ++ [(x1, joinI (modeL L id x1) x2)])) := Lib.hid (by rw [wcells_set _ _ _ HJ.out, HM0.out, List.set_append_right _ _ (by rw [HM.out]; exact Nat.le_refl _), HM.out]; simp)
          have HLN : Hid ((O ++ [(x1, joinI (modeL L id x1) x2)]).length = m + 1) := Lib.hid (by simp [HM.out])
          clear HT2x HM0 HBE3 HB3 HO3 hne4
          have hcm : w4.cell? ⟨ob, m * 2 + 1, none⟩ = some (.int .i64 m0) := by
            obtain ⟨b', o', c'', e', _, _, _, h2⟩ := Wns.at (Reads.of_own HO4.out) m (by omega) (x1, m0) HJ.out
            injection e' with e1 e2 e3
            injection e1 with e1
            injection e1 with e1 e4
            subst e1
            rw [← e4] at h2
            simpa using h2
          have hob := hob4
          have be := HBE4.out
          have hB := HB4.out
          have hmo := hcm
          have hj2 : m * 2 + 1 < (m + 1) * 2 := by omega
          clear hcm
          go_wp2_with fail
          refine wp_region_partsDC (WWh10 g ob m x1 x2 m0 (m + 1) cb4) 12 [[], [], [], [], [2, 3], [2, 3, 4], [2, 3, 4, 5], [], [7], [2, 3, 4, 5, 6, 7, 8], [0, 1, 2, 3, 4, 5, 6, 7, 8, 9], [0, 1, 2, 3, 4, 5, 6, 7, 8, 9, 10]] [some 39, some 40, some 41, some 42, some 43, some 44, some 45, some 46, some 47, some 48, some 49, some 50, none] (by kernel_rfl) (by kernel_rfl) rfl (PWh10 g ob m x1 x2 m0 (m + 1) cb4) (PWh10_stable g ob m x1 x2 m0 (m + 1) cb4 ) ?pWh10 ?_
          case pWh10 =>
            intro i hi o ho vs lo hx_ w' hg hp
            match i, hi with
            | 0, _ =>
              obtain rfl := Option.some.inj ho
              clear ho
              simp only [actsD, List.getD_cons_zero, List.getD_cons_succ, List.foldl_cons, List.foldl_nil, Act.put, List.setIfInBounds_toArray, List.set_cons_succ, List.set_cons_zero]
              have hsz := hg.size
              have hgB : Below w4.heap.size w4 w' := hg.below (fun k hk => ⟨hk, fun o => by rintro ⟨j, _, _, _, hw⟩; exact False.elim hw⟩)
              go_wp2
              exact ⟨_, rfl, GrowC.refl _, rfl⟩
            | 1, _ =>
              obtain rfl := Option.some.inj ho
              clear ho
              simp only [actsD, List.getD_cons_zero, List.getD_cons_succ, List.foldl_cons, List.foldl_nil, Act.put, List.setIfInBounds_toArray, List.set_cons_succ, List.set_cons_zero]
              have hsz := hg.size
              have hgB : Below w4.heap.size w4 w' := hg.below (fun k hk => ⟨hk, fun o => by rintro ⟨j, _, _, _, hw⟩; exact False.elim hw⟩)
              go_wp2
              exact ⟨_, rfl, GrowC.refl _, rfl⟩
            | 2, _ =>
              obtain rfl := Option.some.inj ho
              clear ho
              simp only [actsD, List.getD_cons_zero, List.getD_cons_succ, List.foldl_cons, List.foldl_nil, Act.put, List.setIfInBounds_toArray, List.set_cons_succ, List.set_cons_zero]
              have hsz := hg.size
              have hgB : Below w4.heap.size w4 w' := hg.below (fun k hk => ⟨hk, fun o => by rintro ⟨j, _, _, _, hw⟩; exact False.elim hw⟩)
              go_wp2
              exact ⟨_, rfl, GrowC.refl _, rfl⟩
            | 3, _ =>
              obtain rfl := Option.some.inj ho
              clear ho
              simp only [actsD, List.getD_cons_zero, List.getD_cons_succ, List.foldl_cons, List.foldl_nil, Act.put, List.setIfInBounds_toArray, List.set_cons_succ, List.set_cons_zero]
              have hsz := hg.size
              have hgB : Below w4.heap.size w4 w' := hg.below (fun k hk => ⟨hk, fun o => by rintro ⟨j, _, _, _, hw⟩; exact False.elim hw⟩)
              go_wp2
              exact ⟨_, rfl, GrowC.refl _, rfl⟩
            | 4, _ =>
              obtain rfl := Option.some.inj ho
              clear ho
              simp only [actsD, List.getD_cons_zero, List.getD_cons_succ, List.foldl_cons, List.foldl_nil, Act.put, List.setIfInBounds_toArray, List.set_cons_succ, List.set_cons_zero]
              obtain ⟨_, _, _, h2⟩ := hp 2 (by simp)
              simp only [PWh10] at h2
              obtain ⟨_, _, _, h3⟩ := hp 3 (by simp)
              simp only [PWh10] at h3
              have hsz := hg.size
              have hgB : Below w4.heap.size w4 w' := hg.below (fun k hk => ⟨hk, fun o => by rintro ⟨j, _, _, _, hw⟩; exact False.elim hw⟩)
              rw [h2, h3]
              go_wp2
              exact ⟨_, rfl, GrowC.refl _, rfl⟩
            | 5, _ =>
              obtain rfl := Option.some.inj ho
              clear ho
              simp only [actsD, List.getD_cons_zero, List.getD_cons_succ, List.foldl_cons, List.foldl_nil, Act.put, List.setIfInBounds_toArray, List.set_cons_succ, List.set_cons_zero]
              obtain ⟨_, _, _, h4⟩ := hp 4 (by simp)
              simp only [PWh10] at h4
              have hsz := hg.size
              have hgB : Below w4.heap.size w4 w' := hg.below (fun k hk => ⟨hk, fun o => by rintro ⟨j, _, _, _, hw⟩; exact False.elim hw⟩)
              rw [h4]
              go_wp2
              exact ⟨_, rfl, GrowC.refl _, rfl⟩
            | 6, _ =>
              obtain rfl := Option.some.inj ho
              clear ho
              simp only [actsD, List.getD_cons_zero, List.getD_cons_succ, List.foldl_cons, List.foldl_nil, Act.put, List.setIfInBounds_toArray, List.set_cons_succ, List.set_cons_zero]
              obtain ⟨_, _, _, h5⟩ := hp 5 (by simp)
              simp only [PWh10] at h5
              have hsz := hg.size
              have hgB : Below w4.heap.size w4 w' := hg.below (fun k hk => ⟨hk, fun o => by rintro ⟨j, _, _, _, hw⟩; exact False.elim hw⟩)
              rw [h5]
              have e0 := (hgB.cell (p := ⟨ob, m * 2 + 1, none⟩) hob).trans hmo
              go_wp2
              exact ⟨_, rfl, GrowC.refl _, rfl⟩
            | 7, _ =>
              obtain rfl := Option.some.inj ho
              clear ho
              simp only [actsD, List.getD_cons_zero, List.getD_cons_succ, List.foldl_cons, List.foldl_nil, Act.put, List.setIfInBounds_toArray, List.set_cons_succ, List.set_cons_zero]
              have hsz := hg.size
              have hgB : Below w4.heap.size w4 w' := hg.below (fun k hk => ⟨hk, fun o => by rintro ⟨j, _, _, _, hw⟩; exact False.elim hw⟩)
              go_wp2
              exact ⟨_, rfl, GrowC.refl _, rfl⟩
            | 8, _ =>
              obtain rfl := Option.some.inj ho
              clear ho
              simp only [actsD, List.getD_cons_zero, List.getD_cons_succ, List.foldl_cons, List.foldl_nil, Act.put, List.setIfInBounds_toArray, List.set_cons_succ, List.set_cons_zero]
              obtain ⟨_, _, _, h7⟩ := hp 7 (by simp)
              simp only [PWh10] at h7
              have hsz := hg.size
              have hgB : Below w4.heap.size w4 w' := hg.below (fun k hk => ⟨hk, fun o => by rintro ⟨j, _, _, _, hw⟩; exact False.elim hw⟩)
              rw [h7]
              have e0 := (hg.cell (g) 1 be.lt (by rintro ⟨j, _, hne, hb, hw⟩; exact False.elim hw)).trans (be.cell 1 _ rfl)
              go_wp2
              exact ⟨_, rfl, GrowC.refl _, rfl⟩
            | 9, _ =>
              obtain rfl := Option.some.inj ho
              clear ho
              simp only [actsD, List.getD_cons_zero, List.getD_cons_succ, List.foldl_cons, List.foldl_nil, Act.put, List.setIfInBounds_toArray, List.set_cons_succ, List.set_cons_zero]
              obtain ⟨_, _, _, h6⟩ := hp 6 (by simp)
              simp only [PWh10] at h6
              obtain ⟨_, _, _, h8⟩ := hp 8 (by simp)
              simp only [PWh10] at h8
              have hsz := hg.size
              have hgB : Below w4.heap.size w4 w' := hg.below (fun k hk => ⟨hk, fun o => by rintro ⟨j, _, _, _, hw⟩; exact False.elim hw⟩)
              rw [h6, h8]
              go_wp2_with fail
              refine (join_any m0 x2 _).mono ?_
              rintro e wc ⟨rfl, hbc⟩
              go_wp2
              exact ⟨_, rfl, GrowC.of_grow hbc, rfl⟩
            | 10, _ =>
              obtain rfl := Option.some.inj ho
              clear ho
              simp only [actsD, List.getD_cons_zero, List.getD_cons_succ, List.foldl_cons, List.foldl_nil, Act.put, List.setIfInBounds_toArray, List.set_cons_succ, List.set_cons_zero]
              obtain ⟨_, _, _, h0⟩ := hp 0 (by simp)
              simp only [PWh10] at h0
              obtain ⟨_, _, _, h1⟩ := hp 1 (by simp)
              simp only [PWh10] at h1
              have hsz := hg.size
              have hgB : Below w4.heap.size w4 w' := hg.below (fun k hk => ⟨hk, fun o => by rintro ⟨j, _, _, _, hw⟩; exact False.elim hw⟩)
              rw [h0, h1]
              go_wp2
              exact ⟨_, rfl, GrowC.refl _, rfl⟩
            | 11, _ =>
              obtain rfl := Option.some.inj ho
              clear ho
              simp only [actsD, List.getD_cons_zero, List.getD_cons_succ, List.foldl_cons, List.foldl_nil, Act.put, List.setIfInBounds_toArray, List.set_cons_succ, List.set_cons_zero]
              obtain ⟨_, _, _, h10⟩ := hp 10 (by simp)
              simp only [PWh10] at h10
              have hsz := hg.size
              have hgB : Below w4.heap.size w4 w' := hg.below (fun k hk => ⟨hk, fun o => by rintro ⟨j, _, _, _, hw⟩; exact False.elim hw⟩)
              rw [h10]
              go_wp2
              exact ⟨_, rfl, GrowC.refl _, rfl⟩
            | (q + 12), hq => exact absurd hq (by omega)
          intro vS lo hi w5 hg hp hd
          obtain ⟨_, _, _, h0⟩ := hp 0 (by decide)
          obtain ⟨_, _, _, h1⟩ := hp 1 (by decide)
          obtain ⟨_, _, _, h2⟩ := hp 2 (by decide)
          obtain ⟨_, _, _, h3⟩ := hp 3 (by decide)
          obtain ⟨_, _, _, h4⟩ := hp 4 (by decide)
          obtain ⟨_, _, _, h5⟩ := hp 5 (by decide)
          obtain ⟨_, _, _, h6⟩ := hp 6 (by decide)
          obtain ⟨_, _, _, h7⟩ := hp 7 (by decide)
          obtain ⟨_, _, _, h8⟩ := hp 8 (by decide)
          obtain ⟨_, _, _, h9⟩ := hp 9 (by decide)
          obtain ⟨_, _, _, h10⟩ := hp 10 (by decide)
          obtain ⟨_, _, _, h11⟩ := hp 11 (by decide)
          simp only [PWh10] at h0 h1 h2 h3 h4 h5 h6 h7 h8 h9 h10 h11
          clear hp hd
          have hsz := hg.size
          replace be := be.grow hg (by intro i _; rintro ⟨j, _, hw⟩; exact False.elim hw)
          replace hB := hB.trans (hg.below (fun k hk => ⟨by omega, fun o => by rintro ⟨j, _, hw⟩; exact False.elim hw⟩))
          have hr : List.range 12 = [0, 1, 2, 3, 4, 5, 6, 7, 8, 9, 10, 11] := rfl
          rw [hr]
          clear hr
          simp only [List.drop_succ_cons, List.drop_zero, List.drop_nil, actsD, List.getD_cons_zero, List.getD_cons_succ, List.foldl_cons, List.foldl_nil, Act.put, List.setIfInBounds_toArray, List.set_cons_succ, List.set_cons_zero, h0, h1, h2, h3, h4, h5, h6, h7, h8, h9, h10, h11]
          clear h0 h1 h2 h3 h4 h5 h6 h7 h8 h9 h10 h11
          have hcm := (hg.cell ob (m * 2 + 1) hob4 (fun hw => by obtain ⟨_, _, hw⟩ := hw; exact hw)).trans hmo
          have hfz : w5.frozen? ⟨ob, m * 2 + 1, none⟩ = false := (hg.frozen ob _ hob4).trans (own_free HO4.out rfl _)
          have HO5 := Lib.hid (own_growx (X := fun _ => False) HO4.out (GrowX.of_growC hg (fun k o hw => by obtain ⟨j, _, hw⟩ := hw; exact hw)) (fun _ _ h => h))
          have HB5 := Lib.hid hB
          clear hg be hB hmo
          go_wp2
          have hb6 := HB5.out.setCell (p := ⟨ob, m * 2 + 1, none⟩) hGo (.int .i64 (joinI m0 x2))
          have hown6 : (w5.setCell ⟨ob, m * 2 + 1, none⟩ (.int .i64 (joinI m0 x2))).ownsRow G 40 2 (.slice (some ⟨ob, 0, none⟩) (m + 1) cb4) (m + 1) (wcells (whole L id (l.take (k + 1)))) := by
            rw [HT2.out, ← HS.out]; exact own_set HO5.out rfl (m * 2 + 1) hj2 _
          go_roundw
          case rel => exact ⟨k + 1, m + 1, cb4, some ⟨ob, 0, none⟩, by omega, by go_num, rfl, Lib.hid (by rw [HT2.out]; exact HLN.out), by omega, hown6, hb6⟩
          case measure => simp [intOf]; omega
        | some iq =>
          obtain ⟨mo, hio, hil⟩ := find_at hf
          have HF := Lib.hid hf
          have HT2 : Hid (whole L id (l.take (k + 1)) = O.set iq (x1, joinI mo x2)) := Lib.hid (by rw [HTS.out]; exact wstep_old hm hf hio)
          have HJ := Lib.hid hio
          rw [HM.out] at hil
          have HLN : Hid ((O.set iq (x1, joinI mo x2)).length = m) := Lib.hid (by simp [HM.out])
          have HS : Hid ((wcells O).set (iq * 2 + 1) (.int .i64 (joinI mo x2)) = wcells (O.set iq (x1, joinI mo x2))) := Lib.hid (wcells_set _ _ _ hio _)
          clear hf HTS hio
          obtain ⟨_, cap0, cur0, eb, _⟩ | ⟨ob, hbo⟩ : (∃ (_ : bo = none) (cap0 : Nat) (cur0 : Nat), m = 0 ∧ cap0 = 0 ∧ cur0 = 0) ∨ ∃ ob, bo = some ⟨ob, 0, none⟩ := by
            rcases HO0.out.2 with ⟨h1, h2⟩ | ⟨g', cap', cur, e0, _⟩
            · injection h1 with h1; exact .inl ⟨h1, 0, 0, h2, rfl, rfl⟩
            · injection e0 with e1; exact .inr ⟨g', e1⟩
          · omega
          subst hbo
          go_wp2_with (first | (go_at_call 27; refine (is_any _ _).mono ?_; rintro e w' ⟨rfl, rfl⟩) | fail)
          rw [HGS.out]
          refine (idxW_at O m cb _ HM.out (by omega) g x1 x2 _ HR0.out HE0.out iq HF.out).mono ?_
          rintro e w1 ⟨rfl, hb1⟩
          obtain ⟨w4, hw2⟩ : ∃ w4, w4 = w1 := ⟨_, rfl⟩
          rw [← hw2] at hb1 ⊢
          have HBE4 := Lib.hid (HE0.out.below hb1 (Nat.le_refl _))
          have HB4 := Lib.hid (HB0.out.trans (hb1.mono (by have := HGS.out; simp; omega)))
          have HO4 := Lib.hid (own_below HO0.out hb1 (fun q e => (HO0.out.lt q e).2))
          have hob4 : ob < w4.heap.size := (HO4.out.lt ob rfl).2
          have hGo : G ≤ ob := (HO4.out.lt ob rfl).1
          have hG4 : G ≤ w4.heap.size := by omega
          have hneg : ¬ ((iq : Int) < 0) := by omega
          clear hw2 hb1 HE0 HR0 HB0 HO0
          have hcm : w4.cell? ⟨ob, iq * 2 + 1, none⟩ = some (.int .i64 mo) := by
            obtain ⟨b', o', c'', e', _, _, _, h2⟩ := Wns.at (Reads.of_own HO4.out) iq (by omega) (x1, mo) HJ.out
            injection e' with e1 e2 e3
            injection e1 with e1
            injection e1 with e1 e4
            subst e1
            rw [← e4] at h2
            simpa using h2
          have hob := hob4
          have be := HBE4.out
          have hB := HB4.out
          have hmo := hcm
          have hj2 : iq * 2 + 1 < (m) * 2 := by omega
          clear hcm
          go_wp2_with fail
          refine wp_region_partsDC (WWh10 g ob iq x1 x2 mo (m) cb) 12 [[], [], [], [], [2, 3], [2, 3, 4], [2, 3, 4, 5], [], [7], [2, 3, 4, 5, 6, 7, 8], [0, 1, 2, 3, 4, 5, 6, 7, 8, 9], [0, 1, 2, 3, 4, 5, 6, 7, 8, 9, 10]] [some 39, some 40, some 41, some 42, some 43, some 44, some 45, some 46, some 47, some 48, some 49, some 50, none] (by kernel_rfl) (by kernel_rfl) rfl (PWh10 g ob iq x1 x2 mo (m) cb) (PWh10_stable g ob iq x1 x2 mo (m) cb ) ?pWh10 ?_
          case pWh10 =>
            intro i hi o ho vs lo hx_ w' hg hp
            match i, hi with
            | 0, _ =>
              obtain rfl := Option.some.inj ho
              clear ho
              simp only [actsD, List.getD_cons_zero, List.getD_cons_succ, List.foldl_cons, List.foldl_nil, Act.put, List.setIfInBounds_toArray, List.set_cons_succ, List.set_cons_zero]
              have hsz := hg.size
              have hgB : Below w4.heap.size w4 w' := hg.below (fun k hk => ⟨hk, fun o => by rintro ⟨j, _, _, _, hw⟩; exact False.elim hw⟩)
              go_wp2
              exact ⟨_, rfl, GrowC.refl _, rfl⟩
            | 1, _ =>
              obtain rfl := Option.some.inj ho
              clear ho
              simp only [actsD, List.getD_cons_zero, List.getD_cons_succ, List.foldl_cons, List.foldl_nil, Act.put, List.setIfInBounds_toArray, List.set_cons_succ, List.set_cons_zero]
              have hsz := hg.size
              have hgB : Below w4.heap.size w4 w' := hg.below (fun k hk => ⟨hk, fun o => by rintro ⟨j, _, _, _, hw⟩; exact False.elim hw⟩)
              go_wp2
              exact ⟨_, rfl, GrowC.refl _, rfl⟩
            | 2, _ =>
              obtain rfl := Option.some.inj ho
              clear ho
              simp only [actsD, List.getD_cons_zero, List.getD_cons_succ, List.foldl_cons, List.foldl_nil, Act.put, List.setIfInBounds_toArray, List.set_cons_succ, List.set_cons_zero]
              have hsz := hg.size
              have hgB : Below w4.heap.size w4 w' := hg.below (fun k hk => ⟨hk, fun o => by rintro ⟨j, _, _, _, hw⟩; exact False.elim hw⟩)
              go_wp2
              exact ⟨_, rfl, GrowC.refl _, rfl⟩
            | 3, _ =>
              obtain rfl := Option.some.inj ho
              clear ho
              simp only [actsD, List.getD_cons_zero, List.getD_cons_succ, List.foldl_cons, List.foldl_nil, Act.put, List.setIfInBounds_toArray, List.set_cons_succ, List.set_cons_zero]
              have hsz := hg.size
              have hgB : Below w4.heap.size w4 w' := hg.below (fun k hk => ⟨hk, fun o => by rintro ⟨j, _, _, _, hw⟩; exact False.elim hw⟩)
              go_wp2
              exact ⟨_, rfl, GrowC.refl _, rfl⟩
            | 4, _ =>
              obtain rfl := Option.some.inj ho
              clear ho
              simp only [actsD, List.getD_cons_zero, List.getD_cons_succ, List.foldl_cons, List.foldl_nil, Act.put, List.setIfInBounds_toArray, List.set_cons_succ, List.set_cons_zero]
              obtain ⟨_, _, _, h2⟩ := hp 2 (by simp)
              simp only [PWh10] at h2
              obtain ⟨_, _, _, h3⟩ := hp 3 (by simp)
              simp only [PWh10] at h3
              have hsz := hg.size
              have hgB : Below w4.heap.size w4 w' := hg.below (fun k hk => ⟨hk, fun o => by rintro ⟨j, _, _, _, hw⟩; exact False.elim hw⟩)
              rw [h2, h3]
              go_wp2
              exact ⟨_, rfl, GrowC.refl _, rfl⟩
            | 5, _ =>
              obtain rfl := Option.some.inj ho
              clear ho
              simp only [actsD, List.getD_cons_zero, List.getD_cons_succ, List.foldl_cons, List.foldl_nil, Act.put, List.setIfInBounds_toArray, List.set_cons_succ, List.set_cons_zero]
              obtain ⟨_, _, _, h4⟩ := hp 4 (by simp)
              simp only [PWh10] at h4
              have hsz := hg.size
              have hgB : Below w4.heap.size w4 w' := hg.below (fun k hk => ⟨hk, fun o => by rintro ⟨j, _, _, _, hw⟩; exact False.elim hw⟩)
              rw [h4]
              go_wp2
              exact ⟨_, rfl, GrowC.refl _, rfl⟩
            | 6, _ =>
              obtain rfl := Option.some.inj ho
              clear ho
              simp only [actsD, List.getD_cons_zero, List.getD_cons_succ, List.foldl_cons, List.foldl_nil, Act.put, List.setIfInBounds_toArray, List.set_cons_succ, List.set_cons_zero]
              obtain ⟨_, _, _, h5⟩ := hp 5 (by simp)
              simp only [PWh10] at h5
              have hsz := hg.size
              have hgB : Below w4.heap.size w4 w' := hg.below (fun k hk => ⟨hk, fun o => by rintro ⟨j, _, _, _, hw⟩; exact False.elim hw⟩)
              rw [h5]
              have e0 := (hgB.cell (p := ⟨ob, iq * 2 + 1, none⟩) hob).trans hmo
              go_wp2
              exact ⟨_, rfl, GrowC.refl _, rfl⟩
            | 7, _ =>
              obtain rfl := Option.some.inj ho
              clear ho
              simp only [actsD, List.getD_cons_zero, List.getD_cons_succ, List.foldl_cons, List.foldl_nil, Act.put, List.setIfInBounds_toArray, List.set_cons_succ, List.set_cons_zero]
              have hsz := hg.size
              have hgB : Below w4.heap.size w4 w' := hg.below (fun k hk => ⟨hk, fun o => by rintro ⟨j, _, _, _, hw⟩; exact False.elim hw⟩)
              go_wp2
              exact ⟨_, rfl, GrowC.refl _, rfl⟩
            | 8, _ =>
              obtain rfl := Option.some.inj ho
              clear ho
              simp only [actsD, List.getD_cons_zero, List.getD_cons_succ, List.foldl_cons, List.foldl_nil, Act.put, List.setIfInBounds_toArray, List.set_cons_succ, List.set_cons_zero]
              obtain ⟨_, _, _, h7⟩ := hp 7 (by simp)
              simp only [PWh10] at h7
              have hsz := hg.size
              have hgB : Below w4.heap.size w4 w' := hg.below (fun k hk => ⟨hk, fun o => by rintro ⟨j, _, _, _, hw⟩; exact False.elim hw⟩)
              rw [h7]
              have e0 := (hg.cell (g) 1 be.lt (by rintro ⟨j, _, hne, hb, hw⟩; exact False.elim hw)).trans (be.cell 1 _ rfl)
              go_wp2
              exact ⟨_, rfl, GrowC.refl _, rfl⟩
            | 9, _ =>
              obtain rfl := Option.some.inj ho
              clear ho
              simp only [actsD, List.getD_cons_zero, List.getD_cons_succ, List.foldl_cons, List.foldl_nil, Act.put, List.setIfInBounds_toArray, List.set_cons_succ, List.set_cons_zero]
              obtain ⟨_, _, _, h6⟩ := hp 6 (by simp)
              simp only [PWh10] at h6
              obtain ⟨_, _, _, h8⟩ := hp 8 (by simp)
              simp only [PWh10] at h8
              have hsz := hg.size
              have hgB : Below w4.heap.size w4 w' := hg.below (fun k hk => ⟨hk, fun o => by rintro ⟨j, _, _, _, hw⟩; exact False.elim hw⟩)
              rw [h6, h8]
              go_wp2_with fail
              refine (join_any mo x2 _).mono ?_
              rintro e wc ⟨rfl, hbc⟩
              go_wp2
              exact ⟨_, rfl, GrowC.of_grow hbc, rfl⟩
            | 10, _ =>
              obtain rfl := Option.some.inj ho
              clear ho
              simp only [actsD, List.getD_cons_zero, List.getD_cons_succ, List.foldl_cons, List.foldl_nil, Act.put, List.setIfInBounds_toArray, List.set_cons_succ, List.set_cons_zero]
              obtain ⟨_, _, _, h0⟩ := hp 0 (by simp)
              simp only [PWh10] at h0
              obtain ⟨_, _, _, h1⟩ := hp 1 (by simp)
              simp only [PWh10] at h1
              have hsz := hg.size
              have hgB : Below w4.heap.size w4 w' := hg.below (fun k hk => ⟨hk, fun o => by rintro ⟨j, _, _, _, hw⟩; exact False.elim hw⟩)
              rw [h0, h1]
              go_wp2
              exact ⟨_, rfl, GrowC.refl _, rfl⟩
            | 11, _ =>
              obtain rfl := Option.some.inj ho
              clear ho
              simp only [actsD, List.getD_cons_zero, List.getD_cons_succ, List.foldl_cons, List.foldl_nil, Act.put, List.setIfInBounds_toArray, List.set_cons_succ, List.set_cons_zero]
              obtain ⟨_, _, _, h10⟩ := hp 10 (by simp)
              simp only [PWh10] at h10
              have hsz := hg.size
              have hgB : Below w4.heap.size w4 w' := hg.below (fun k hk => ⟨hk, fun o => by rintro ⟨j, _, _, _, hw⟩; exact False.elim hw⟩)
              rw [h10]
              go_wp2
              exact ⟨_, rfl, GrowC.refl _, rfl⟩
            | (q + 12), hq => exact absurd hq (by omega)
          intro vS lo hi w5 hg hp hd
          obtain ⟨_, _, _, h0⟩ := hp 0 (by decide)
          obtain ⟨_, _, _, h1⟩ := hp 1 (by decide)
          obtain ⟨_, _, _, h2⟩ := hp 2 (by decide)
          obtain ⟨_, _, _, h3⟩ := hp 3 (by decide)
          obtain ⟨_, _, _, h4⟩ := hp 4 (by decide)
          obtain ⟨_, _, _, h5⟩ := hp 5 (by decide)
          obtain ⟨_, _, _, h6⟩ := hp 6 (by decide)
          obtain ⟨_, _, _, h7⟩ := hp 7 (by decide)
          obtain ⟨_, _, _, h8⟩ := hp 8 (by decide)
          obtain ⟨_, _, _, h9⟩ := hp 9 (by decide)
          obtain ⟨_, _, _, h10⟩ := hp 10 (by decide)
          obtain ⟨_, _, _, h11⟩ := hp 11 (by decide)
          simp only [PWh10] at h0 h1 h2 h3 h4 h5 h6 h7 h8 h9 h10 h11
          clear hp hd
          have hsz := hg.size
          replace be := be.grow hg (by intro i _; rintro ⟨j, _, hw⟩; exact False.elim hw)
          replace hB := hB.trans (hg.below (fun k hk => ⟨by omega, fun o => by rintro ⟨j, _, hw⟩; exact False.elim hw⟩))
          have hr : List.range 12 = [0, 1, 2, 3, 4, 5, 6, 7, 8, 9, 10, 11] := rfl
          rw [hr]
          clear hr
          simp only [List.drop_succ_cons, List.drop_zero, List.drop_nil, actsD, List.getD_cons_zero, List.getD_cons_succ, List.foldl_cons, List.foldl_nil, Act.put, List.setIfInBounds_toArray, List.set_cons_succ, List.set_cons_zero, h0, h1, h2, h3, h4, h5, h6, h7, h8, h9, h10, h11]
          clear h0 h1 h2 h3 h4 h5 h6 h7 h8 h9 h10 h11
          have hcm := (hg.cell ob (iq * 2 + 1) hob4 (fun hw => by obtain ⟨_, _, hw⟩ := hw; exact hw)).trans hmo
          have hfz : w5.frozen? ⟨ob, iq * 2 + 1, none⟩ = false := (hg.frozen ob _ hob4).trans (own_free HO4.out rfl _)
          have HO5 := Lib.hid (own_growx (X := fun _ => False) HO4.out (GrowX.of_growC hg (fun k o hw => by obtain ⟨j, _, hw⟩ := hw; exact hw)) (fun _ _ h => h))
          have HB5 := Lib.hid hB
          clear hg be hB hmo
          go_wp2
          have hb6 := HB5.out.setCell (p := ⟨ob, iq * 2 + 1, none⟩) hGo (.int .i64 (joinI mo x2))
          have hown6 : (w5.setCell ⟨ob, iq * 2 + 1, none⟩ (.int .i64 (joinI mo x2))).ownsRow G 40 2 (.slice (some ⟨ob, 0, none⟩) (m) cb) (m) (wcells (whole L id (l.take (k + 1)))) := by
            rw [HT2.out, ← HS.out]; exact own_set HO5.out rfl (iq * 2 + 1) hj2 _
          go_roundw
          case rel => exact ⟨k + 1, m, cb, some ⟨ob, 0, none⟩, by omega, by go_num, rfl, Lib.hid (by rw [HT2.out]; exact HLN.out), by omega, hown6, hb6⟩
          case measure => simp [intOf]; omega
    · obtain rfl : nl = k := by omega
      have hall : l.take nl = l := List.take_of_length_le (Nat.le_of_eq HL.out)
      rw [hall] at HM HO
      go_wp2
      go_ret
      exact ⟨_, m, rfl, HO.out, HM.out, hmk, HNX.out⟩
end Go.Proofs.Ytoghmllkaafckaa

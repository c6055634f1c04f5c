/- What wait.Cycle and wait.Victim tell. Conditions: at most 2^40 edges. -/
import Derived.Test.YtjakekfalooebaaWReach
namespace Go.Proofs.Ytjakekfalooebaa
set_option linter.unusedSimpArgs false
set_option linter.unusedVariables false
open Go.RowKit
open W (Rch Reached IsCyc IsVic)

/-- what Cycle tells -/
def CycEnd (L : List (Int × Int)) (f : Int) (w : World) (e : Ending) (w' : World) : Prop :=
  ∃ c ao n cap, e = .returned (.slice ao n cap) ∧ c.length = n ∧ IsCyc L f c ∧ Ints w' (.slice ao n cap) c ∧ Below w.heap.size w w'

/-- those of there that are in back -/
def inter (there back : List Int) : List Int := there.filter fun x => decide (x ∈ back)
theorem inter_snoc_yes (t b : List Int) (x : Int) (h : x ∈ b) : inter (t ++ [x]) b = inter t b ++ [x] := by simp [inter, h]
theorem inter_snoc_no (t b : List Int) (x : Int) (h : ¬ x ∈ b) : inter (t ++ [x]) b = inter t b := by simp [inter, h]

set_option maxRecDepth 100000 in
set_option maxHeartbeats 3200000 in
theorem cycle_any (l : List (Int × Int)) (v : Value) (n : Nat) (hl : l.length = n) (hn : n ≤ 1099511627776) (f : Int) (w : World) (hv : Reads 2 w v n (ecells l)) :
    Calls Try.prog 10 #[v, .int .i64 f] w (CycEnd l f w) := by
  obtain ⟨ao, c, rfl⟩ := hv.shape
  have HL := Lib.hid hl
  have HV := Lib.hid hv
  clear hl hv
  go_enter Try.func10, Try.ntmps10
  go_wp2_with fail
  refine (reach_on l _ n HL.out hn f w HV.out).mono ?_
  rintro e w1 ⟨there, v1, rfl, hr1, hi1, hb1⟩
  obtain ⟨n1, hn1⟩ : ∃ n1, there.length = n1 := ⟨_, rfl⟩
  have hle1 : n1 ≤ n := by rw [← hn1, ← HL.out]; exact hr1.length
  have hi1' : Reads 1 w1 v1 n1 (there.map (Value.int .i64)) := by have := hi1; unfold Ints at this; rwa [hn1] at this
  have HI1 := Lib.hid hi1'
  have HN1 := Lib.hid hn1
  have HR1 := Lib.hid hr1
  have HB1 := Lib.hid hb1
  have hsz1 := hb1.size
  clear hi1 hi1' hn1 hr1 hb1
  go_wp2_with fail
  refine (reach_back l _ n HL.out hn f w1 (HV.out.below HB1.out (Nat.le_refl _))).mono ?_
  rintro e w2 ⟨back, v2, rfl, hr2, hi2, hb2⟩
  obtain ⟨n2, hn2⟩ : ∃ n2, back.length = n2 := ⟨_, rfl⟩
  have hle2 : n2 ≤ n := by
    have := hr2.length
    rw [W.flip, List.length_map, HL.out, hn2] at this
    exact this
  have hi2' : Reads 1 w2 v2 n2 (back.map (Value.int .i64)) := by have := hi2; unfold Ints at this; rwa [hn2] at this
  have HI1' := Lib.hid (HI1.out.below hb2 (Nat.le_refl _))
  have HI2 := Lib.hid hi2'
  have HN2 := Lib.hid hn2
  have HR2 := Lib.hid hr2
  have HB2 := Lib.hid (HB1.out.trans (hb2.mono hsz1))
  have hsz2 : w.heap.size ≤ w2.heap.size := Nat.le_trans hsz1 hb2.size
  clear hi2 hi2' hn2 hr2 hb2 HI1 HB1 hsz1
  obtain ⟨ao1, c1, rfl⟩ := HI1'.out.shape
  obtain ⟨ao2, c2, rfl⟩ := HI2.out.shape
  go_wp2_with fail
  obtain ⟨b0, hb0⟩ : ∃ b0, w2.heap.size = b0 := ⟨_, rfl⟩
  have HB0 := Lib.hid hb0
  clear hb0
  go_loopw [7, 18] (fun s i wr => ∃ (k m cb : Nat) (bo : Option Addr), k ≤ n1 ∧ i = .int .i64 k ∧ s = .slice bo m cb ∧ Hid (m = (inter (there.take k) back).length) ∧ m ≤ k ∧
      wr.ownsRow b0 3 1 (.slice bo m cb) m ((inter (there.take k) back).map (Value.int .i64)) ∧ Below b0 w2 wr) (fun _ i _ => n1 - (intOf i).toNat)
  case atStart => exact ⟨0, 0, 0, none, Nat.zero_le _, rfl, rfl, Lib.hid rfl, Nat.le_refl _, World.ownsRow_nil _ _ _ _, Below.refl _ _⟩
  case round =>
    obtain ⟨k, m, cb, bo, hk, rfl, rfl, HM, hmk, hown, hnx⟩ := hrel
    have HO := Lib.hid hown
    have HNX := Lib.hid hnx
    have hsz : b0 ≤ wr.heap.size := by have := hnx.size; have := HB0.out; omega
    have hmc : m ≤ cb := by obtain ⟨_, _, h, _, h2, _⟩ := Reads.of_own hown; injection h with _ _ h3; omega
    clear hown hnx
    by_cases hlt : k < n1
    · have hkl : k < there.length := by rw [HN1.out]; exact hlt
      have hts : there.take (k + 1) = there.take k ++ [there[k]] := List.take_succ_eq_append_getElem hkl
      have hu : (there.map (Value.int .i64))[k]? = some (.int .i64 there[k]) := by rw [List.getElem?_map, List.getElem?_eq_getElem hkl]; rfl
      obtain ⟨b, o, c', e, hb, _, hc1⟩ := HI1'.out.at k hlt _ hu
      injection e with e1 e2 e3
      subst e1 e3
      generalize there[k] = x at *
      have hd1 := (HNX.out.cell (p := ⟨b, o + k, none⟩) (by rw [← HB0.out]; exact hb)).trans hc1
      have hi2 := HI2.out.below HNX.out (Nat.le_of_eq HB0.out)
      have HI2' := Lib.hid hi2
      clear hi2 hc1 hkl hu hb
      go_wp2_with fail
      refine (contains_any back _ n2 (by omega) HN2.out _ _ HI2'.out).mono ?_
      rintro e w3 ⟨rfl, rfl⟩
      by_cases hm : x ∈ back
      · have hm1 : hasB back x = true := hasB_true.2 hm
        have HT : Hid (inter (there.take (k + 1)) back = inter (there.take k) back ++ [x]) := by show _ = _; rw [hts]; exact inter_snoc_yes _ _ _ hm
        clear hm hts
        go_wp2_with (at_builtin; refine wpList_appG intsOf (.tmp 25) (.tmp 27) rfl rfl (base := b0) (W0 := w2) rfl HO.out HNX.out (arr := #[.int .i64 x]) (m := 1) rfl rfl rfl (by intro u hu; simp at hu; subst hu; rfl) (by omega) (by omega) (by omega) (by omega) ?_; intro g2 cap2 w2 hown2 hbel2 hg2 hg3 hc2)
        have hown3 := hown2
        simp only [] at hown3
        rw [show (inter (there.take k) back).map (Value.int .i64) ++ (#[Value.int .i64 x] : Array Value).toList = (inter (there.take (k + 1)) back).map (Value.int .i64) by rw [HT.out, List.map_append]; rfl] at hown3
        go_roundw
        case rel => exact ⟨k + 1, m + 1, cap2, _, by omega, by go_num, rfl, Lib.hid (by rw [HT.out, List.length_append, ← HM.out]; rfl), by omega, hown3, hbel2⟩
        case measure => simp [intOf]; omega
      · have hm1 : hasB back x = false := hasB_false.2 hm
        have HT : Hid (inter (there.take (k + 1)) back = inter (there.take k) back) := by show _ = _; rw [hts]; exact inter_snoc_no _ _ _ hm
        clear hm hts
        go_wp2
        go_roundw
        case rel => exact ⟨k + 1, m, cb, bo, by omega, by go_num, rfl, Lib.hid (by rw [HT.out]; exact HM.out), by omega, by rw [HT.out]; exact HO.out, HNX.out⟩
        case measure => simp [intOf]; omega
    · obtain rfl : n1 = k := by omega
      have HT : Hid (there.take n1 = there) := by show _ = _; exact List.take_of_length_le (Nat.le_of_eq HN1.out)
      have HO' : Hid (wr.ownsRow b0 3 1 (.slice bo m cb) m ((inter there back).map (Value.int .i64))) := by
        have := HO.out; rw [HT.out] at this; exact Lib.hid this
      have HM' : Hid (m = (inter there back).length) := by
        have := HM.out; rw [HT.out] at this; exact Lib.hid this
      clear HO HM HT
      go_wp2_with fail
      refine (sort_any (inter there back) _ m b0 3 (by omega) w2 wr HO'.out HNX.out).mono ?_
      rintro e w4 ⟨cc, rfl, hp, hs, hown4, hbel4⟩
      have hcl : cc.length = m := by rw [hp.length_eq]; exact HM'.out.symm
      have hcyc : IsCyc l f cc := W.cyc_of (out := inter there back) HR1.out HR2.out rfl (fun x => hp.mem_iff) (hp.nodup_iff.2 (List.Pairwise.filter _ HR1.out.nd)) hs
      have hbw : Below w.heap.size w w4 := HB2.out.trans (hbel4.mono (by rw [← HB0.out]; exact hsz2))
      have HX := Lib.hid (⟨cc, bo, m, m, rfl, hcl, hcyc, by show Reads 1 _ _ _ _; rw [hcl]; exact (Reads.of_own hown4).cut (Nat.le_refl _), hbw⟩ : CycEnd l f w (.returned (.slice bo m m)) w4)
      clear hp hs hown4 hbel4 hcl hcyc hbw HO' HM' HNX HI1' HI2 HB2 HR1 HR2
      go_wp2_with (go_at_call 23; refine (clipI_any bo m cb _ hmc).mono ?_; rintro e w2 ⟨rfl, rfl⟩)
      go_ret
      exact HX.out

/-- what Victim tells -/
def VicEnd (L : List (Int × Int)) (f : Int) (w : World) (e : Ending) (w' : World) : Prop :=
  ∃ v ok, e = .returned (.tuple #[.int .i64 v, .bool ok]) ∧ IsVic L f v ok ∧ Below w.heap.size w w'

set_option maxRecDepth 100000 in
set_option maxHeartbeats 1600000 in
theorem victim_any (l : List (Int × Int)) (v : Value) (n : Nat) (hl : l.length = n) (hn : n ≤ 1099511627776) (f : Int) (w : World) (hv : Reads 2 w v n (ecells l)) :
    Calls Try.prog 8 #[v, .int .i64 f] w (VicEnd l f w) := by
  obtain ⟨ao, c, rfl⟩ := hv.shape
  have HL := Lib.hid hl
  have HV := Lib.hid hv
  clear hl hv
  go_enter Try.func8, Try.ntmps8
  go_wp2_with fail
  refine (cycle_any l _ n HL.out hn f w HV.out).mono ?_
  rintro e w1 ⟨cc, ao1, m, cap, rfl, hcl, hcyc, hi, hb⟩
  have hm : m ≤ n := by rw [← hcl, ← HL.out]; exact hcyc.length
  have hi' : Reads 1 w1 (.slice ao1 m cap) m (cc.map (Value.int .i64)) := by have := hi; unfold Ints at this; rwa [hcl] at this
  rcases Nat.eq_zero_or_pos m with h0 | h0
  · subst h0
    have hX : VicEnd l f w (.returned (.tuple #[.int .i64 0, .bool false])) w1 := ⟨0, false, rfl, hcyc.vic.1 (List.eq_nil_of_length_eq_zero hcl), hb⟩
    have HX := Lib.hid hX
    clear hX hi hi' hcl hcyc hb
    go_wp2
    go_ret2
    exact HX.out
  · obtain ⟨m', rfl⟩ : ∃ m', m = m' + 1 := ⟨m - 1, by omega⟩
    have hk : m' < cc.length := by omega
    have hu : (cc.map (Value.int .i64))[m']? = some (.int .i64 cc[m']) := by rw [List.getElem?_map, List.getElem?_eq_getElem hk]; rfl
    obtain ⟨b, o, c', e, hbb, _, hc1⟩ := hi'.at m' (by omega) _ hu
    injection e with e1 e2 e3
    subst e1 e3
    have hX : VicEnd l f w (.returned (.tuple #[.int .i64 cc[m'], .bool true])) w1 := ⟨_, true, rfl, hcyc.vic.2 _ (by rw [hcl]; exact List.getElem?_eq_getElem hk), hb⟩
    have HX := Lib.hid hX
    generalize cc[m'] = x at *
    clear hX hi hi' hcl hcyc hb hu
    go_wp2
    go_ret2
    exact HX.out
end Go.Proofs.Ytjakekfalooebaa

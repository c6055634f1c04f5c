/- The law WaitFree, walked. Conditions: none. -/
import Derived.Test.YtjakekfalooebaaWPlays
namespace Go.Proofs.Ytjakekfalooebaa
set_option linter.unusedSimpArgs false
set_option linter.unusedVariables false
open Go.RowKit
open W (Rch IsCyc IsVic FreeTo)

def WFr13 (b o k n c : Nat) (l : List (Int × Int)) (x1 x2 : Int) (j b o : Nat) : Prop := False
def PFr13 (b o k n c : Nat) (l : List (Int × Int)) (x1 x2 : Int) (i : Nat) (v : Value) (lo hi : Nat) (w : World) : Prop :=
  match i with
  | 0 => v = .slice (some ⟨b, o, none⟩) n c
  | 1 => v = .slice (some ⟨b, o, none⟩) n c
  | 2 => v = .int .i64 k
  | 3 => v = .pointer (some ⟨b, o + k * 2, none⟩)
  | 4 => v = .pointer (some ⟨b, o + k * 2, none⟩)
  | 5 => v = .int .i64 x1
  | 6 => ∃ cc a m cp, v = .slice a m cp ∧ cc.length = m ∧ IsCyc l x1 cc
  | 7 => ∃ cc : List Int, IsCyc l x1 cc ∧ v = .int .i64 ((cc.length : Nat) : Int)
  | 8 => v = .slice (some ⟨b, o, none⟩) n c
  | 9 => v = .slice (some ⟨b, o, none⟩) n c
  | 10 => v = .int .i64 k
  | 11 => v = .pointer (some ⟨b, o + k * 2, none⟩)
  | 12 => v = .pointer (some ⟨b, o + k * 2 + 1, none⟩)
  | 13 => v = .int .i64 x2
  | 14 => ∃ cc a m cp, v = .slice a m cp ∧ cc.length = m ∧ IsCyc l x2 cc
  | 15 => ∃ cc : List Int, IsCyc l x2 cc ∧ v = .int .i64 ((cc.length : Nat) : Int)
  | _ => True
theorem PFr13_stable (b o k n c : Nat) (l : List (Int × Int)) (x1 x2 : Int)  : ∀ i j, i < 16 → j < 16 → j ≠ i → j ∉ ([[], [], [], [1, 2], [1, 2, 3], [1, 2, 3, 4], [0, 1, 2, 3, 4, 5], [0, 1, 2, 3, 4, 5, 6], [], [], [], [9, 10], [9, 10, 11], [9, 10, 11, 12], [0, 1, 2, 3, 4, 5, 6, 8, 9, 10, 11, 12, 13], [0, 1, 2, 3, 4, 5, 6, 8, 9, 10, 11, 12, 13, 14]] : List (List Nat)).getD i [] → ∀ v lo hi w w', PFr13 b o k n c l x1 x2 i v lo hi w → GrowC (WFr13 b o k n c l x1 x2 j) w w' → PFr13 b o k n c l x1 x2 i v lo hi w' := by
  intro i j hi hj hne hbs v lo hj2 w w' h hg
  match i, hi with
  | 0, _ =>
    simp only [PFr13] at h ⊢
    exact h
  | 1, _ =>
    simp only [PFr13] at h ⊢
    exact h
  | 2, _ =>
    simp only [PFr13] at h ⊢
    exact h
  | 3, _ =>
    simp only [PFr13] at h ⊢
    exact h
  | 4, _ =>
    simp only [PFr13] at h ⊢
    exact h
  | 5, _ =>
    simp only [PFr13] at h ⊢
    exact h
  | 6, _ =>
    simp only [PFr13] at h ⊢
    exact h
  | 7, _ =>
    simp only [PFr13] at h ⊢
    exact h
  | 8, _ =>
    simp only [PFr13] at h ⊢
    exact h
  | 9, _ =>
    simp only [PFr13] at h ⊢
    exact h
  | 10, _ =>
    simp only [PFr13] at h ⊢
    exact h
  | 11, _ =>
    simp only [PFr13] at h ⊢
    exact h
  | 12, _ =>
    simp only [PFr13] at h ⊢
    exact h
  | 13, _ =>
    simp only [PFr13] at h ⊢
    exact h
  | 14, _ =>
    simp only [PFr13] at h ⊢
    exact h
  | 15, _ =>
    simp only [PFr13] at h ⊢
    exact h
  | (q + 16), hq => exact absurd hq (by omega)

namespace W
/-- how many edges wait in no round at either end -/
def KeptN (l : List (Int × Int)) (k m : Nat) : Prop := ∃ L : List (Int × Int), L.length = m ∧ List.Sublist L (l.take k) ∧ ∀ e ∈ L, ¬ Rch l e.1 e.1 ∧ ¬ Rch l e.2 e.2
theorem KeptN.zero (l : List (Int × Int)) : KeptN l 0 0 := ⟨[], rfl, by simp, by simp⟩
theorem KeptN.skip {l : List (Int × Int)} {k m : Nat} (h : KeptN l k m) {e : Int × Int} (he : l[k]? = some e) : KeptN l (k + 1) m := by
  obtain ⟨L, h1, h2, h3⟩ := h
  refine ⟨L, h1, ?_, h3⟩
  rw [take_snoc _ _ _ he]
  exact h2.trans (List.sublist_append_left _ _)
theorem KeptN.add {l : List (Int × Int)} {k m : Nat} (h : KeptN l k m) {e : Int × Int} (he : l[k]? = some e) (h1 : ¬ Rch l e.1 e.1) (h2 : ¬ Rch l e.2 e.2) : KeptN l (k + 1) (m + 1) := by
  obtain ⟨L, g1, g2, g3⟩ := h
  refine ⟨L ++ [e], by simp [g1], ?_, ?_⟩
  · rw [take_snoc _ _ _ he]
    exact g2.append (List.Sublist.refl _)
  · intro x hx
    rw [List.mem_append, List.mem_singleton] at hx
    rcases hx with hx | rfl
    · exact g3 x hx
    · exact ⟨h1, h2⟩
theorem free_keeps {l f : List (Int × Int)} (h : FreeTo l f) (L : List (Int × Int)) (hs : List.Sublist L l) (hn : ∀ e ∈ L, ¬ Rch l e.1 e.1 ∧ ¬ Rch l e.2 e.2) : List.Sublist L f := by
  induction h with
  | done _ => exact hs
  | @step l f v hv _ _ ih =>
    have hf : L.filter (fun e => decide (e.1 ≠ v ∧ e.2 ≠ v)) = L := by
      rw [List.filter_eq_self]
      intro e he
      obtain ⟨h1, h2⟩ := hn e he
      rw [decide_eq_true_eq]
      exact ⟨fun e1 => h1 (e1 ▸ hv), fun e2 => h2 (e2 ▸ hv)⟩
    refine ih ?_ (fun e he => ?_)
    · rw [← hf]; exact hs.filter _
    · obtain ⟨h1, h2⟩ := hn e he
      exact ⟨fun hr => h1 (hr.mono wout_sub), fun hr => h2 (hr.mono wout_sub)⟩
theorem KeptN.le {l f : List (Int × Int)} {m : Nat} (h : KeptN l l.length m) (hf : FreeTo l f) : m ≤ f.length := by
  obtain ⟨L, h1, h2, h3⟩ := h
  rw [List.take_length] at h2
  rw [← h1]
  exact (free_keeps hf L h2 h3).length_le
end W
open W (KeptN)

set_option maxRecDepth 100000 in
set_option maxHeartbeats 6400000 in
theorem freelaw_any (l : List (Int × Int)) (v : Value) (n : Nat) (hl : l.length = n) (hn : n ≤ 9223372036854775807) (w : World) (hv : Reads 2 w v n (ecells l)) :
    Calls Try.prog 5 #[v] w (True2 w) := by
  obtain ⟨ao, c, rfl⟩ := hv.shape
  have HL := Lib.hid hl
  have HV := Lib.hid hv
  clear hl hv
  by_cases h30 : 30 < n
  · have h31 : decide (30 < n) = true := by simpa using h30
    go_enter Try.func5, Try.ntmps5
    go_wp2_with (go_at_call 7; refine (awake_any _).mono ?_; rintro e w1 ⟨rfl, hb⟩)
    go_ret
    exact ⟨rfl, hb⟩
  · have h31 : decide (30 < n) = false := by simpa using h30
    have hn' : n ≤ 1099511627776 := by omega
    go_enter Try.func5, Try.ntmps5
    go_wp2_with fail
    refine (free_any l _ n HL.out hn' w HV.out).mono ?_
    rintro e w1 ⟨f, v1, rfl, hf, hr1, hb1⟩
    obtain ⟨n1, hn1⟩ : ∃ n1, f.length = n1 := ⟨_, rfl⟩
    have hr1' : Reads 2 w1 v1 n1 (ecells f) := by have := hr1; unfold Edges at this; rwa [hn1] at this
    obtain ⟨ao1, c1, rfl⟩ := hr1'.shape
    have hle1 : n1 ≤ n := by rw [← hn1, ← HL.out]; exact hf.length
    have HN1 := Lib.hid hn1
    have HF := Lib.hid hf
    have HR1 := Lib.hid hr1'
    have HB1 := Lib.hid hb1
    clear hr1 hr1' hn1 hf hb1
    go_wp2_with fail
    go_loopw [4] (fun i wr => ∃ (k : Nat), k ≤ n1 ∧ i = .int .i64 k ∧ Below w1.heap.size w1 wr) (fun i _ => n1 - (intOf i).toNat)
    case atStart => exact ⟨0, Nat.zero_le _, rfl, Below.refl _ _⟩
    case round =>
      obtain ⟨k, hk, rfl, hnx⟩ := hrel
      by_cases hlt : k < n1
      · have hkl : k < f.length := by rw [HN1.out]; exact hlt
        obtain ⟨b, o, c', e, hb, _, hc1, hc2⟩ := Edges.at HR1.out k hlt f[k] (List.getElem?_eq_getElem hkl)
        have hno := HF.out.none f[k] (List.getElem_mem hkl)
        injection e with e1 e2 e3
        subst e1 e3
        generalize f[k] = x at *
        obtain ⟨x1, x2⟩ := x
        have hd1 := (hnx.cell (p := ⟨b, o + k * 2, none⟩) hb).trans hc1
        have HNO := Lib.hid hno
        clear hc1 hc2 hkl hno
        go_wp2_with fail
        refine (cycle_any f _ n1 HN1.out (by omega) x1 _ (HR1.out.below hnx (Nat.le_refl _))).mono ?_
        rintro e w3 ⟨cc, a3, m3, cp3, rfl, hcl, hcyc, _, hb3⟩
        obtain rfl := hcyc.nil HNO.out
        have hm3 : m3 = 0 := hcl.symm
        subst hm3
        have hnx3 := hnx.trans (hb3.mono hnx.size)
        clear hcl hcyc hb3
        go_wp2
        go_roundw
        case rel => exact ⟨k + 1, by omega, by go_num, hnx3⟩
        case measure => simp [intOf]; omega
      · obtain rfl : n1 = k := by omega
        have HBM := Lib.hid (HB1.out.trans (hnx.mono HB1.out.size))
        clear hnx
        go_wp2_with fail
        obtain ⟨wo, rfl⟩ : ∃ wo : World, wo = wr := ⟨_, rfl⟩
        go_loopw [5, 6] (fun q i wr => ∃ (k m : Nat), k ≤ n ∧ m ≤ k ∧ i = .int .i64 k ∧ q = .int .i64 m ∧ KeptN l k m ∧ Below w.heap.size w wr) (fun _ i _ => n - (intOf i).toNat)
        case atStart => exact ⟨0, 0, Nat.zero_le _, Nat.le_refl _, rfl, rfl, W.KeptN.zero l, HBM.out⟩
        case round =>
          clear HBM
          obtain ⟨k, m, hk, hmk, rfl, rfl, hkn, hnx⟩ := hrel
          have HKN := Lib.hid hkn
          have HBM := Lib.hid hnx
          have hszw := hnx.size
          clear hkn
          by_cases hlt : k < n
          · have hkl : k < l.length := by rw [HL.out]; exact hlt
            have hlk : l[k]? = some l[k] := List.getElem?_eq_getElem hkl
            obtain ⟨b, o, c', e, hb, _, hc1, hc2⟩ := Edges.at HV.out k hlt l[k] hlk
            injection e with e1 e2 e3
            subst e1 e3
            generalize l[k] = x at *
            obtain ⟨x1, x2⟩ := x
            have HLK := Lib.hid hlk
            have hd1 := (hnx.cell (p := ⟨b, o + k * 2, none⟩) hb).trans hc1
            have hd2 := (hnx.cell (p := ⟨b, o + k * 2 + 1, none⟩) hb).trans hc2
            have hbr : b < wr.heap.size := Nat.lt_of_lt_of_le hb hszw
            clear hc1 hc2 hkl hlk hb
            go_wp2_with fail
            have hB := hnx
            refine wp_region_partsDC (WFr13 b o k n c l x1 x2) 16 [[], [], [], [1, 2], [1, 2, 3], [1, 2, 3, 4], [0, 1, 2, 3, 4, 5], [0, 1, 2, 3, 4, 5, 6], [], [], [], [9, 10], [9, 10, 11], [9, 10, 11, 12], [0, 1, 2, 3, 4, 5, 6, 8, 9, 10, 11, 12, 13], [0, 1, 2, 3, 4, 5, 6, 8, 9, 10, 11, 12, 13, 14]] [some 35, some 36, some 37, some 38, some 39, some 40, some 41, some 42, some 43, some 44, some 45, some 46, some 47, some 48, some 49, some 50, some 51, some 7] (by kernel_rfl) (by kernel_rfl) rfl (PFr13 b o k n c l x1 x2) (PFr13_stable b o k n c l x1 x2 ) ?pFr13 ?_
            case pFr13 =>
              intro i hi o ho vs lo hx_ w' hg hp
              match i, hi with
              | 0, _ =>
                obtain rfl := Option.some.inj ho
                clear ho
                simp only [actsD, List.getD_cons_zero, List.getD_cons_succ, List.foldl_cons, List.foldl_nil, Act.put, List.setIfInBounds_toArray, List.set_cons_succ, List.set_cons_zero]
                have hsz := hg.size
                have hgB : Below wr.heap.size wr w' := hg.below (fun k hk => ⟨hk, fun o => by rintro ⟨j, _, _, _, hw⟩; exact False.elim hw⟩)
                go_wp2
                exact ⟨_, rfl, GrowC.refl _, rfl⟩
              | 1, _ =>
                obtain rfl := Option.some.inj ho
                clear ho
                simp only [actsD, List.getD_cons_zero, List.getD_cons_succ, List.foldl_cons, List.foldl_nil, Act.put, List.setIfInBounds_toArray, List.set_cons_succ, List.set_cons_zero]
                have hsz := hg.size
                have hgB : Below wr.heap.size wr w' := hg.below (fun k hk => ⟨hk, fun o => by rintro ⟨j, _, _, _, hw⟩; exact False.elim hw⟩)
                go_wp2
                exact ⟨_, rfl, GrowC.refl _, rfl⟩
              | 2, _ =>
                obtain rfl := Option.some.inj ho
                clear ho
                simp only [actsD, List.getD_cons_zero, List.getD_cons_succ, List.foldl_cons, List.foldl_nil, Act.put, List.setIfInBounds_toArray, List.set_cons_succ, List.set_cons_zero]
                have hsz := hg.size
                have hgB : Below wr.heap.size wr w' := hg.below (fun k hk => ⟨hk, fun o => by rintro ⟨j, _, _, _, hw⟩; exact False.elim hw⟩)
                go_wp2
                exact ⟨_, rfl, GrowC.refl _, rfl⟩
              | 3, _ =>
                obtain rfl := Option.some.inj ho
                clear ho
                simp only [actsD, List.getD_cons_zero, List.getD_cons_succ, List.foldl_cons, List.foldl_nil, Act.put, List.setIfInBounds_toArray, List.set_cons_succ, List.set_cons_zero]
                obtain ⟨_, _, _, h1⟩ := hp 1 (by simp)
                simp only [PFr13] at h1
                obtain ⟨_, _, _, h2⟩ := hp 2 (by simp)
                simp only [PFr13] at h2
                have hsz := hg.size
                have hgB : Below wr.heap.size wr w' := hg.below (fun k hk => ⟨hk, fun o => by rintro ⟨j, _, _, _, hw⟩; exact False.elim hw⟩)
                rw [h1, h2]
                go_wp2
                exact ⟨_, rfl, GrowC.refl _, rfl⟩
              | 4, _ =>
                obtain rfl := Option.some.inj ho
                clear ho
                simp only [actsD, List.getD_cons_zero, List.getD_cons_succ, List.foldl_cons, List.foldl_nil, Act.put, List.setIfInBounds_toArray, List.set_cons_succ, List.set_cons_zero]
                obtain ⟨_, _, _, h3⟩ := hp 3 (by simp)
                simp only [PFr13] at h3
                have hsz := hg.size
                have hgB : Below wr.heap.size wr w' := hg.below (fun k hk => ⟨hk, fun o => by rintro ⟨j, _, _, _, hw⟩; exact False.elim hw⟩)
                rw [h3]
                go_wp2
                exact ⟨_, rfl, GrowC.refl _, rfl⟩
              | 5, _ =>
                obtain rfl := Option.some.inj ho
                clear ho
                simp only [actsD, List.getD_cons_zero, List.getD_cons_succ, List.foldl_cons, List.foldl_nil, Act.put, List.setIfInBounds_toArray, List.set_cons_succ, List.set_cons_zero]
                obtain ⟨_, _, _, h4⟩ := hp 4 (by simp)
                simp only [PFr13] at h4
                have hsz := hg.size
                have hgB : Below wr.heap.size wr w' := hg.below (fun k hk => ⟨hk, fun o => by rintro ⟨j, _, _, _, hw⟩; exact False.elim hw⟩)
                rw [h4]
                have e0 := (hgB.cell (p := ⟨b, o + k * 2, none⟩) hbr).trans hd1
                go_wp2
                exact ⟨_, rfl, GrowC.refl _, rfl⟩
              | 6, _ =>
                obtain rfl := Option.some.inj ho
                clear ho
                simp only [actsD, List.getD_cons_zero, List.getD_cons_succ, List.foldl_cons, List.foldl_nil, Act.put, List.setIfInBounds_toArray, List.set_cons_succ, List.set_cons_zero]
                obtain ⟨_, _, _, h0⟩ := hp 0 (by simp)
                simp only [PFr13] at h0
                obtain ⟨_, _, _, h5⟩ := hp 5 (by simp)
                simp only [PFr13] at h5
                have hsz := hg.size
                have hgB : Below wr.heap.size wr w' := hg.below (fun k hk => ⟨hk, fun o => by rintro ⟨j, _, _, _, hw⟩; exact False.elim hw⟩)
                rw [h0, h5]
                go_wp2_with fail
                refine (cycle_any l _ n HL.out hn' x1 _ (HV.out.below (HBM.out.trans (hgB.mono hszw)) (Nat.le_refl _))).mono ?_
                rintro e wc ⟨cc, a, m, cp, rfl, hcl, hcyc, _, hbc⟩
                go_wp2
                exact ⟨_, rfl, GrowC.of_grow hbc, cc, a, m, cp, rfl, hcl, hcyc⟩
              | 7, _ =>
                obtain rfl := Option.some.inj ho
                clear ho
                simp only [actsD, List.getD_cons_zero, List.getD_cons_succ, List.foldl_cons, List.foldl_nil, Act.put, List.setIfInBounds_toArray, List.set_cons_succ, List.set_cons_zero]
                obtain ⟨_, _, _, h6⟩ := hp 6 (by simp)
                simp only [PFr13] at h6
                have hsz := hg.size
                have hgB : Below wr.heap.size wr w' := hg.below (fun k hk => ⟨hk, fun o => by rintro ⟨j, _, _, _, hw⟩; exact False.elim hw⟩)
                obtain ⟨cc, a, m, cp, e6, hcl, hcyc⟩ := h6
                have hm : Hid ((m : Int) = ((cc.length : Nat) : Int)) := Lib.hid (by rw [hcl])
                rw [e6]
                go_wp2
                exact ⟨_, rfl, GrowC.refl _, cc, hcyc, by rw [hm.out]⟩
              | 8, _ =>
                obtain rfl := Option.some.inj ho
                clear ho
                simp only [actsD, List.getD_cons_zero, List.getD_cons_succ, List.foldl_cons, List.foldl_nil, Act.put, List.setIfInBounds_toArray, List.set_cons_succ, List.set_cons_zero]
                have hsz := hg.size
                have hgB : Below wr.heap.size wr w' := hg.below (fun k hk => ⟨hk, fun o => by rintro ⟨j, _, _, _, hw⟩; exact False.elim hw⟩)
                go_wp2
                exact ⟨_, rfl, GrowC.refl _, rfl⟩
              | 9, _ =>
                obtain rfl := Option.some.inj ho
                clear ho
                simp only [actsD, List.getD_cons_zero, List.getD_cons_succ, List.foldl_cons, List.foldl_nil, Act.put, List.setIfInBounds_toArray, List.set_cons_succ, List.set_cons_zero]
                have hsz := hg.size
                have hgB : Below wr.heap.size wr w' := hg.below (fun k hk => ⟨hk, fun o => by rintro ⟨j, _, _, _, hw⟩; exact False.elim hw⟩)
                go_wp2
                exact ⟨_, rfl, GrowC.refl _, rfl⟩
              | 10, _ =>
                obtain rfl := Option.some.inj ho
                clear ho
                simp only [actsD, List.getD_cons_zero, List.getD_cons_succ, List.foldl_cons, List.foldl_nil, Act.put, List.setIfInBounds_toArray, List.set_cons_succ, List.set_cons_zero]
                have hsz := hg.size
                have hgB : Below wr.heap.size wr w' := hg.below (fun k hk => ⟨hk, fun o => by rintro ⟨j, _, _, _, hw⟩; exact False.elim hw⟩)
                go_wp2
                exact ⟨_, rfl, GrowC.refl _, rfl⟩
              | 11, _ =>
                obtain rfl := Option.some.inj ho
                clear ho
                simp only [actsD, List.getD_cons_zero, List.getD_cons_succ, List.foldl_cons, List.foldl_nil, Act.put, List.setIfInBounds_toArray, List.set_cons_succ, List.set_cons_zero]
                obtain ⟨_, _, _, h9⟩ := hp 9 (by simp)
                simp only [PFr13] at h9
                obtain ⟨_, _, _, h10⟩ := hp 10 (by simp)
                simp only [PFr13] at h10
                have hsz := hg.size
                have hgB : Below wr.heap.size wr w' := hg.below (fun k hk => ⟨hk, fun o => by rintro ⟨j, _, _, _, hw⟩; exact False.elim hw⟩)
                rw [h9, h10]
                go_wp2
                exact ⟨_, rfl, GrowC.refl _, rfl⟩
              | 12, _ =>
                obtain rfl := Option.some.inj ho
                clear ho
                simp only [actsD, List.getD_cons_zero, List.getD_cons_succ, List.foldl_cons, List.foldl_nil, Act.put, List.setIfInBounds_toArray, List.set_cons_succ, List.set_cons_zero]
                obtain ⟨_, _, _, h11⟩ := hp 11 (by simp)
                simp only [PFr13] at h11
                have hsz := hg.size
                have hgB : Below wr.heap.size wr w' := hg.below (fun k hk => ⟨hk, fun o => by rintro ⟨j, _, _, _, hw⟩; exact False.elim hw⟩)
                rw [h11]
                go_wp2
                exact ⟨_, rfl, GrowC.refl _, rfl⟩
              | 13, _ =>
                obtain rfl := Option.some.inj ho
                clear ho
                simp only [actsD, List.getD_cons_zero, List.getD_cons_succ, List.foldl_cons, List.foldl_nil, Act.put, List.setIfInBounds_toArray, List.set_cons_succ, List.set_cons_zero]
                obtain ⟨_, _, _, h12⟩ := hp 12 (by simp)
                simp only [PFr13] at h12
                have hsz := hg.size
                have hgB : Below wr.heap.size wr w' := hg.below (fun k hk => ⟨hk, fun o => by rintro ⟨j, _, _, _, hw⟩; exact False.elim hw⟩)
                rw [h12]
                have e0 := (hgB.cell (p := ⟨b, o + k * 2 + 1, none⟩) hbr).trans hd2
                go_wp2
                exact ⟨_, rfl, GrowC.refl _, rfl⟩
              | 14, _ =>
                obtain rfl := Option.some.inj ho
                clear ho
                simp only [actsD, List.getD_cons_zero, List.getD_cons_succ, List.foldl_cons, List.foldl_nil, Act.put, List.setIfInBounds_toArray, List.set_cons_succ, List.set_cons_zero]
                obtain ⟨_, _, _, h8⟩ := hp 8 (by simp)
                simp only [PFr13] at h8
                obtain ⟨_, _, _, h13⟩ := hp 13 (by simp)
                simp only [PFr13] at h13
                have hsz := hg.size
                have hgB : Below wr.heap.size wr w' := hg.below (fun k hk => ⟨hk, fun o => by rintro ⟨j, _, _, _, hw⟩; exact False.elim hw⟩)
                rw [h8, h13]
                go_wp2_with fail
                refine (cycle_any l _ n HL.out hn' x2 _ (HV.out.below (HBM.out.trans (hgB.mono hszw)) (Nat.le_refl _))).mono ?_
                rintro e wc ⟨cc, a, m, cp, rfl, hcl, hcyc, _, hbc⟩
                go_wp2
                exact ⟨_, rfl, GrowC.of_grow hbc, cc, a, m, cp, rfl, hcl, hcyc⟩
              | 15, _ =>
                obtain rfl := Option.some.inj ho
                clear ho
                simp only [actsD, List.getD_cons_zero, List.getD_cons_succ, List.foldl_cons, List.foldl_nil, Act.put, List.setIfInBounds_toArray, List.set_cons_succ, List.set_cons_zero]
                obtain ⟨_, _, _, h14⟩ := hp 14 (by simp)
                simp only [PFr13] at h14
                have hsz := hg.size
                have hgB : Below wr.heap.size wr w' := hg.below (fun k hk => ⟨hk, fun o => by rintro ⟨j, _, _, _, hw⟩; exact False.elim hw⟩)
                obtain ⟨cc, a, m, cp, e6, hcl, hcyc⟩ := h14
                have hm : Hid ((m : Int) = ((cc.length : Nat) : Int)) := Lib.hid (by rw [hcl])
                rw [e6]
                go_wp2
                exact ⟨_, rfl, GrowC.refl _, cc, hcyc, by rw [hm.out]⟩
              | (q + 16), hq => exact absurd hq (by omega)
            intro vS lo hi w5 hg hp hd
            obtain ⟨_, _, _, h0⟩ := hp 0 (by omega)
            obtain ⟨_, _, _, h1⟩ := hp 1 (by omega)
            obtain ⟨_, _, _, h2⟩ := hp 2 (by omega)
            obtain ⟨_, _, _, h3⟩ := hp 3 (by omega)
            obtain ⟨_, _, _, h4⟩ := hp 4 (by omega)
            obtain ⟨_, _, _, h5⟩ := hp 5 (by omega)
            obtain ⟨_, _, _, h6⟩ := hp 6 (by omega)
            obtain ⟨_, _, _, h7⟩ := hp 7 (by omega)
            obtain ⟨_, _, _, h8⟩ := hp 8 (by omega)
            obtain ⟨_, _, _, h9⟩ := hp 9 (by omega)
            obtain ⟨_, _, _, h10⟩ := hp 10 (by omega)
            obtain ⟨_, _, _, h11⟩ := hp 11 (by omega)
            obtain ⟨_, _, _, h12⟩ := hp 12 (by omega)
            obtain ⟨_, _, _, h13⟩ := hp 13 (by omega)
            obtain ⟨_, _, _, h14⟩ := hp 14 (by omega)
            obtain ⟨_, _, _, h15⟩ := hp 15 (by omega)
            simp only [PFr13] at h0 h1 h2 h3 h4 h5 h6 h7 h8 h9 h10 h11 h12 h13 h14 h15
            clear hp hd
            have hsz := hg.size
            replace hB := hB.trans (hg.below (fun k hk => ⟨by omega, fun o => by rintro ⟨j, _, hw⟩; exact False.elim hw⟩))
            have hr : List.range 16 = [0, 1, 2, 3, 4, 5, 6, 7, 8, 9, 10, 11, 12, 13, 14, 15] := rfl
            rw [hr]
            clear hr
            simp only [List.drop_succ_cons, List.drop_zero, List.drop_nil, actsD, List.getD_cons_zero, List.getD_cons_succ, List.foldl_cons, List.foldl_nil, Act.put, List.setIfInBounds_toArray, List.set_cons_succ, List.set_cons_zero, h0, h1, h2, h3, h4, h5, h8, h9, h10, h11, h12, h13]
            clear h0 h1 h2 h3 h4 h5 h8 h9 h10 h11 h12 h13
            obtain ⟨ca, hca, e7⟩ := h7
            obtain ⟨cb, hcb, e15⟩ := h15
            simp only [e7, e15]
            have hla : ca.length ≤ n := by rw [← HL.out]; exact hca.length
            have hlb : cb.length ≤ n := by rw [← HL.out]; exact hcb.length
            have HPA := Lib.hid hca.pos
            have HPB := Lib.hid hcb.pos
            have hBw := hB
            clear hg e7 e15 hca hcb h6 h14
            generalize ca.length = na at *
            generalize cb.length = nb at *
            by_cases hz : na + nb = 0
            · have hz1 : ((na : Int) + (nb : Int) == 0) = true := by rw [beq_iff_eq]; omega
              have HKA := Lib.hid (HKN.out.add HLK.out (fun h => by have := HPA.out.2 h; omega) (fun h => by have := HPB.out.2 h; omega))
              clear hz
              go_wp2
              go_roundw
              case rel => exact ⟨k + 1, m + 1, by omega, by omega, by go_num, by go_num, HKA.out, hBw⟩
              case measure => simp [intOf]; omega
            · have hz1 : ((na : Int) + (nb : Int) == 0) = false := by rw [beq_eq_false_iff_ne]; omega
              have HKA := Lib.hid (HKN.out.skip HLK.out)
              clear hz
              go_wp2
              go_roundw
              case rel => exact ⟨k + 1, m, by omega, by omega, by go_num, rfl, HKA.out, hBw⟩
              case measure => simp [intOf]; omega
          · obtain rfl : n = k := by omega
            have hmn1 : m ≤ n1 := by
              have := HKN.out
              rw [← HL.out] at this
              rw [← HN1.out]
              exact this.le HF.out
            go_wp2_with (go_at_call 7; refine (awake_any _).mono ?_; rintro e w1 ⟨rfl, hb⟩)
            go_ret
            exact ⟨rfl, HBM.out.trans (hb.mono hszw)⟩
end Go.Proofs.Ytjakekfalooebaa

/- Clip, Clone, Without at edges: what they answer. Conditions: at most 2^40 elements. -/
import Derived.Test.YtjakekfalooebaaWKit
namespace Go.Proofs.Ytjakekfalooebaa
set_option linter.unusedSimpArgs false
set_option linter.unusedVariables false
open Go.RowKit

theorem eql_nil {P : Program} (w : World) (t e : TypeId) (a : Option Addr) (l c : Nat) (h : P.underlying t = some (.slice e)) : (binOp .eql t (.slice a l c) (.slice none 0 0)).run P w = .ok (.bool a.isNone) w := by
  have key : ∀ d : Nat, (Op.equalIn (d + 1) t (.slice a l c) (.slice none 0 0)).run P w = .ok a.isNone w := by
    intro d; cases a <;> simp [Op.equalIn, run_underlying h]
  have h2 : (Op.equal t (.slice a l c) (.slice none 0 0)).run P w = .ok a.isNone w := key 9999
  simp [binOp, h2]
theorem eql_none {P : Program} (w : World) (t e : TypeId) (l c : Nat) (h : P.underlying t = some (.slice e)) : (binOp .eql t (.slice none l c) (.slice none 0 0)).run P w = .ok (.bool true) w := eql_nil w t e none l c h
theorem eql_some {P : Program} (w : World) (t e : TypeId) (a : Addr) (l c : Nat) (h : P.underlying t = some (.slice e)) : (binOp .eql t (.slice (some a) l c) (.slice none 0 0)).run P w = .ok (.bool false) w := eql_nil w t e (some a) l c h

theorem clipE_any (ao : Option Addr) (n cap : Nat) (w : World) (h : n ≤ cap) : Calls Try.prog 18 #[.slice ao n cap] w fun e w' => e = .returned (.slice ao n n) ∧ w = w' := by
  by_cases h0 : n = 0
  · subst h0
    go_enter Try.func18, Try.ntmps18
    go_wp2
    go_ret
    exact ⟨rfl, rfl⟩
  · go_enter Try.func18, Try.ntmps18
    go_wp2
    go_ret
    exact ⟨rfl, rfl⟩

theorem clipI_any (ao : Option Addr) (n cap : Nat) (w : World) (h : n ≤ cap) : Calls Try.prog 23 #[.slice ao n cap] w fun e w' => e = .returned (.slice ao n n) ∧ w = w' := by
  by_cases h0 : n = 0
  · subst h0
    go_enter Try.func23, Try.ntmps23
    go_wp2
    go_ret
    exact ⟨rfl, rfl⟩
  · go_enter Try.func23, Try.ntmps23
    go_wp2
    go_ret
    exact ⟨rfl, rfl⟩

theorem cloneE_any (v : Value) (n : Nat) (xs : List Value) (w : World) (hr : Reads 2 w v n xs) (h1 : ∀ u ∈ xs, u.oneCell' = true) (hmax : n ≤ 1099511627776) :
    Calls Try.prog 19 #[v] w fun e w' => ∃ ao cap, e = .returned (.slice ao n cap) ∧ n ≤ cap ∧ Reads 2 w' (.slice ao n cap) n xs ∧ Below w.heap.size w w' := by
  have hr' := hr
  obtain ⟨ao, cap, rfl, hl, hc, _⟩ := hr'
  have HR := Lib.hid hr
  have H1 := Lib.hid h1
  have HL := Lib.hid hl
  clear hr h1 hl
  cases ao with
  | none =>
    have hn : n = 0 := by
      rcases Nat.eq_zero_or_pos n with e | e
      · exact e
      · obtain ⟨_, _, b, off, h, _⟩ := HR.out.some_addr e; cases h
    subst hn
    have hx : xs = [] := List.eq_nil_of_length_eq_zero (by simpa using HL.out)
    subst hx
    have hnil := eql_none (P := Try.prog) w 22 _ 0 cap Try.underlying22
    go_enter Try.func19, Try.ntmps19
    go_wp2
    go_ret
    exact ⟨none, 0, rfl, Nat.le_refl _, Reads.empty, Below.refl _ _⟩
  | some ad =>
    have hnil := eql_some (P := Try.prog) w 22 _ ad n cap Try.underlying22
    go_enter Try.func19, Try.ntmps19
    go_wp2_with (first
      | (at_builtin; refine wpList_append_reads edgesOf (.tmp 5) (.tmp 6) rfl rfl (base := w.heap.size) (W0 := w) (n := 0) (xs := []) rfl (World.ownsRow_lit (size := 2) w #[] 0 (Nat.le_refl _) (by unfold maxLen; omega) rfl) ((Below.refl _ _).alloc (Nat.le_refl _) _) rfl (HR.out.below ((Below.refl _ _).alloc (Nat.le_refl _) _) (Nat.le_refl _)) H1.out (by omega) (by omega) (by simp) ?_; intro ao2 cap2 w2 hown2 hbel2))
    go_ret
    simp only [Nat.zero_add, List.nil_append] at hown2
    exact ⟨ao2, cap2, by simp, by obtain ⟨_, _, h, _, h2, _⟩ := Reads.of_own hown2; injection h with _ _ h3; omega, Reads.of_own hown2, hbel2⟩

/-- the edges that do not touch id -/
def wout (l : List (Int × Int)) (id : Int) : List (Int × Int) := l.filter fun e => decide (e.1 ≠ id ∧ e.2 ≠ id)
theorem wout_snoc_yes (l : List (Int × Int)) (id : Int) (e : Int × Int) (h : e.1 ≠ id ∧ e.2 ≠ id) : wout (l ++ [e]) id = wout l id ++ [e] := by simp [wout, h.1, h.2]
theorem wout_snoc_no (l : List (Int × Int)) (id : Int) (e : Int × Int) (h : ¬ (e.1 ≠ id ∧ e.2 ≠ id)) : wout (l ++ [e]) id = wout l id := by
  unfold wout
  rw [List.filter_append]
  have : List.filter (fun e : Int × Int => decide (e.1 ≠ id ∧ e.2 ≠ id)) [e] = [] := by
    rw [List.filter_cons, if_neg (by rw [decide_eq_true_eq]; exact h)]; rfl
  rw [this, List.append_nil]
theorem wout_length (l : List (Int × Int)) (id : Int) : (wout l id).length ≤ l.length := List.length_filter_le _ _

set_option maxRecDepth 100000 in
set_option maxHeartbeats 1600000 in
theorem without_any (l : List (Int × Int)) (v : Value) (n : Nat) (hl : l.length = n) (hn : n ≤ 1099511627776) (id : Int) (w : World) (hv : Reads 2 w v n (ecells l)) :
    Calls Try.prog 15 #[v, .int .i64 id] w fun e w' => ∃ v', e = .returned v' ∧ Edges w' v' (wout l id) ∧ Below w.heap.size w w' := by
  obtain ⟨ao, c, rfl⟩ := hv.shape
  have HL := Lib.hid hl
  have HV := Lib.hid hv
  clear hl hv
  go_enter Try.func15, Try.ntmps15
  go_wp2_with fail
  go_loopw [5, 10] (fun s i wr => ∃ (k m cb : Nat) (bo : Option Addr), k ≤ n ∧ i = .int .i64 k ∧ s = .slice bo m cb ∧ Hid (m = (wout (l.take k) id).length) ∧ m ≤ k ∧
      wr.ownsRow w.heap.size 24 2 (.slice bo m cb) m (ecells (wout (l.take k) id)) ∧ Below w.heap.size w wr) (fun _ i _ => n - (intOf i).toNat)
  case atStart => exact ⟨0, 0, 0, none, Nat.zero_le _, rfl, rfl, Lib.hid rfl, Nat.le_refl _, World.ownsRow_nil _ _ _ _, Below.refl _ _⟩
  case round =>
    obtain ⟨k, m, cb, bo, hk, rfl, rfl, HM, hmk, hown, hnx⟩ := hrel
    have HO := Lib.hid hown
    have hsz := hnx.size
    have hmc : m ≤ cb := by obtain ⟨_, _, h, _, h2, _⟩ := Reads.of_own hown; injection h with _ _ h3; omega
    clear hown
    by_cases hlt : k < n
    · have hkl : k < l.length := by rw [HL.out]; exact hlt
      have hts : l.take (k + 1) = l.take k ++ [l[k]] := List.take_succ_eq_append_getElem hkl
      obtain ⟨b, o, c', e, hb, _, hc1, hc2⟩ := Edges.at HV.out k hlt l[k] (List.getElem?_eq_getElem hkl)
      injection e with e1 e2 e3
      subst e1 e3
      generalize l[k] = x at *
      obtain ⟨x1, x2⟩ := x
      have hd1 := (hnx.cell (p := ⟨b, o + k * 2, none⟩) hb).trans hc1
      have hd2 := (hnx.cell (p := ⟨b, o + k * 2 + 1, none⟩) hb).trans hc2
      clear hc1 hc2 hkl
      by_cases h1 : x1 = id
      · have HT : Hid (wout (l.take (k + 1)) id = wout (l.take k) id) := by show _ = _; rw [hts]; exact wout_snoc_no _ _ _ (fun h => h.1 h1)
        have hb1 : (x1 != id) = false := by simp [h1]
        clear h1 hts
        go_wp2
        go_roundw
        case rel => exact ⟨k + 1, m, cb, bo, by omega, by go_num, rfl, by rw [HT.out]; exact HM, by omega, by rw [HT.out]; exact HO.out.alloc _, hnx.alloc (by omega) _⟩
        case measure => simp [intOf]; omega
      by_cases h2 : x2 = id
      · have HT : Hid (wout (l.take (k + 1)) id = wout (l.take k) id) := by show _ = _; rw [hts]; exact wout_snoc_no _ _ _ (fun h => h.2 h2)
        have hb1 : (x1 != id) = true := by simp [h1]
        have hb2 : (x2 != id) = false := by simp [h2]
        clear h1 h2 hts
        go_wp2
        go_roundw
        case rel => exact ⟨k + 1, m, cb, bo, by omega, by go_num, rfl, by rw [HT.out]; exact HM, by omega, by rw [HT.out]; exact HO.out.alloc _, hnx.alloc (by omega) _⟩
        case measure => simp [intOf]; omega
      · have HT : Hid (wout (l.take (k + 1)) id = wout (l.take k) id ++ [(x1, x2)]) := by show _ = _; rw [hts]; exact wout_snoc_yes _ _ _ ⟨h1, h2⟩
        have hb1 : (x1 != id) = true := by simp [h1]
        have hb2 : (x2 != id) = true := by simp [h2]
        clear h1 h2 hts
        go_wp2_with (at_builtin; refine wpList_appG edgesOf (.tmp 24) (.tmp 26) rfl rfl (base := w.heap.size) (W0 := w) rfl (HO.out.alloc _) (hnx.alloc (by omega) _) (arr := #[.int .i64 x1, .int .i64 x2]) (m := 1) rfl (by simp) rfl (by intro u hu; simp at hu; rcases hu with rfl | rfl <;> rfl) (by omega) (by omega) (by simp; omega) (by omega) ?_; intro g2 cap2 w2 hown2 hbel2 hg2 hg3 hc2)
        have hown3 : w2.ownsRow w.heap.size 24 2 (.slice (some ⟨g2, 0, none⟩) (m + 1) cap2) (m + 1) (ecells (wout (l.take (k + 1)) id)) := by rw [HT.out, ecells_append]; exact hown2
        go_roundw
        case rel => exact ⟨k + 1, m + 1, cap2, _, by omega, by go_num, rfl, Lib.hid (by rw [HT.out, List.length_append, ← HM.out]; rfl), by omega, hown3, hbel2⟩
        case measure => simp [intOf]; omega
    · obtain rfl : n = k := by omega
      have HT : Hid (l.take n = l) := by show _ = _; exact List.take_of_length_le (Nat.le_of_eq HL.out)
      go_wp2_with (go_at_call 18; refine (clipE_any bo m cb _ hmc).mono ?_; rintro e w2 ⟨rfl, rfl⟩)
      go_ret
      refine ⟨_, rfl, ?_, hnx⟩
      have h := Reads.of_own HO.out
      have hm := HM.out
      rw [HT.out] at h hm
      show Reads 2 _ _ _ _
      rw [← hm]
      exact h.cut (Nat.le_refl _)

set_option maxRecDepth 100000 in
set_option maxHeartbeats 1600000 in
theorem rwithout_any (l : List (Int × Int)) (v : Value) (n : Nat) (hl : l.length = n) (hn : n ≤ 1099511627776) (id : Int) (w : World) (hv : Reads 2 w v n (ecells l)) :
    Calls Try.prog 16 #[v, .int .i64 id] w fun e w' => ∃ v', e = .returned v' ∧ Edges w' v' (wout l id) ∧ Below w.heap.size w w' := by
  obtain ⟨ao, c, rfl⟩ := hv.shape
  have HL := Lib.hid hl
  have HV := Lib.hid hv
  clear hl hv
  go_enter Try.func16, Try.ntmps16
  go_wp2_with fail
  go_loopw [5, 6] (fun s i wr => ∃ (k m cb : Nat) (bo : Option Addr), k ≤ n ∧ i = .int .i64 k ∧ s = .slice bo m cb ∧ Hid (m = (wout (l.take k) id).length) ∧ m ≤ k ∧
      wr.ownsRow w.heap.size 48 2 (.slice bo m cb) m (ecells (wout (l.take k) id)) ∧ Below w.heap.size w wr) (fun _ i _ => n - (intOf i).toNat)
  case atStart => exact ⟨0, 0, 0, none, Nat.zero_le _, rfl, rfl, Lib.hid rfl, Nat.le_refl _, World.ownsRow_nil _ _ _ _, Below.refl _ _⟩
  case round =>
    obtain ⟨k, m, cb, bo, hk, rfl, rfl, HM, hmk, hown, hnx⟩ := hrel
    have HO := Lib.hid hown
    have hsz := hnx.size
    have hmc : m ≤ cb := by obtain ⟨_, _, h, _, h2, _⟩ := Reads.of_own hown; injection h with _ _ h3; omega
    clear hown
    by_cases hlt : k < n
    · have hkl : k < l.length := by rw [HL.out]; exact hlt
      have hts : l.take (k + 1) = l.take k ++ [l[k]] := List.take_succ_eq_append_getElem hkl
      obtain ⟨b, o, c', e, hb, _, hc1, hc2⟩ := Edges.at HV.out k hlt l[k] (List.getElem?_eq_getElem hkl)
      injection e with e1 e2 e3
      subst e1 e3
      generalize l[k] = x at *
      obtain ⟨x1, x2⟩ := x
      have hd1 := (hnx.cell (p := ⟨b, o + k * 2, none⟩) hb).trans hc1
      have hd2 := (hnx.cell (p := ⟨b, o + k * 2 + 1, none⟩) hb).trans hc2
      clear hc1 hc2 hkl
      by_cases h1 : x1 = id
      · have HT : Hid (wout (l.take (k + 1)) id = wout (l.take k) id) := by show _ = _; rw [hts]; exact wout_snoc_no _ _ _ (fun h => h.1 h1)
        have hb1 : (x1 != id) = false := by simp [h1]
        clear h1 hts
        go_wp2
        go_roundw
        case rel => exact ⟨k + 1, m, cb, bo, by omega, by go_num, rfl, by rw [HT.out]; exact HM, by omega, by rw [HT.out]; exact HO.out, hnx⟩
        case measure => simp [intOf]; omega
      by_cases h2 : x2 = id
      · have HT : Hid (wout (l.take (k + 1)) id = wout (l.take k) id) := by show _ = _; rw [hts]; exact wout_snoc_no _ _ _ (fun h => h.2 h2)
        have hb1 : (x1 != id) = true := by simp [h1]
        have hb2 : (x2 != id) = false := by simp [h2]
        clear h1 h2 hts
        go_wp2
        go_roundw
        case rel => exact ⟨k + 1, m, cb, bo, by omega, by go_num, rfl, by rw [HT.out]; exact HM, by omega, by rw [HT.out]; exact HO.out, hnx⟩
        case measure => simp [intOf]; omega
      · have HT : Hid (wout (l.take (k + 1)) id = wout (l.take k) id ++ [(x1, x2)]) := by show _ = _; rw [hts]; exact wout_snoc_yes _ _ _ ⟨h1, h2⟩
        have hb1 : (x1 != id) = true := by simp [h1]
        have hb2 : (x2 != id) = true := by simp [h2]
        clear h1 h2 hts
        go_wp2_with (at_builtin; refine wpList_appG redgesOf (.tmp 29) (.tmp 34) rfl rfl (base := w.heap.size) (W0 := w) rfl HO.out hnx (arr := #[.int .i64 x1, .int .i64 x2]) (m := 1) rfl rfl rfl (by intro u hu; simp at hu; rcases hu with rfl | rfl <;> rfl) (by omega) (by omega) (by omega) (by omega) ?_; intro g2 cap2 w2 hown2 hbel2 hg2 hg3 hc2)
        have hown3 : w2.ownsRow w.heap.size 48 2 (.slice (some ⟨g2, 0, none⟩) (m + 1) cap2) (m + 1) (ecells (wout (l.take (k + 1)) id)) := by rw [HT.out, ecells_append]; exact hown2
        go_roundw
        case rel => exact ⟨k + 1, m + 1, cap2, _, by omega, by go_num, rfl, Lib.hid (by rw [HT.out, List.length_append, ← HM.out]; rfl), by omega, hown3, hbel2⟩
        case measure => simp [intOf]; omega
    · obtain rfl : n = k := by omega
      have HT : Hid (l.take n = l) := by show _ = _; exact List.take_of_length_le (Nat.le_of_eq HL.out)
      go_wp2
      go_ret
      refine ⟨_, rfl, ?_, hnx⟩
      have h := Reads.of_own HO.out
      have hm := HM.out
      rw [HT.out] at h hm
      show Reads 2 _ _ _ _
      rw [← hm]
      exact h
end Go.Proofs.Ytjakekfalooebaa

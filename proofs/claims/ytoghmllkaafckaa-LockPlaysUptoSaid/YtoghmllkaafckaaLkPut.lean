/- The document's Put: a number into a rising list. Conditions: at most 2^40 numbers. -/
import Derived.Test.YtoghmllkaafckaaLkModes
namespace Go.Proofs.Ytoghmllkaafckaa
set_option linter.unusedSimpArgs false
set_option linter.unusedVariables false
open Go.RowKit
namespace W
/-- a number put into a rising list, once -/
def putL : List Int → Int → List Int
  | [], n => [n]
  | x :: r, n => if x < n then x :: putL r n else if x = n then x :: r else n :: x :: r

theorem mem_putL (l : List Int) (n x : Int) : x ∈ putL l n ↔ x ∈ l ∨ x = n := by
  induction l with
  | nil => simp [putL]
  | cons y r ih =>
    unfold putL
    split
    · rw [List.mem_cons, ih, List.mem_cons]
      constructor
      · rintro (h | h | h)
        · exact .inl (.inl h)
        · exact .inl (.inr h)
        · exact .inr h
      · rintro ((h | h) | h)
        · exact .inl h
        · exact .inr (.inl h)
        · exact .inr (.inr h)
    · split
      · rename_i h; subst h
        simp only [List.mem_cons]
        constructor
        · intro h; exact .inl h
        · rintro (h | h)
          · exact h
          · exact .inl h
      · simp only [List.mem_cons]
        constructor
        · rintro (h | h | h)
          · exact .inr h
          · exact .inl (.inl h)
          · exact .inl (.inr h)
        · rintro ((h | h) | h)
          · exact .inr (.inl h)
          · exact .inr (.inr h)
          · exact .inl h

theorem putL_sorted (l : List Int) (n : Int) (h : l.Pairwise (· < ·)) : (putL l n).Pairwise (· < ·) := by
  induction l with
  | nil => simp [putL]
  | cons y r ih =>
    rw [List.pairwise_cons] at h
    unfold putL
    split
    · rename_i hyn
      rw [List.pairwise_cons]
      refine ⟨fun z hz => ?_, ih h.2⟩
      rcases (mem_putL r n z).1 hz with hz | rfl
      · exact h.1 z hz
      · exact hyn
    · split
      · rw [List.pairwise_cons]; exact h
      · rename_i h1 h2
        rw [List.pairwise_cons, List.pairwise_cons]
        refine ⟨fun z hz => ?_, h⟩
        rw [List.mem_cons] at hz
        rcases hz with rfl | hz
        · omega
        · have := h.1 z hz; omega

theorem putL_length (l : List Int) (n : Int) : (putL l n).length ≤ l.length + 1 := by
  induction l with
  | nil => simp [putL]
  | cons y r ih =>
    unfold putL
    split
    · simp only [List.length_cons]; omega
    · split <;> simp

/-- where the search for the place ended -/
theorem putL_at (l : List Int) (n : Int) (k : Nat) (hk : k ≤ l.length) (hlt : ∀ x ∈ l.take k, x < n) :
    (l.length ≤ k → putL l n = l.take k ++ [n] ++ l.drop k) ∧ (∀ x, l[k]? = some x → ¬ x < n → x = n → putL l n = l.take k ++ [n] ++ l.drop (k + 1)) ∧ (∀ x, l[k]? = some x → ¬ x < n → ¬ x = n → putL l n = l.take k ++ [n] ++ l.drop k) := by
  induction l generalizing k with
  | nil =>
    simp at hk; subst hk
    simp [putL]
  | cons y r ih =>
    cases k with
    | zero =>
      refine ⟨by simp, ?_, ?_⟩
      · intro x hx h1 h2
        simp at hx; subst hx
        unfold putL
        rw [if_neg h1, if_pos h2]
        simp [h2]
      · intro x hx h1 h2
        simp at hx; subst hx
        unfold putL
        rw [if_neg h1, if_neg h2]
        simp
    | succ k =>
      have hy : y < n := hlt y (by simp)
      obtain ⟨i1, i2, i3⟩ := ih k (by simpa using hk) (fun x hx => hlt x (by rw [List.take_succ_cons]; exact List.mem_cons_of_mem _ hx))
      refine ⟨?_, ?_, ?_⟩
      · intro h
        unfold putL
        rw [if_pos hy, i1 (by simpa using h)]; simp
      · intro x hx h1 h2
        unfold putL
        rw [if_pos hy, i2 x (by simpa using hx) h1 h2]; simp
      · intro x hx h1 h2
        unfold putL
        rw [if_pos hy, i3 x (by simpa using hx) h1 h2]; simp

end W
open W (putL)
abbrev Ints (w : World) (v : Value) (l : List Int) : Prop := Reads 1 w v l.length (l.map (Value.int .i64))
set_option maxRecDepth 100000 in
set_option maxHeartbeats 3200000 in
/-- Put: a number into a rising list -/
theorem put_any (L : List Int) (v : Value) (n : Nat) (hl : L.length = n) (hn : n ≤ 1099511627776) (x : Int) (w : World) (hv : Reads 1 w v n (L.map (Value.int .i64))) :
    Calls Try.prog 42 #[v, .int .i64 x] w fun e w' => ∃ ao cap, e = .returned (.slice ao (putL L x).length cap) ∧ Ints w' (.slice ao (putL L x).length cap) (putL L x) ∧ Below w.heap.size w w' := by
  obtain ⟨ao, c, rfl⟩ := hv.shape
  have hcap : n ≤ c := by obtain ⟨_, _, h, _, h2, _⟩ := hv; injection h with _ _ h3; omega
  have HL := Lib.hid hl
  have HV := Lib.hid hv
  clear hl hv
  go_enter Try.func42, Try.ntmps42
  go_wp2_with fail
  go_loopw [5, 6] (fun s i wr => ∃ (k cb : Nat) (bo : Option Addr), k ≤ n ∧ i = .int .i64 k ∧ s = .slice bo k cb ∧ Hid (∀ y ∈ L.take k, y < x) ∧
      wr.ownsRow w.heap.size 3 1 (.slice bo k cb) k ((L.take k).map (Value.int .i64)) ∧ Below w.heap.size w wr) (fun _ i _ => n - (intOf i).toNat)
  case atStart => exact ⟨0, 0, none, Nat.zero_le _, rfl, rfl, Lib.hid (by simp), World.ownsRow_nil _ _ _ _, Below.refl _ _⟩
  case round =>
    obtain ⟨k, cb, bo, hk, rfl, rfl, HM, hown, hnx⟩ := hrel
    have HO := Lib.hid hown
    have HB := Lib.hid hnx
    have hsz := hnx.size
    clear hown hnx
    by_cases hlt : k < n
    · have hkl : k < L.length := by rw [HL.out]; exact hlt
      have hLk : L[k]? = some L[k] := List.getElem?_eq_getElem hkl
      have hu : (L.map (Value.int .i64))[k]? = some (.int .i64 L[k]) := by rw [List.getElem?_map, hLk]; rfl
      have hts : L.take (k + 1) = L.take k ++ [L[k]] := List.take_succ_eq_append_getElem hkl
      obtain ⟨b, o, c', e, hb, _, hc1⟩ := HV.out.at k hlt _ hu
      injection e with e1 e2 e3
      subst e1 e3
      generalize L[k] = y at *
      have hd1 := (HB.out.cell (p := ⟨b, o + k, none⟩) hb).trans hc1
      have HLk := Lib.hid hLk
      have HTS := Lib.hid hts
      clear hkl hLk hu hts
      by_cases hy : y < x
      · have hb1 : decide (y < x) = true := by simpa using hy
        have HM2 : Hid (∀ z ∈ L.take (k + 1), z < x) := by
          refine Lib.hid ?_
          rw [HTS.out]
          intro z hz
          rw [List.mem_append, List.mem_singleton] at hz
          rcases hz with hz | rfl
          · exact HM.out z hz
          · exact hy
        clear hy
        go_wp2_with (at_builtin; refine wpList_appG intsOf (.tmp 19) (.tmp 24) rfl rfl (base := w.heap.size) (W0 := w) rfl HO.out HB.out (arr := #[.int .i64 y]) (m := 1) rfl rfl rfl (by intro u hu; simp at hu; subst hu; rfl) (by omega) (by omega) (by omega) (by omega) ?_; intro g2 cap2 w2 hown2 hbel2 hg2 hg3 hc2)
        have hown3 := hown2
        rw [show (L.take k).map (Value.int .i64) ++ (#[Value.int .i64 y] : Array Value).toList = (L.take (k + 1)).map (Value.int .i64) by rw [HTS.out, List.map_append]; rfl] at hown3
        go_roundw
        case rel => exact ⟨k + 1, cap2, _, by omega, by go_num, rfl, HM2, hown3, hbel2⟩
        case measure => simp [intOf]; omega
      · have hb1 : decide (y < x) = false := by simpa using hy
        have hpa := W.putL_at L x k (by rw [HL.out]; exact hk) HM.out
        by_cases hyx : y = x
        · have hb2 : (y == x) = true := by simp [hyx]
          have HP := Lib.hid (hpa.2.1 y HLk.out hy hyx)
          clear hpa hyx hy
          by_cases hcj : c = k + 1
          · obtain rfl : n = k + 1 := by omega
            have HD : Hid (L.drop (k + 1) = []) := Lib.hid (List.drop_of_length_le (by rw [HL.out]; omega))
            have HLE : Hid (k + 1 = (putL L x).length) := Lib.hid (by rw [HP.out, HD.out]; simp [HL.out])
            have HCJ := Lib.hid hcj
            clear hcj
            go_wp2_with (first
              | (at_builtin; refine wpList_appG intsOf (.tmp 28) (.tmp 30) rfl rfl (base := w.heap.size) (W0 := w) rfl HO.out HB.out (arr := #[.int .i64 x]) (m := 1) rfl rfl rfl (by intro u hu; simp at hu; subst hu; rfl) (by omega) (by omega) (by omega) (by omega) ?_; intro g2 cap2 w2 hown2 hbel2 hg2 hg3 hc2; (have HO2 := Lib.hid hown2); (have HB2 := Lib.hid hbel2); (have hs2 := hbel2.size); (have hd2 := (HB2.out.cell (p := ⟨b, o + k, none⟩) hb).trans hc1); clear hown2 hbel2)
              | (at_builtin; refine wpList_append_reads intsOf (.tmp 46) (.tmp 49) rfl rfl (base := w.heap.size) (W0 := w) rfl HO2.out HB2.out rfl Reads.empty (by intro u hu; cases hu) (by omega) (by omega) (by omega) ?_; intro ao3 cap3 w3 hown3 hbel3))
            go_ret
            refine ⟨ao3, cap3, ?_, ?_, hbel3⟩
            · rw [← HLE.out]; rfl
            · show Reads 1 _ _ _ _
              rw [← HLE.out, HP.out, HD.out, List.append_nil, List.map_append]
              exact Reads.of_own (by simpa using hown3)
          · have hrd := HV.out.drop1 (k := k + 1) (by omega) (by omega)
            have HRD := Lib.hid hrd
            have HLE : Hid (k + 1 + (n - (k + 1)) = (putL L x).length) := Lib.hid (by rw [HP.out]; simp [HL.out]; omega)
            clear hrd
            go_wp2_with (first
              | (at_builtin; refine wpList_appG intsOf (.tmp 28) (.tmp 30) rfl rfl (base := w.heap.size) (W0 := w) rfl HO.out HB.out (arr := #[.int .i64 x]) (m := 1) rfl rfl rfl (by intro u hu; simp at hu; subst hu; rfl) (by omega) (by omega) (by omega) (by omega) ?_; intro g2 cap2 w2 hown2 hbel2 hg2 hg3 hc2; (have HO2 := Lib.hid hown2); (have HB2 := Lib.hid hbel2); (have hs2 := hbel2.size); (have hd2 := (HB2.out.cell (p := ⟨b, o + k, none⟩) hb).trans hc1); clear hown2 hbel2)
              | (at_builtin; refine wpList_append_reads intsOf (.tmp 46) (.tmp 49) rfl rfl (base := w.heap.size) (W0 := w) rfl HO2.out HB2.out rfl (HRD.out.below HB2.out (Nat.le_refl _)) (by intro u hu; rw [← List.map_drop] at hu; exact ints_map_one _ u hu) (by omega) (by omega) (by omega) ?_; intro ao3 cap3 w3 hown3 hbel3))
            go_ret
            refine ⟨ao3, cap3, ?_, ?_, hbel3⟩
            · rw [← HLE.out]; rfl
            · show Reads 1 _ _ _ _
              rw [← HLE.out, HP.out, List.map_append, List.map_append, List.map_drop]
              exact Reads.of_own (by simpa using hown3)
        · have hb2 : (y == x) = false := by simp [hyx]
          have HP := Lib.hid (hpa.2.2 y HLk.out hy hyx)
          clear hpa hyx hy
          · have hrd := HV.out.drop1 (k := k) (by omega) (by omega)
            have HRD := Lib.hid hrd
            have HLE : Hid (k + 1 + (n - (k)) = (putL L x).length) := Lib.hid (by rw [HP.out]; simp [HL.out]; omega)
            clear hrd
            go_wp2_with (first
              | (at_builtin; refine wpList_appG intsOf (.tmp 28) (.tmp 30) rfl rfl (base := w.heap.size) (W0 := w) rfl HO.out HB.out (arr := #[.int .i64 x]) (m := 1) rfl rfl rfl (by intro u hu; simp at hu; subst hu; rfl) (by omega) (by omega) (by omega) (by omega) ?_; intro g2 cap2 w2 hown2 hbel2 hg2 hg3 hc2; (have HO2 := Lib.hid hown2); (have HB2 := Lib.hid hbel2); (have hs2 := hbel2.size); (have hd2 := (HB2.out.cell (p := ⟨b, o + k, none⟩) hb).trans hc1); clear hown2 hbel2)
              | (at_builtin; refine wpList_append_reads intsOf (.tmp 46) (.tmp 49) rfl rfl (base := w.heap.size) (W0 := w) rfl HO2.out HB2.out rfl (HRD.out.below HB2.out (Nat.le_refl _)) (by intro u hu; rw [← List.map_drop] at hu; exact ints_map_one _ u hu) (by omega) (by omega) (by omega) ?_; intro ao3 cap3 w3 hown3 hbel3))
            go_ret
            refine ⟨ao3, cap3, ?_, ?_, hbel3⟩
            · rw [← HLE.out]; rfl
            · show Reads 1 _ _ _ _
              rw [← HLE.out, HP.out, List.map_append, List.map_append, List.map_drop]
              exact Reads.of_own (by simpa using hown3)
    · obtain rfl : n = k := by omega
      have hpa := W.putL_at L x n (by rw [HL.out]; exact Nat.le_refl _) HM.out
      have HP := Lib.hid (hpa.1 (Nat.le_of_eq HL.out))
      clear hpa
      have HD : Hid (L.drop n = []) := Lib.hid (List.drop_of_length_le (Nat.le_of_eq HL.out))
      have HLE : Hid (n + 1 = (putL L x).length) := Lib.hid (by rw [HP.out, HD.out]; simp [HL.out])
      cases ao with
      | none =>
        have hn0 : n = 0 := by
          rcases Nat.eq_zero_or_pos n with e | e
          · exact e
          · obtain ⟨_, _, b, off, h, _⟩ := HV.out.some_addr e; cases h
        subst hn0
        go_wp2_with (first
          | (at_builtin; refine wpList_appG intsOf (.tmp 28) (.tmp 30) rfl rfl (base := w.heap.size) (W0 := w) rfl HO.out HB.out (arr := #[.int .i64 x]) (m := 1) rfl rfl rfl (by intro u hu; simp at hu; subst hu; rfl) (by omega) (by omega) (by omega) (by omega) ?_; intro g2 cap2 w2 hown2 hbel2 hg2 hg3 hc2; (have HO2 := Lib.hid hown2); (have HB2 := Lib.hid hbel2); (have hs2 := hbel2.size);  clear hown2 hbel2)
          | (at_builtin; refine wpList_append_reads intsOf (.tmp 46) (.tmp 49) rfl rfl (base := w.heap.size) (W0 := w) rfl HO2.out HB2.out rfl Reads.empty (by intro u hu; cases hu) (by omega) (by omega) (by omega) ?_; intro ao3 cap3 w3 hown3 hbel3))
        go_ret
        refine ⟨ao3, cap3, ?_, ?_, hbel3⟩
        · rw [← HLE.out]; rfl
        · show Reads 1 _ _ _ _
          rw [← HLE.out, HP.out, HD.out, List.append_nil, List.map_append]
          exact Reads.of_own (by simpa using hown3)
      | some ad =>
        by_cases hcj : c = n
        · have HCJ := Lib.hid hcj
          obtain rfl : n = c := hcj.symm
          clear hcj
          go_wp2_with (first
            | (at_builtin; refine wpList_appG intsOf (.tmp 28) (.tmp 30) rfl rfl (base := w.heap.size) (W0 := w) rfl HO.out HB.out (arr := #[.int .i64 x]) (m := 1) rfl rfl rfl (by intro u hu; simp at hu; subst hu; rfl) (by omega) (by omega) (by omega) (by omega) ?_; intro g2 cap2 w2 hown2 hbel2 hg2 hg3 hc2; (have HO2 := Lib.hid hown2); (have HB2 := Lib.hid hbel2); (have hs2 := hbel2.size);  clear hown2 hbel2)
            | (at_builtin; refine wpList_append_reads intsOf (.tmp 46) (.tmp 49) rfl rfl (base := w.heap.size) (W0 := w) rfl HO2.out HB2.out rfl Reads.empty (by intro u hu; cases hu) (by omega) (by omega) (by omega) ?_; intro ao3 cap3 w3 hown3 hbel3))
          go_ret
          refine ⟨ao3, cap3, ?_, ?_, hbel3⟩
          · rw [← HLE.out]; rfl
          · show Reads 1 _ _ _ _
            rw [← HLE.out, HP.out, HD.out, List.append_nil, List.map_append]
            exact Reads.of_own (by simpa using hown3)
        · go_wp2_with (first
            | (at_builtin; refine wpList_appG intsOf (.tmp 28) (.tmp 30) rfl rfl (base := w.heap.size) (W0 := w) rfl HO.out HB.out (arr := #[.int .i64 x]) (m := 1) rfl rfl rfl (by intro u hu; simp at hu; subst hu; rfl) (by omega) (by omega) (by omega) (by omega) ?_; intro g2 cap2 w2 hown2 hbel2 hg2 hg3 hc2; (have HO2 := Lib.hid hown2); (have HB2 := Lib.hid hbel2); (have hs2 := hbel2.size);  clear hown2 hbel2)
            | (at_builtin; refine wpList_append_reads intsOf (.tmp 46) (.tmp 49) rfl rfl (base := w.heap.size) (W0 := w) rfl HO2.out HB2.out rfl Reads.empty (by intro u hu; cases hu) (by omega) (by omega) (by omega) ?_; intro ao3 cap3 w3 hown3 hbel3))
          go_ret
          refine ⟨ao3, cap3, ?_, ?_, hbel3⟩
          · rw [← HLE.out]; rfl
          · show Reads 1 _ _ _ _
            rw [← HLE.out, HP.out, HD.out, List.append_nil, List.map_append]
            exact Reads.of_own (by simpa using hown3)

end Go.Proofs.Ytoghmllkaafckaa

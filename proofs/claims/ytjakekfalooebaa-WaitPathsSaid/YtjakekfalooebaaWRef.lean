/- What the reference's reach, Put, Cycle and Victim tell. Conditions: at most 2^40 edges. -/
import Derived.Test.YtjakekfalooebaaWCyc
namespace Go.Proofs.Ytjakekfalooebaa
set_option linter.unusedSimpArgs false
set_option linter.unusedVariables false
open Go.RowKit
open W (Rch Reached RK RC IsCyc IsVic putL)

def lenOf : Value → Nat
  | .slice _ n _ => n
  | _ => 0
def flagOf : Value → Nat
  | .bool true => 1
  | _ => 0

/-- amid the reference's search, in memory -/
def RS (L : List (Int × Int)) (f : Int) (n0 : Nat) (W0 : World) (k : Nat) (again : Bool) (vo : Value) (wr : World) : Prop :=
  ∃ (out : List Int) (ao : Option Addr) (no co : Nat), vo = .slice ao no co ∧ out.length = no ∧ RK L f n0 out k again ∧
    wr.ownsRow W0.heap.size 3 1 vo no (out.map (Value.int .i64)) ∧ Below W0.heap.size W0 wr

set_option maxRecDepth 100000 in
set_option maxHeartbeats 6400000 in
theorem rreach_any (L : List (Int × Int)) (v : Value) (n : Nat) (hl : L.length = n) (hn : n ≤ 1099511627776) (f : Int) (w : World) (hv : Reads 2 w v n (ecells L)) :
    Calls Try.prog 24 #[v, .int .i64 f] w (ReachEnd L f w) := by
  obtain ⟨ao, c, rfl⟩ := hv.shape
  have HL := Lib.hid hl
  have HV := Lib.hid hv
  clear hl hv
  have own0 := own_lit (w1 := w) (base := w.heap.size) (g := w.heap.size) (T := 3) (n := 0) (arr := #[]) rfl (Nat.le_refl _) rfl rfl (by omega)
  have hB0 := (Below.refl w.heap.size w).alloc (Nat.le_refl _) (.cells #[] 3)
  have HS0 : Hid (RS L f 0 w 0 false (.slice (some ⟨w.heap.size, 0, none⟩) 0 0) (w.alloc (.cells #[] 3))) :=
    Lib.hid ⟨[], _, 0, 0, rfl, rfl, W.RK.start List.nodup_nil (by simp), own0, hB0⟩
  clear own0 hB0
  go_enter Try.func24, Try.ntmps24
  go_wp2_with fail
  go_loopw [5, 6] (fun s ag wr => ∃ (no co : Nat) (ao : Option Addr) (b : Bool), s = .slice ao no co ∧ ag = .bool b ∧ no ≤ n ∧ (b = true → RS L f no w 0 false s wr) ∧ (b = false → ∃ n0, RS L f n0 w n false s wr)) (fun s ag _ => 2 * (n - lenOf s) + flagOf ag)
  case atStart => exact ⟨0, 0, _, true, rfl, rfl, Nat.zero_le _, fun _ => HS0.out, (by intro h; cases h)⟩
  case round =>
    clear HS0
    obtain ⟨n0, co, ao1, b, rfl, rfl, hn0, hb1, hb2⟩ := hrel
    cases b with
    | true =>
      have HS := Lib.hid (hb1 rfl)
      clear hb1 hb2
      go_wp2_with fail
      obtain ⟨wo, rfl⟩ : ∃ wo : World, wo = wr := ⟨_, rfl⟩
      go_loopw [5, 6, 7] (fun s ag i wr => ∃ (k no co : Nat) (ao : Option Addr) (b : Bool), i = .int .i64 k ∧ k ≤ n ∧ s = .slice ao no co ∧ ag = .bool b ∧ RS L f n0 w k b (.slice ao no co) wr) (fun _ _ i _ => n - (intOf i).toNat)
      case atStart => exact ⟨0, n0, co, ao1, false, rfl, Nat.zero_le _, rfl, rfl, HS.out⟩
      case round =>
        clear HS
        obtain ⟨k, no, co, ao1, ag, rfl, hk, rfl, rfl, hsr⟩ := hrel
        have HS := Lib.hid hsr
        clear hsr
        obtain ⟨out, ao2, no2, co2, e1, hout, hrk, hown, hbel⟩ := id HS.out
        injection e1 with e1a e1b e1c
        subst e1a e1b e1c
        have hole : no ≤ n := by rw [← hout, ← HL.out]; exact hrk.out_le
        have hn0l : n0 ≤ no := by rw [← hout]; exact hrk.ge
        have hn0y : ag = true → n0 < no := by rw [← hout]; exact hrk.yes
        have HY := Lib.hid hn0y
        have hsz := hbel.size
        have HO := Lib.hid hout
        have HRK := Lib.hid hrk
        have HR := Lib.hid hown
        have HB := Lib.hid hbel
        clear hout hrk hown hbel hn0y
        by_cases hlk : k < n
        · have hkl : k < L.length := by rw [HL.out]; exact hlk
          obtain ⟨b, o, c', e, hb, _, hc1, hc2⟩ := Edges.at HV.out k hlk L[k] (List.getElem?_eq_getElem hkl)
          injection e with e1 e2 e3
          subst e1 e3
          have HLk : Hid (L[k]? = some L[k]) := Lib.hid (List.getElem?_eq_getElem hkl)
          generalize L[k] = x at *
          obtain ⟨x1, x2⟩ := x
          have hd1 := (HB.out.cell (p := ⟨b, o + k * 2, none⟩) hb).trans hc1
          have hd2 := (HB.out.cell (p := ⟨b, o + k * 2 + 1, none⟩) hb).trans hc2
          clear hc1 hc2 hkl hb
          by_cases hA : x1 = f
          · have hA1 : (x1 == f) = true := by simp [hA]
            have HA := Lib.hid hA
            clear hA
            go_wp2_with fail
            refine (has_any out _ no (by omega) HO.out _ (Reads.of_own HR.out) _).mono ?_
            rintro e w2 ⟨rfl, rfl⟩
            by_cases hm : x2 ∈ out
            · have hm1 : hasB out x2 = true := hasB_true.2 hm
              have HSn : Hid (RS L f n0 w (k + 1) ag (.slice ao1 no co) wr) :=
                Lib.hid ⟨out, ao1, no, co, rfl, HO.out, HRK.out.skip HLk.out (fun _ => hm), HR.out, HB.out⟩
              clear hm
              go_wp2
              go_roundw
              case rel => exact ⟨k + 1, no, co, ao1, ag, by go_num, by omega, rfl, rfl, HSn.out⟩
              case measure => simp [intOf]; omega
            · have hm1 : hasB out x2 = false := hasB_false.2 hm
              have HM := Lib.hid hm
              clear hm
              go_wp2_with (at_builtin; refine wpList_appG intsOf (.tmp 42) (.tmp 48) rfl rfl (base := w.heap.size) (W0 := w) rfl HR.out HB.out (arr := #[.int .i64 x2]) (m := 1) rfl rfl rfl (by intro u hu; simp at hu; subst hu; rfl) (by omega) (by omega) (by omega) (by omega) ?_; intro g2 cap2 w2 hown2 hbel2 hg2 hg3 hc2)
              have HSn : Hid (RS L f n0 w (k + 1) true (.slice (some ⟨g2, 0, none⟩) (no + 1) cap2) w2) :=
                Lib.hid ⟨out ++ [x2], _, no + 1, cap2, rfl, by simp [HO.out], HRK.out.add HLk.out (.inl HA.out) HM.out, by rw [List.map_append]; exact hown2, hbel2⟩
              go_roundw
              case rel => exact ⟨k + 1, no + 1, cap2, _, true, by go_num, by omega, rfl, rfl, HSn.out⟩
              case measure => simp [intOf]; omega
          · have hA1 : (x1 == f) = false := by simp [hA]
            have HA := Lib.hid hA
            clear hA
            go_wp2_with fail
            refine (has_any out _ no (by omega) HO.out _ (Reads.of_own HR.out) _).mono ?_
            rintro e w2 ⟨rfl, rfl⟩
            by_cases hC : x1 ∈ out
            · have hC1 : hasB out x1 = true := hasB_true.2 hC
              have HC := Lib.hid hC
              clear hC
              go_wp2_with fail
              refine (has_any out _ no (by omega) HO.out _ (Reads.of_own HR.out) _).mono ?_
              rintro e w2 ⟨rfl, rfl⟩
              by_cases hm : x2 ∈ out
              · have hm1 : hasB out x2 = true := hasB_true.2 hm
                have HSn : Hid (RS L f n0 w (k + 1) ag (.slice ao1 no co) wr) :=
                  Lib.hid ⟨out, ao1, no, co, rfl, HO.out, HRK.out.skip HLk.out (fun _ => hm), HR.out, HB.out⟩
                clear hm
                go_wp2
                go_roundw
                case rel => exact ⟨k + 1, no, co, ao1, ag, by go_num, by omega, rfl, rfl, HSn.out⟩
                case measure => simp [intOf]; omega
              · have hm1 : hasB out x2 = false := hasB_false.2 hm
                have HM := Lib.hid hm
                clear hm
                go_wp2_with (at_builtin; refine wpList_appG intsOf (.tmp 42) (.tmp 48) rfl rfl (base := w.heap.size) (W0 := w) rfl HR.out HB.out (arr := #[.int .i64 x2]) (m := 1) rfl rfl rfl (by intro u hu; simp at hu; subst hu; rfl) (by omega) (by omega) (by omega) (by omega) ?_; intro g2 cap2 w2 hown2 hbel2 hg2 hg3 hc2)
                have HSn : Hid (RS L f n0 w (k + 1) true (.slice (some ⟨g2, 0, none⟩) (no + 1) cap2) w2) :=
                  Lib.hid ⟨out ++ [x2], _, no + 1, cap2, rfl, by simp [HO.out], HRK.out.add HLk.out (.inr HC.out) HM.out, by rw [List.map_append]; exact hown2, hbel2⟩
                go_roundw
                case rel => exact ⟨k + 1, no + 1, cap2, _, true, by go_num, by omega, rfl, rfl, HSn.out⟩
                case measure => simp [intOf]; omega
            · have hC1 : hasB out x1 = false := hasB_false.2 hC
              have HSn : Hid (RS L f n0 w (k + 1) ag (.slice ao1 no co) wr) :=
                Lib.hid ⟨out, ao1, no, co, rfl, HO.out, HRK.out.skip HLk.out (fun h => absurd h (fun h => h.elim HA.out hC)), HR.out, HB.out⟩
              clear hC
              go_wp2
              go_roundw
              case rel => exact ⟨k + 1, no, co, ao1, ag, by go_num, by omega, rfl, rfl, HSn.out⟩
              case measure => simp [intOf]; omega
        · obtain rfl : n = k := by omega
          cases ag with
          | true =>
            have hlt := HY.out rfl
            have HSn : Hid (RS L f no w 0 false (.slice ao1 no co) wr) := by
              have h := HRK.out
              have h2 := HO.out
              refine Lib.hid ⟨out, ao1, no, co, rfl, h2, ?_, HR.out, HB.out⟩
              rw [← h2]; exact W.RK.start h.nd h.sub
            clear HRK HR HB HS HO
            go_wp2
            go_roundw
            case rel => exact ⟨no, co, ao1, true, rfl, rfl, hole, fun _ => HSn.out, (by intro h; cases h)⟩
            case measure => simp [lenOf, flagOf]; omega
          | false =>
            go_wp2
            go_roundw
            case rel => exact ⟨no, co, ao1, false, rfl, rfl, hole, (by intro h; cases h), fun _ => ⟨n0, HS.out⟩⟩
            case measure => simp [lenOf, flagOf]; omega
    | false =>
      obtain ⟨m0, out, ao2, no2, co2, e1, hout, hrk, hown, hbel⟩ := hb2 rfl
      injection e1 with e1a e1b e1c
      subst e1a e1b e1c
      have hX : ReachEnd L f w (.returned (.slice ao1 n0 co)) wr := ⟨out, _, rfl, hrk.done (Nat.le_of_eq HL.out), by show Reads 1 _ _ _ _; rw [hout]; exact Reads.of_own hown, hbel⟩
      have HX := Lib.hid hX
      clear hX hb1 hb2 hout hrk hown hbel
      go_wp2
      go_ret
      exact HX.out

set_option maxRecDepth 100000 in
set_option maxHeartbeats 3200000 in
/-- Put: a number into a rising list -/
theorem put_any (L : List Int) (v : Value) (n : Nat) (hl : L.length = n) (hn : n ≤ 1099511627776) (x : Int) (w : World) (hv : Reads 1 w v n (L.map (Value.int .i64))) :
    Calls Try.prog 26 #[v, .int .i64 x] w fun e w' => ∃ ao cap, e = .returned (.slice ao (putL L x).length cap) ∧ Ints w' (.slice ao (putL L x).length cap) (putL L x) ∧ Below w.heap.size w w' := by
  obtain ⟨ao, c, rfl⟩ := hv.shape
  have hcap : n ≤ c := by obtain ⟨_, _, h, _, h2, _⟩ := hv; injection h with _ _ h3; omega
  have HL := Lib.hid hl
  have HV := Lib.hid hv
  clear hl hv
  go_enter Try.func26, Try.ntmps26
  go_wp2_with fail
  go_loopw [5, 6] (fun s i wr => ∃ (k cb : Nat) (bo : Option Addr), k ≤ n ∧ i = .int .i64 k ∧ s = .slice bo k cb ∧ Hid (∀ y ∈ L.take k, y < x) ∧
      wr.ownsRow w.heap.size 3 1 (.slice bo k cb) k ((L.take k).map (Value.int .i64)) ∧ Below w.heap.size w wr) (fun _ i _ => n - (intOf i).toNat)
  case atStart => exact ⟨0, 0, none, Nat.zero_le _, rfl, rfl, Lib.hid (by simp), World.ownsRow_nil _ _ _ _, Below.refl _ _⟩
  case round =>
    obtain ⟨k, cb, bo, hk, rfl, rfl, HM, hown, hnx⟩ := hrel
    have HO := Lib.hid hown
    have HB := Lib.hid hnx
    have hsz := hnx.size
    clear hown hnx
    by_cases hlt : k < n
    · have hkl : k < L.length := by rw [HL.out]; exact hlt
      have hLk : L[k]? = some L[k] := List.getElem?_eq_getElem hkl
      have hu : (L.map (Value.int .i64))[k]? = some (.int .i64 L[k]) := by rw [List.getElem?_map, hLk]; rfl
      have hts : L.take (k + 1) = L.take k ++ [L[k]] := List.take_succ_eq_append_getElem hkl
      obtain ⟨b, o, c', e, hb, _, hc1⟩ := HV.out.at k hlt _ hu
      injection e with e1 e2 e3
      subst e1 e3
      generalize L[k] = y at *
      have hd1 := (HB.out.cell (p := ⟨b, o + k, none⟩) hb).trans hc1
      have HLk := Lib.hid hLk
      have HTS := Lib.hid hts
      clear hkl hLk hu hts
      by_cases hy : y < x
      · have hb1 : decide (y < x) = true := by simpa using hy
        have HM2 : Hid (∀ z ∈ L.take (k + 1), z < x) := by
          refine Lib.hid ?_
          rw [HTS.out]
          intro z hz
          rw [List.mem_append, List.mem_singleton] at hz
          rcases hz with hz | rfl
          · exact HM.out z hz
          · exact hy
        clear hy
        go_wp2_with (at_builtin; refine wpList_appG intsOf (.tmp 19) (.tmp 24) rfl rfl (base := w.heap.size) (W0 := w) rfl HO.out HB.out (arr := #[.int .i64 y]) (m := 1) rfl rfl rfl (by intro u hu; simp at hu; subst hu; rfl) (by omega) (by omega) (by omega) (by omega) ?_; intro g2 cap2 w2 hown2 hbel2 hg2 hg3 hc2)
        have hown3 := hown2
        rw [show (L.take k).map (Value.int .i64) ++ (#[Value.int .i64 y] : Array Value).toList = (L.take (k + 1)).map (Value.int .i64) by rw [HTS.out, List.map_append]; rfl] at hown3
        go_roundw
        case rel => exact ⟨k + 1, cap2, _, by omega, by go_num, rfl, HM2, hown3, hbel2⟩
        case measure => simp [intOf]; omega
      · have hb1 : decide (y < x) = false := by simpa using hy
        have hpa := W.putL_at L x k (by rw [HL.out]; exact hk) HM.out
        by_cases hyx : y = x
        · have hb2 : (y == x) = true := by simp [hyx]
          have HP := Lib.hid (hpa.2.1 y HLk.out hy hyx)
          clear hpa hyx hy
          by_cases hcj : c = k + 1
          · obtain rfl : n = k + 1 := by omega
            have HD : Hid (L.drop (k + 1) = []) := Lib.hid (List.drop_of_length_le (by rw [HL.out]; omega))
            have HLE : Hid (k + 1 = (putL L x).length) := Lib.hid (by rw [HP.out, HD.out]; simp [HL.out])
            have HCJ := Lib.hid hcj
            clear hcj
            go_wp2_with (first
              | (at_builtin; refine wpList_appG intsOf (.tmp 28) (.tmp 30) rfl rfl (base := w.heap.size) (W0 := w) rfl HO.out HB.out (arr := #[.int .i64 x]) (m := 1) rfl rfl rfl (by intro u hu; simp at hu; subst hu; rfl) (by omega) (by omega) (by omega) (by omega) ?_; intro g2 cap2 w2 hown2 hbel2 hg2 hg3 hc2; (have HO2 := Lib.hid hown2); (have HB2 := Lib.hid hbel2); (have hs2 := hbel2.size); (have hd2 := (HB2.out.cell (p := ⟨b, o + k, none⟩) hb).trans hc1); clear hown2 hbel2)
              | (at_builtin; refine wpList_append_reads intsOf (.tmp 46) (.tmp 49) rfl rfl (base := w.heap.size) (W0 := w) rfl HO2.out HB2.out rfl Reads.empty (by intro u hu; cases hu) (by omega) (by omega) (by omega) ?_; intro ao3 cap3 w3 hown3 hbel3))
            go_ret
            refine ⟨ao3, cap3, ?_, ?_, hbel3⟩
            · rw [← HLE.out]; rfl
            · show Reads 1 _ _ _ _
              rw [← HLE.out, HP.out, HD.out, List.append_nil, List.map_append]
              exact Reads.of_own (by simpa using hown3)
          · have hrd := HV.out.drop1 (k := k + 1) (by omega) (by omega)
            have HRD := Lib.hid hrd
            have HLE : Hid (k + 1 + (n - (k + 1)) = (putL L x).length) := Lib.hid (by rw [HP.out]; simp [HL.out]; omega)
            clear hrd
            go_wp2_with (first
              | (at_builtin; refine wpList_appG intsOf (.tmp 28) (.tmp 30) rfl rfl (base := w.heap.size) (W0 := w) rfl HO.out HB.out (arr := #[.int .i64 x]) (m := 1) rfl rfl rfl (by intro u hu; simp at hu; subst hu; rfl) (by omega) (by omega) (by omega) (by omega) ?_; intro g2 cap2 w2 hown2 hbel2 hg2 hg3 hc2; (have HO2 := Lib.hid hown2); (have HB2 := Lib.hid hbel2); (have hs2 := hbel2.size); (have hd2 := (HB2.out.cell (p := ⟨b, o + k, none⟩) hb).trans hc1); clear hown2 hbel2)
              | (at_builtin; refine wpList_append_reads intsOf (.tmp 46) (.tmp 49) rfl rfl (base := w.heap.size) (W0 := w) rfl HO2.out HB2.out rfl (HRD.out.below HB2.out (Nat.le_refl _)) (by intro u hu; rw [← List.map_drop] at hu; exact ints_map_one _ u hu) (by omega) (by omega) (by omega) ?_; intro ao3 cap3 w3 hown3 hbel3))
            go_ret
            refine ⟨ao3, cap3, ?_, ?_, hbel3⟩
            · rw [← HLE.out]; rfl
            · show Reads 1 _ _ _ _
              rw [← HLE.out, HP.out, List.map_append, List.map_append, List.map_drop]
              exact Reads.of_own (by simpa using hown3)
        · have hb2 : (y == x) = false := by simp [hyx]
          have HP := Lib.hid (hpa.2.2 y HLk.out hy hyx)
          clear hpa hyx hy
          · have hrd := HV.out.drop1 (k := k) (by omega) (by omega)
            have HRD := Lib.hid hrd
            have HLE : Hid (k + 1 + (n - (k)) = (putL L x).length) := Lib.hid (by rw [HP.out]; simp [HL.out]; omega)
            clear hrd
            go_wp2_with (first
              | (at_builtin; refine wpList_appG intsOf (.tmp 28) (.tmp 30) rfl rfl (base := w.heap.size) (W0 := w) rfl HO.out HB.out (arr := #[.int .i64 x]) (m := 1) rfl rfl rfl (by intro u hu; simp at hu; subst hu; rfl) (by omega) (by omega) (by omega) (by omega) ?_; intro g2 cap2 w2 hown2 hbel2 hg2 hg3 hc2; (have HO2 := Lib.hid hown2); (have HB2 := Lib.hid hbel2); (have hs2 := hbel2.size); (have hd2 := (HB2.out.cell (p := ⟨b, o + k, none⟩) hb).trans hc1); clear hown2 hbel2)
              | (at_builtin; refine wpList_append_reads intsOf (.tmp 46) (.tmp 49) rfl rfl (base := w.heap.size) (W0 := w) rfl HO2.out HB2.out rfl (HRD.out.below HB2.out (Nat.le_refl _)) (by intro u hu; rw [← List.map_drop] at hu; exact ints_map_one _ u hu) (by omega) (by omega) (by omega) ?_; intro ao3 cap3 w3 hown3 hbel3))
            go_ret
            refine ⟨ao3, cap3, ?_, ?_, hbel3⟩
            · rw [← HLE.out]; rfl
            · show Reads 1 _ _ _ _
              rw [← HLE.out, HP.out, List.map_append, List.map_append, List.map_drop]
              exact Reads.of_own (by simpa using hown3)
    · obtain rfl : n = k := by omega
      have hpa := W.putL_at L x n (by rw [HL.out]; exact Nat.le_refl _) HM.out
      have HP := Lib.hid (hpa.1 (Nat.le_of_eq HL.out))
      clear hpa
      have HD : Hid (L.drop n = []) := Lib.hid (List.drop_of_length_le (Nat.le_of_eq HL.out))
      have HLE : Hid (n + 1 = (putL L x).length) := Lib.hid (by rw [HP.out, HD.out]; simp [HL.out])
      cases ao with
      | none =>
        have hn0 : n = 0 := by
          rcases Nat.eq_zero_or_pos n with e | e
          · exact e
          · obtain ⟨_, _, b, off, h, _⟩ := HV.out.some_addr e; cases h
        subst hn0
        go_wp2_with (first
          | (at_builtin; refine wpList_appG intsOf (.tmp 28) (.tmp 30) rfl rfl (base := w.heap.size) (W0 := w) rfl HO.out HB.out (arr := #[.int .i64 x]) (m := 1) rfl rfl rfl (by intro u hu; simp at hu; subst hu; rfl) (by omega) (by omega) (by omega) (by omega) ?_; intro g2 cap2 w2 hown2 hbel2 hg2 hg3 hc2; (have HO2 := Lib.hid hown2); (have HB2 := Lib.hid hbel2); (have hs2 := hbel2.size);  clear hown2 hbel2)
          | (at_builtin; refine wpList_append_reads intsOf (.tmp 46) (.tmp 49) rfl rfl (base := w.heap.size) (W0 := w) rfl HO2.out HB2.out rfl Reads.empty (by intro u hu; cases hu) (by omega) (by omega) (by omega) ?_; intro ao3 cap3 w3 hown3 hbel3))
        go_ret
        refine ⟨ao3, cap3, ?_, ?_, hbel3⟩
        · rw [← HLE.out]; rfl
        · show Reads 1 _ _ _ _
          rw [← HLE.out, HP.out, HD.out, List.append_nil, List.map_append]
          exact Reads.of_own (by simpa using hown3)
      | some ad =>
        by_cases hcj : c = n
        · have HCJ := Lib.hid hcj
          obtain rfl : n = c := hcj.symm
          clear hcj
          go_wp2_with (first
            | (at_builtin; refine wpList_appG intsOf (.tmp 28) (.tmp 30) rfl rfl (base := w.heap.size) (W0 := w) rfl HO.out HB.out (arr := #[.int .i64 x]) (m := 1) rfl rfl rfl (by intro u hu; simp at hu; subst hu; rfl) (by omega) (by omega) (by omega) (by omega) ?_; intro g2 cap2 w2 hown2 hbel2 hg2 hg3 hc2; (have HO2 := Lib.hid hown2); (have HB2 := Lib.hid hbel2); (have hs2 := hbel2.size);  clear hown2 hbel2)
            | (at_builtin; refine wpList_append_reads intsOf (.tmp 46) (.tmp 49) rfl rfl (base := w.heap.size) (W0 := w) rfl HO2.out HB2.out rfl Reads.empty (by intro u hu; cases hu) (by omega) (by omega) (by omega) ?_; intro ao3 cap3 w3 hown3 hbel3))
          go_ret
          refine ⟨ao3, cap3, ?_, ?_, hbel3⟩
          · rw [← HLE.out]; rfl
          · show Reads 1 _ _ _ _
            rw [← HLE.out, HP.out, HD.out, List.append_nil, List.map_append]
            exact Reads.of_own (by simpa using hown3)
        · go_wp2_with (first
            | (at_builtin; refine wpList_appG intsOf (.tmp 28) (.tmp 30) rfl rfl (base := w.heap.size) (W0 := w) rfl HO.out HB.out (arr := #[.int .i64 x]) (m := 1) rfl rfl rfl (by intro u hu; simp at hu; subst hu; rfl) (by omega) (by omega) (by omega) (by omega) ?_; intro g2 cap2 w2 hown2 hbel2 hg2 hg3 hc2; (have HO2 := Lib.hid hown2); (have HB2 := Lib.hid hbel2); (have hs2 := hbel2.size);  clear hown2 hbel2)
            | (at_builtin; refine wpList_append_reads intsOf (.tmp 46) (.tmp 49) rfl rfl (base := w.heap.size) (W0 := w) rfl HO2.out HB2.out rfl Reads.empty (by intro u hu; cases hu) (by omega) (by omega) (by omega) ?_; intro ao3 cap3 w3 hown3 hbel3))
          go_ret
          refine ⟨ao3, cap3, ?_, ?_, hbel3⟩
          · rw [← HLE.out]; rfl
          · show Reads 1 _ _ _ _
            rw [← HLE.out, HP.out, HD.out, List.append_nil, List.map_append]
            exact Reads.of_own (by simpa using hown3)

set_option maxRecDepth 100000 in
set_option maxHeartbeats 3200000 in
theorem rcycle_any (l : List (Int × Int)) (v : Value) (n : Nat) (hl : l.length = n) (hn : n ≤ 1099511627776) (f : Int) (w : World) (hv : Reads 2 w v n (ecells l)) :
    Calls Try.prog 11 #[v, .int .i64 f] w (CycEnd l f w) := by
  obtain ⟨ao, c, rfl⟩ := hv.shape
  have HL := Lib.hid hl
  have HV := Lib.hid hv
  clear hl hv
  have own0 := own_lit (w1 := w) (base := w.heap.size) (g := w.heap.size) (T := 3) (n := 0) (arr := #[]) rfl (Nat.le_refl _) rfl rfl (by omega)
  have hB0 := (Below.refl w.heap.size w).alloc (Nat.le_refl _) (.cells #[] 3)
  have HF : Hid (Reads 1 (w.alloc (.cells #[] 3)) (.slice (some ⟨w.heap.size, 0, none⟩) 0 0) 0 [] ∧ Below w.heap.size w (w.alloc (.cells #[] 3))) := Lib.hid ⟨Reads.of_own own0, hB0⟩
  clear own0 hB0
  go_enter Try.func11, Try.ntmps11
  go_wp2_with fail
  refine (rreach_any l _ n HL.out hn f _ (HV.out.below HF.out.2 (Nat.le_refl _))).mono ?_
  rintro e w1 ⟨far, v1, rfl, hr1, hi1, hb1⟩
  obtain ⟨n1, hn1⟩ : ∃ n1, far.length = n1 := ⟨_, rfl⟩
  have hle1 : n1 ≤ n := by rw [← hn1, ← HL.out]; exact hr1.length
  have hi1' : Reads 1 w1 v1 n1 (far.map (Value.int .i64)) := by have := hi1; unfold Ints at this; rwa [hn1] at this
  have hb2 := HF.out.2.trans (hb1.mono HF.out.2.size)
  have HI1 := Lib.hid hi1'
  have HN1 := Lib.hid hn1
  have HR1 := Lib.hid hr1
  have HB1 := Lib.hid hb2
  have HF1 := Lib.hid (HF.out.1.below hb1 (Nat.le_refl _))
  have hsz1 := hb2.size
  clear hi1 hi1' hn1 hr1 hb1 hb2 HF
  obtain ⟨ao1, c1, rfl⟩ := HI1.out.shape
  go_wp2_with fail
  obtain ⟨b0, hb0⟩ : ∃ b0, w1.heap.size = b0 := ⟨_, rfl⟩
  have HB0 := Lib.hid hb0
  clear hb0
  go_loopw [5, 7] (fun s i wr => ∃ (k : Nat) (out : List Int) (no co : Nat) (ao : Option Addr), k ≤ n1 ∧ i = .int .i64 k ∧ s = .slice ao no co ∧ Hid (out.length = no) ∧ RC l f far out k ∧ Reads 1 wr (.slice ao no co) no (out.map (Value.int .i64)) ∧ Below b0 w1 wr) (fun _ i _ => n1 - (intOf i).toNat)
  case atStart => exact ⟨0, [], 0, 0, _, Nat.zero_le _, rfl, rfl, Lib.hid rfl, W.RC.start _ _ _, HF1.out, Below.refl _ _⟩
  case round =>
    obtain ⟨k, out, no, co, ao3, hk, rfl, rfl, HM, hrc, hro, hnx⟩ := hrel
    have HO := Lib.hid hro
    have HNX := Lib.hid hnx
    have hsz : b0 ≤ wr.heap.size := by have := hnx.size; have := HB0.out; omega
    have hno : no ≤ n1 := by rw [← HM.out, ← HN1.out]; exact hrc.length
    have HRC := Lib.hid hrc
    clear hro hnx hrc
    have HBw : Hid (Below w.heap.size w wr) := Lib.hid (HB1.out.trans (HNX.out.mono (by rw [← HB0.out]; exact hsz1)))
    have hwr := HBw.out.size
    by_cases hlt : k < n1
    · have hkl : k < far.length := by rw [HN1.out]; exact hlt
      have hfk : far[k]? = some far[k] := List.getElem?_eq_getElem hkl
      have hu : (far.map (Value.int .i64))[k]? = some (.int .i64 far[k]) := by rw [List.getElem?_map, hfk]; rfl
      obtain ⟨b, o, c', e, hb, _, hc1⟩ := HI1.out.at k hlt _ hu
      injection e with e1 e2 e3
      subst e1 e3
      generalize far[k] = x at *
      have hd1 := (HNX.out.cell (p := ⟨b, o + k, none⟩) (by rw [← HB0.out]; exact hb)).trans hc1
      have HFK := Lib.hid hfk
      clear hc1 hkl hu hfk
      go_wp2_with fail
      refine (rreach_any l _ n HL.out hn x _ (HV.out.below HBw.out (Nat.le_refl _))).mono ?_
      rintro e w3 ⟨far2, v2, rfl, hr2, hi2, hb2⟩
      obtain ⟨n2, hn2⟩ : ∃ n2, far2.length = n2 := ⟨_, rfl⟩
      have hle2 : n2 ≤ n := by rw [← hn2, ← HL.out]; exact hr2.length
      have hi2' : Reads 1 w3 v2 n2 (far2.map (Value.int .i64)) := by have := hi2; unfold Ints at this; rwa [hn2] at this
      have HI2 := Lib.hid hi2'
      have HN2 := Lib.hid hn2
      have hrf : f ∈ far2 ↔ Rch l x f := hr2.iff f
      have HO3 := Lib.hid (HO.out.below hb2 (Nat.le_refl _))
      have HN3 := Lib.hid (HNX.out.trans (hb2.mono hsz))
      have hs3 : b0 ≤ w3.heap.size := Nat.le_trans hsz hb2.size
      have hd3 := (hb2.cell (p := ⟨b, o + k, none⟩) (by show b < _; have := HB0.out; omega)).trans hd1
      have HRF := Lib.hid hrf
      clear hi2 hi2' hn2 hr2 hb2 hd1 hrf HO HNX HBw
      obtain ⟨ao4, c4, rfl⟩ := HI2.out.shape
      go_wp2_with fail
      refine (has_any far2 _ n2 (by omega) HN2.out _ HI2.out f).mono ?_
      rintro e w2 ⟨rfl, rfl⟩
      by_cases hm : f ∈ far2
      · have hm1 : hasB far2 f = true := hasB_true.2 hm
        have HRN := Lib.hid (HRC.out.yes HFK.out (HRF.out.1 hm))
        clear hm
        go_wp2_with fail
        refine (put_any out _ no HM.out (by omega) x _ HO3.out).mono ?_
        rintro e w5 ⟨ao5, c5, rfl, hi5, hb5⟩
        obtain ⟨n5, hn5⟩ : ∃ n5, (putL out x).length = n5 := ⟨_, rfl⟩
        have hi5' : Reads 1 w5 (.slice ao5 n5 c5) n5 ((putL out x).map (Value.int .i64)) := by have := hi5; unfold Ints at this; rwa [hn5] at this
        have HI5 := Lib.hid hi5'
        have HB5 := Lib.hid (HN3.out.trans (hb5.mono hs3))
        have HN5 := Lib.hid hn5
        rw [hn5]
        clear hi5 hi5' hb5 hn5
        go_wp2
        go_roundw
        case rel => exact ⟨k + 1, putL out x, n5, c5, ao5, by omega, by go_num, rfl, HN5, HRN.out, HI5.out, HB5.out⟩
        case measure => simp [intOf]; omega
      · have hm1 : hasB far2 f = false := hasB_false.2 hm
        have HRN := Lib.hid (HRC.out.no HFK.out (fun h => hm (HRF.out.2 h)))
        clear hm
        go_wp2
        go_roundw
        case rel => exact ⟨k + 1, out, no, co, ao3, by omega, by go_num, rfl, HM, HRN.out, HO3.out, HN3.out⟩
        case measure => simp [intOf]; omega
    · obtain rfl : n1 = k := by omega
      have HX := Lib.hid (⟨out, ao3, no, co, rfl, HM.out, HRC.out.done HR1.out (Nat.le_of_eq HN1.out), by show Reads 1 _ _ _ _; rw [HM.out]; exact HO.out, HBw.out⟩ : CycEnd l f w (.returned (.slice ao3 no co)) wr)
      go_wp2
      go_ret
      exact HX.out

set_option maxRecDepth 100000 in
set_option maxHeartbeats 1600000 in
theorem rvictim_any (l : List (Int × Int)) (v : Value) (n : Nat) (hl : l.length = n) (hn : n ≤ 1099511627776) (f : Int) (w : World) (hv : Reads 2 w v n (ecells l)) :
    Calls Try.prog 13 #[v, .int .i64 f] w (VicEnd l f w) := by
  obtain ⟨ao, c, rfl⟩ := hv.shape
  have HL := Lib.hid hl
  have HV := Lib.hid hv
  clear hl hv
  go_enter Try.func13, Try.ntmps13
  go_wp2_with fail
  refine (rcycle_any l _ n HL.out hn f w HV.out).mono ?_
  rintro e w1 ⟨cc, ao1, m, cap, rfl, hcl, hcyc, hi, hb⟩
  have hm : m ≤ n := by rw [← hcl, ← HL.out]; exact hcyc.length
  have hi' : Reads 1 w1 (.slice ao1 m cap) m (cc.map (Value.int .i64)) := by have := hi; unfold Ints at this; rwa [hcl] at this
  rcases Nat.eq_zero_or_pos m with h0 | h0
  · subst h0
    have hX : VicEnd l f w (.returned (.tuple #[.int .i64 0, .bool false])) w1 := ⟨0, false, rfl, hcyc.vic.1 (List.eq_nil_of_length_eq_zero hcl), hb⟩
    have HX := Lib.hid hX
    clear hX hi hi' hcl hcyc hb
    go_wp2
    go_ret2
    exact HX.out
  · obtain ⟨m', rfl⟩ : ∃ m', m = m' + 1 := ⟨m - 1, by omega⟩
    have hk : m' < cc.length := by omega
    have hu : (cc.map (Value.int .i64))[m']? = some (.int .i64 cc[m']) := by rw [List.getElem?_map, List.getElem?_eq_getElem hk]; rfl
    obtain ⟨b, o, c', e, hbb, _, hc1⟩ := hi'.at m' (by omega) _ hu
    injection e with e1 e2 e3
    subst e1 e3
    have hX : VicEnd l f w (.returned (.tuple #[.int .i64 cc[m'], .bool true])) w1 := ⟨_, true, rfl, hcyc.vic.2 _ (by rw [hcl]; exact List.getElem?_eq_getElem hk), hb⟩
    have HX := Lib.hid hX
    generalize cc[m'] = x at *
    clear hX hi hi' hcl hcyc hb hu
    go_wp2
    go_ret2
    exact HX.out
end Go.Proofs.Ytjakekfalooebaa

/- lock: mode: what one holds on a name. Conditions: at most 2^40 locks. -/
import Derived.Test.YtoghmllkaafckaaLkKit
import Derived.Test.YtoghmllkaafckaaAppF
namespace Go.Proofs.Ytoghmllkaafckaa
set_option linter.unusedSimpArgs false
set_option linter.unusedVariables false
open Go.RowKit

theorem str_ne {a b : ByteArray} (h : ¬ a = b) : (a.toList == b.toList) = false := by
  rw [beq_eq_false_iff_ne]
  intro e
  rw [ByteArray.toList_eq, ByteArray.toList_eq] at e
  exact h (ByteArray.ext (Array.toList_inj.1 e))
theorem str_eq {a b : ByteArray} (h : a = b) : (a.toList == b.toList) = true := by rw [h]; simp
/-- a table that can be read: its one field is a slice that reads as the locks -/
structure TabR (w : World) (tb : Nat) (n c : Nat) (ao : Option Addr) (L : List Hd) : Prop where
  box : Box w tb [.slice ao n c]
  reads : Reads 3 w (.slice ao n c) n (hcells L)
  len : L.length = n
theorem TabR.below {w w' : World} {B tb n c : Nat} {ao : Option Addr} {L : List Hd} (h : TabR w tb n c ao L) (hb : Below B w w') (hB : w.heap.size ≤ B) : TabR w' tb n c ao L :=
  ⟨h.box.below hb hB, h.reads.below hb hB, h.len⟩

theorem modeL_take_no {L : List Hd} {id : Int} {n : ByteArray} {k : Nat} (hk : k < L.length) (h : ¬ (L[k].1 = id ∧ L[k].2.1 = n)) (hp : (L.take k).find? (fun h => decide (h.1 = id ∧ h.2.1 = n)) = none) :
    (L.take (k + 1)).find? (fun h => decide (h.1 = id ∧ h.2.1 = n)) = none := by
  rw [List.take_succ_eq_append_getElem hk, List.find?_append, hp]
  simp [h]
theorem modeL_take_yes {L : List Hd} {id : Int} {n : ByteArray} {k : Nat} (hk : k < L.length) (h : L[k].1 = id ∧ L[k].2.1 = n) (hp : (L.take k).find? (fun h => decide (h.1 = id ∧ h.2.1 = n)) = none) :
    modeL L id n = L[k].2.2 := by
  have e : L = L.take k ++ L[k] :: L.drop (k + 1) := by rw [← List.drop_eq_getElem_cons hk, List.take_append_drop]
  have hf : L.find? (fun h => decide (h.1 = id ∧ h.2.1 = n)) = some L[k] := by
    rw [List.find?_eq_some_iff_append]
    refine ⟨by simpa using h, L.take k, L.drop (k + 1), e, fun a ha => ?_⟩
    have := List.find?_eq_none.1 hp a ha
    rw [decide_eq_true_eq] at this
    show (!decide (a.1 = id ∧ a.2.1 = n)) = true
    rw [decide_eq_false this]; rfl
  unfold modeL
  rw [hf]

set_option maxHeartbeats 1600000 in
theorem mode_any (L : List Hd) (tb n c : Nat) (ao : Option Addr) (hn : n ≤ 1099511627776) (id : Int) (nm : ByteArray) (w : World) (ht : TabR w tb n c ao L) :
    Calls Try.prog 48 #[.pointer (some ⟨tb, 0, none⟩), .int .i64 id, .string nm] w fun e w' => e = .returned (.int .i64 (modeL L id nm)) ∧ Below w.heap.size w w' := by
  have hc0 := ht.box.cell 0 _ rfl
  have hcf := ht.box.free
  have HL := Lib.hid ht.len
  have HV := Lib.hid ht.reads
  clear ht
  go_enter Try.func48, Try.ntmps48
  go_wp2_with fail
  clear hc0 hcf
  go_loopw [14] (fun i wr => ∃ k : Nat, k ≤ n ∧ i = .int .i64 k ∧ Hid ((L.take k).find? (fun h => decide (h.1 = id ∧ h.2.1 = nm)) = none) ∧ Below w.heap.size w wr) (fun i _ => n - (intOf i).toNat)
  case atStart => exact ⟨0, Nat.zero_le _, rfl, Lib.hid rfl, Below.refl _ _⟩
  case round =>
    obtain ⟨k, hk, rfl, HF, hnx⟩ := hrel
    have hsz := hnx.size
    by_cases hlt : k < n
    · have hkl : k < L.length := by rw [HL.out]; exact hlt
      obtain ⟨b, o, c', e, hb, _, hc1, hc2, hc3⟩ := Hds.at HV.out k hlt L[k] (List.getElem?_eq_getElem hkl)
      injection e with e1 e2 e3
      subst e1 e3
      have HN := fun h => modeL_take_no (id := id) (n := nm) hkl h HF.out
      have HY := fun h => modeL_take_yes (id := id) (n := nm) hkl h HF.out
      generalize L[k] = x at *
      obtain ⟨x1, x2, x3⟩ := x
      have hd1 := (hnx.cell (p := ⟨b, o + k * 3, none⟩) hb).trans hc1
      have hd2 := (hnx.cell (p := ⟨b, o + k * 3 + 1, none⟩) hb).trans hc2
      have hd3 := (hnx.cell (p := ⟨b, o + k * 3 + 2, none⟩) hb).trans hc3
      clear hc1 hc2 hc3 hkl
      by_cases h1 : x1 = id
      · by_cases h2 : x2 = nm
        · have HE : Hid (modeL L id nm = x3) := Lib.hid (HY ⟨h1, h2⟩)
          have hb1 : (x1 == id) = true := by simp [h1]
          clear HN HY h1
          go_wp2_with fail
          go_ret
          exact ⟨by rw [HE.out]; rfl, hnx.alloc hsz _⟩
        · have HE := Lib.hid (HN (fun h => h2 h.2))
          have hb1 : (x1 == id) = true := by simp [h1]
          have hb2 : (x2.toList == nm.toList) = false := str_ne h2
          clear HN HY h1 h2
          go_wp2
          go_roundw
          case rel => exact ⟨k + 1, by omega, by go_num, HE, hnx.alloc hsz _⟩
          case measure => simp [intOf]; omega
      · have HE := Lib.hid (HN (fun h => h1 h.1))
        have hb1 : (x1 == id) = false := by simp [h1]
        clear HN HY h1
        go_wp2
        go_roundw
        case rel => exact ⟨k + 1, by omega, by go_num, HE, hnx.alloc hsz _⟩
        case measure => simp [intOf]; omega
    · obtain rfl : n = k := by omega
      have HE : Hid (modeL L id nm = 0) := Lib.hid (by
        have := HF.out
        rw [List.take_of_length_le (Nat.le_of_eq HL.out)] at this
        unfold modeL; rw [this])
      go_wp2
      go_ret
      exact ⟨by rw [HE.out]; rfl, hnx⟩
end Go.Proofs.Ytoghmllkaafckaa

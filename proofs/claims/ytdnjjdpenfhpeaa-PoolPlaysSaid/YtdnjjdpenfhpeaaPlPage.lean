/- The laws' Page: 512 bytes by two small numbers. Conditions: the numbers are small. -/
import Derived.Test.YtdnjjdpenfhpeaaFlOpen
namespace Go.Proofs.Ytdnjjdpenfhpeaa
set_option linter.unusedSimpArgs false
set_option linter.unusedVariables false
open Go.RowKit

def pbyte (a b : Int) (i : Nat) : UInt8 := UInt8.ofNat ((a * i + b) % 256).toNat
def pageL (a b : Int) : List UInt8 := (List.range 512).map (pbyte a b)
theorem pageL_len (a b : Int) : (pageL a b).length = 512 := by simp [pageL]
def pageK (a b : Int) (k : Nat) : List UInt8 := (List.range k).map (pbyte a b) ++ List.replicate (512 - k) 0
theorem pageK_len (a b : Int) {k : Nat} (h : k ≤ 512) : (pageK a b k).length = 512 := by simp [pageK]; omega
theorem pageK_step (a b : Int) {k : Nat} (hk : k < 512) : pageK a b (k + 1) = (pageK a b k).set k (pbyte a b k) := by
  unfold pageK
  rw [List.range_succ, List.map_append, show 512 - k = (512 - (k + 1)) + 1 by omega, List.replicate_succ, List.set_append_right _ _ (by simp)]
  simp
theorem pageK_at (a b : Int) {k : Nat} (hk : k < 512) : ((pageK a b k).map B)[k]? = some (B 0) := by
  unfold pageK
  rw [List.map_append, List.getElem?_append_right (by simp)]
  simp only [List.length_map, List.length_range, Nat.sub_self, List.map_replicate]
  rw [show 512 - k = (511 - k) + 1 by omega, List.replicate_succ]
  rfl
theorem B_pbyte (a b : Int) (k : Nat) : B (pbyte a b k) = .int .u8 ((a * k + b) % 256) := by
  show Value.int .u8 (((UInt8.ofNat ((a * k + b) % 256).toNat).toNat : Nat) : Int) = _
  rw [UInt8.toNat_ofNat']
  have h1 := Int.emod_nonneg (a * k + b) (show (256 : Int) ≠ 0 by decide)
  have h2 := Int.emod_lt_of_pos (a * k + b) (show (0 : Int) < 256 by decide)
  congr 1
  omega
def Z512 : Array Value := ((List.replicate 512 (0 : UInt8)).map B).toArray
theorem make512 (w : World) : (Instr.makeSlice 37 (.int .i64 512) (.int .i64 512)).run Try.prog w = .ok (.slice (some ⟨w.heap.size, 0, none⟩) 512 512) (w.alloc (.cells Z512 5)) := by
  obtain ⟨i0, hi, hz0, hz1, hz2⟩ := info_parts (P := Try.prog) (e := 5) (z := .int .u8 0) (size := 1) (bytes := 1) (by kernel_rfl)
  have h := run_make (P := Try.prog) w 37 5 i0 (.int .u8 0) Try.underlying37 hi hz0 .i64 .i64 512 512 (by decide) (by decide) (by rw [hz2]; decide) (by decide)
  rw [h, hz1]
  have e : madeCells (Value.int .u8 0).cells (Int.toNat 512 * 1) = Z512 := by
    apply Array.ext'
    have e1 := toList_madeCells_one (.int .u8 0) 512
    show (madeCells #[.int .u8 0] 512).toList = _
    rw [e1]
    unfold Z512
    simp only [List.map_replicate]
    rfl
  rw [e]
  rfl
theorem Buf.zero512 (w : World) (a b : Int) : Buf (w.alloc (.cells Z512 5)) w.heap.size (pageK a b 0) := by
  have e : pageK a b 0 = List.replicate 512 0 := by unfold pageK; rw [List.range_zero, List.map_nil, List.nil_append, Nat.sub_zero]
  rw [e]
  unfold Buf World.alloc
  show (w.heap.push (.cells Z512 5 (0, 0)))[w.heap.size]? = _
  rw [Array.getElem?_push_size]
  rfl
set_option maxRecDepth 100000 in
set_option maxHeartbeats 1600000 in
theorem page_any (w : World) (a b : Int) :
    Calls Try.prog 12 #[.int .i64 a, .int .i64 b] w fun e w' => ∃ g, e = .returned (.slice (some ⟨g, 0, none⟩) 512 512) ∧ Buf w' g (pageL a b) ∧ w.heap.size ≤ g ∧ GrowX (fun _ => False) w w' := by
  have hmk := make512
  go_enter Try.func12, Try.ntmps12
  go_wp2_with fail
  have hg0 : GrowX (fun _ => False) w (w.alloc (.cells Z512 5)) := grow_below ((Below.refl _ _).alloc (Nat.le_refl _) _)
  have hb0 := Buf.zero512 w a b
  obtain ⟨g, hg⟩ : ∃ g, w.heap.size = g := ⟨_, rfl⟩
  rw [hg] at hb0 ⊢
  generalize w.alloc (.cells Z512 5) = w1 at *
  go_loopw [6] (fun z wr => ∃ k : Nat, k ≤ 512 ∧ z = .int .i64 k ∧ Buf wr g (pageK a b k) ∧ GrowX (fun _ => False) w wr) (fun z _ => 512 - (intOf z).toNat)
  case atStart => exact ⟨0, Nat.zero_le _, rfl, hb0, hg0⟩
  case round =>
    obtain ⟨k, hk, rfl, hbuf, hgw⟩ := hrel
    have HB := Lib.hid hbuf
    have HG := Lib.hid hgw
    by_cases hk8 : k < 512
    case neg =>
      obtain rfl : k = 512 := by omega
      go_wp2_with fail
      go_ret
      exact ⟨g, rfl, by have := HB.out; unfold pageK at this; simpa [pageL] using this, by omega, HG.out⟩
    have hkb : decide ((k : Int) < 512) = true := by simp; omega
    have hcold := hbuf.cell k (B 0) (pageK_at a b hk8)
    have hfz := fun o => frozen_of_row' hbuf o
    have hlt := hbuf.lt
    clear hbuf hgw
    go_wp2_with fail
    have hw : wrap64 (wrap64 (a * (k : Int)) + b) % 256 = (a * (k : Int) + b) % 256 := by
      generalize a * (k : Int) = t
      simp only [wrap64]
      omega
    rw [hw, ← B_pbyte]
    refine ⟨⟨k + 1, by omega, by simp, ?_, ?_⟩, ?_⟩
    · rw [pageK_step a b hk8]
      exact HB.out.set k (by rw [pageK_len a b (by omega)]; omega) _
    · exact HG.out.step (growX_setCell _ _ _ _) (fun q h1 h2 => by omega)
    · simp [intOf]; omega
end Go.Proofs.Ytdnjjdpenfhpeaa

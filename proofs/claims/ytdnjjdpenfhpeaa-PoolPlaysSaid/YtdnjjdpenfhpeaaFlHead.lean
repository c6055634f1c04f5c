/- The file: head: a page's number as eight bytes, 120 zeros behind them. Conditions: the number is small. -/
import Derived.Test.YtdnjjdpenfhpeaaFlPlain
namespace Go.Proofs.Ytdnjjdpenfhpeaa
set_option linter.unusedSimpArgs false
set_option linter.unusedVariables false
open Go.RowKit

def hbyte (n i : Nat) : UInt8 := UInt8.ofNat (n / 2 ^ (56 - 8 * i))
def headL (n k : Nat) : List UInt8 := (List.range k).map (hbyte n) ++ List.replicate (128 - k) 0
theorem headL_len (n : Nat) {k : Nat} (hk : k ≤ 128) : (headL n k).length = 128 := by simp [headL]; omega
theorem Buf.set {w : World} {g : Nat} {l : List UInt8} (h : Buf w g l) (j : Nat) (hj : j < l.length) (x : UInt8) : Buf (w.setCell ⟨g, j, none⟩ (B x)) g (l.set j x) := by
  unfold Buf
  have h' : w.heap[g]? = some (.cells (l.map B).toArray 5 (0, 0)) := h
  rw [setCell_row h' (B x)]
  simp [List.map_set]
theorem headL_step (n : Nat) {k : Nat} (hk : k < 8) : headL n (k + 1) = (headL n k).set k (hbyte n k) := by
  unfold headL
  rw [List.range_succ, List.map_append, show 128 - k = (128 - (k + 1)) + 1 by omega, List.replicate_succ, List.set_append_right _ _ (by simp)]
  simp
theorem B_hbyte (n k : Nat) : B (hbyte n k) = .int .u8 ((n : Int) / 2 ^ (56 - 8 * k) % 256) := by
  show Value.int .u8 (((UInt8.ofNat (n / 2 ^ (56 - 8 * k))).toNat : Nat) : Int) = _
  rw [UInt8.toNat_ofNat']
  simp
theorem headL_at (n : Nat) {k : Nat} (hk : k < 8) : ((headL n k).map B)[k]? = some (B 0) := by
  unfold headL
  rw [List.map_append, List.getElem?_append_right (by simp)]
  simp only [List.length_map, List.length_range, Nat.sub_self, List.map_replicate]
  rw [show 128 - k = (127 - k) + 1 by omega, List.replicate_succ]
  rfl
theorem headL_zero (k : Nat) (hk : k ≤ 128) : headL 0 k = zsec := by
  unfold headL zsec
  rw [show (128 : Nat) = k + (128 - k) by omega, ← List.replicate_append_replicate]
  congr 1
  · apply List.ext_getElem
    · simp
    · intro i h1 h2
      simp [hbyte]
  · congr 1; omega
set_option maxRecDepth 100000 in
set_option maxHeartbeats 1600000 in
theorem head_any (w : World) (a : Int) (n : Nat) (ha : a + 1 = (n : Nat)) (hn : n ≤ 1048576) :
    Calls Try.prog 32 #[.int .i64 a] w fun e w' => ∃ g, e = .returned (.slice (some ⟨g, 0, none⟩) 128 128) ∧ Buf w' g (headL n 8) ∧ w.heap.size ≤ g ∧ GrowX (fun _ => False) w w' := by
  have hmk := make128
  go_enter Try.func32, Try.ntmps32
  go_wp2_with fail
  have hg0 : GrowX (fun _ => False) w (w.alloc (.cells Z128 5)) := grow_below ((Below.refl _ _).alloc (Nat.le_refl _) _)
  have hb0 := Buf.zero w
  obtain ⟨g, hg⟩ : ∃ g, w.heap.size = g := ⟨_, rfl⟩
  rw [hg] at hb0 ⊢
  generalize w.alloc (.cells Z128 5) = w1 at *
  go_loopw [6] (fun z wr => ∃ k : Nat, k ≤ 8 ∧ z = .int .i64 k ∧ Buf wr g (headL n k) ∧ GrowX (fun _ => False) w wr) (fun z _ => 8 - (intOf z).toNat)
  case atStart => exact ⟨0, Nat.zero_le _, rfl, hb0, hg0⟩
  case round =>
    obtain ⟨k, hk, rfl, hbuf, hgw⟩ := hrel
    have HB := Lib.hid hbuf
    have HG := Lib.hid hgw
    by_cases hk8 : k < 8
    case neg =>
      obtain rfl : k = 8 := by omega
      go_wp2_with fail
      go_ret
      exact ⟨g, rfl, HB.out, by omega, HG.out⟩
    have hkb : decide ((k : Int) < 8) = true := by simp; omega
    have hcold := hbuf.cell k (B 0) (headL_at n hk8)
    have hfz := fun o => frozen_of_row' hbuf o
    have hlt := hbuf.lt
    clear hbuf hgw
    go_wp2_with fail
    rw [← B_hbyte]
    refine ⟨⟨k + 1, by omega, by simp, ?_, ?_⟩, ?_⟩
    · rw [headL_step n hk8]
      exact HB.out.set k (by rw [headL_len n (by omega)]; omega) _
    · exact HG.out.step (growX_setCell _ _ _ _) (fun q h1 h2 => by omega)
    · simp [intOf]; omega
end Go.Proofs.Ytdnjjdpenfhpeaa

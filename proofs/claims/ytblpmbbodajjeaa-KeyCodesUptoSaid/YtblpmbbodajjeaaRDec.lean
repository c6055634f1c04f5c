/- What the reference's Decode answers, for all bytes: the same as key.Decode. Conditions: at most 2^40 bytes. -/
import Derived.Test.YtblpmbbodajjeaaKDec2
namespace Go.Proofs.Ytblpmbbodajjeaa
set_option linter.unusedSimpArgs false
set_option linter.unusedVariables false
open Go.RowKit
open K (Val enc esc be8 cmpI cmpV clean txt txtAt un dec)

/-- the result of the reference's Decode -/
def gotV : Option (Val × Nat) → Value
  | some p => .agg #[.int .i64 p.1.ty, .int .i64 p.1.num, .string p.1.txt, .bool p.1.tru, .int .i64 (p.2 : Int), .bool true]
  | none => .agg #[.int .i64 0, .int .i64 0, .string ⟨#[]⟩, .bool false, .int .i64 0, .bool false]

theorem rdec_nil (ao : Option Addr) (cap : Nat) (w : World) :
    Calls Try.prog 12 #[.slice ao 0 cap] w fun e w' => e = .returned (gotV (dec [])) ∧ Below w.heap.size w w' := by
  go_enter Try.func12, Try.ntmps12
  go_wp2
  exact bodyPost_ret (v := gotV none) (by simp [results, Try.results12, go_sem, gotV]) rfl ⟨rfl, (Below.refl _ _).alloc (Nat.le_refl _) _⟩

theorem rdec_zero (b off n cap : Nat) (w : World) (hn1 : 1 ≤ n) (hb : b < w.heap.size) (c0 : UInt8) (h0 : c0 = 0)
    (hc : w.cell? ⟨b, off, none⟩ = some (.int .u8 (c0.toNat : Int))) :
    Calls Try.prog 12 #[.slice (some ⟨b, off, none⟩) n cap] w fun e w' => e = .returned (gotV (some (⟨0, 0, ⟨#[]⟩, false⟩, 1))) ∧ Below w.heap.size w w' := by
  have hb1 : ((c0.toNat : Int) == 0) = true := byte_eq h0 rfl
  clear h0
  go_enter Try.func12, Try.ntmps12
  go_wp2
  exact bodyPost_ret (v := gotV (some (⟨0, 0, ⟨#[]⟩, false⟩, 1))) (by simp [results, Try.results12, go_sem, gotV, Val.v]) rfl ⟨rfl, (Below.refl _ _).alloc (Nat.le_refl _) _⟩

theorem rdec_else (b off n cap : Nat) (w : World) (hn1 : 1 ≤ n) (hb : b < w.heap.size) (c0 : UInt8) (h0 : ¬ c0 = 0) (h1 : ¬ c0 = 1) (h2 : ¬ c0 = 2) (h3 : ¬ c0 = 3)
    (hc : w.cell? ⟨b, off, none⟩ = some (.int .u8 (c0.toNat : Int))) :
    Calls Try.prog 12 #[.slice (some ⟨b, off, none⟩) n cap] w fun e w' => e = .returned (gotV none) ∧ Below w.heap.size w w' := by
  have hb0 : ((c0.toNat : Int) == 0) = false := byte_ne h0 rfl
  have hb1 : ((c0.toNat : Int) == 1) = false := byte_ne h1 rfl
  have hb2 : ((c0.toNat : Int) == 2) = false := byte_ne h2 rfl
  have hb3 : ((c0.toNat : Int) == 3) = false := byte_ne h3 rfl
  clear h0 h1 h2 h3
  go_enter Try.func12, Try.ntmps12
  go_wp2
  exact bodyPost_ret (v := gotV none) (by simp [results, Try.results12, go_sem, gotV]) rfl ⟨rfl, (Below.refl _ _).alloc (Nat.le_refl _) _⟩

theorem rdec_short (b off n cap : Nat) (w : World) (hn1 : 1 ≤ n) (hn2 : n < 9) (hb : b < w.heap.size) (c0 : UInt8) (h0 : c0 = 1)
    (hc : w.cell? ⟨b, off, none⟩ = some (.int .u8 (c0.toNat : Int))) :
    Calls Try.prog 12 #[.slice (some ⟨b, off, none⟩) n cap] w fun e w' => e = .returned (gotV none) ∧ Below w.heap.size w w' := by
  have hb0 : ((c0.toNat : Int) == 0) = false := by rw [h0]; rfl
  have hb1 : ((c0.toNat : Int) == 1) = true := by rw [h0]; rfl
  have hb2 : ((c0.toNat : Int) == 2) = false := by rw [h0]; rfl
  have hb3 : ((c0.toNat : Int) == 3) = false := by rw [h0]; rfl
  clear h0
  go_enter Try.func12, Try.ntmps12
  go_wp2
  exact bodyPost_ret (v := gotV none) (by simp [results, Try.results12, go_sem, gotV]) rfl ⟨rfl, (Below.refl _ _).alloc (Nat.le_refl _) _⟩

theorem rdec_bool (b off n cap : Nat) (w : World) (hn1 : 2 ≤ n) (hb : b < w.heap.size) (c0 c1 : UInt8) (h0 : c0 = 3) (h1 : c1 < 2)
    (hc : w.cell? ⟨b, off, none⟩ = some (.int .u8 (c0.toNat : Int))) (hc1 : w.cell? ⟨b, off + 1, none⟩ = some (.int .u8 (c1.toNat : Int))) :
    Calls Try.prog 12 #[.slice (some ⟨b, off, none⟩) n cap] w fun e w' => e = .returned (gotV (some (⟨3, 0, ⟨#[]⟩, c1 == 1⟩, 2))) ∧ Below w.heap.size w w' := by
  have hb0 : ((c0.toNat : Int) == 0) = false := by rw [h0]; rfl
  have hb1 : ((c0.toNat : Int) == 1) = false := by rw [h0]; rfl
  have hb2 : ((c0.toNat : Int) == 2) = false := by rw [h0]; rfl
  have hb3 : ((c0.toNat : Int) == 3) = true := by rw [h0]; rfl
  have hlt : (c1.toNat : Int) < 2 := by have := UInt8.lt_iff_toNat_lt.1 h1; simp at this; omega
  obtain ⟨t, ht⟩ : ∃ t : Bool, (((c1.toNat : Int) == 1) = t) ∧ (c1 == 1) = t := by
    by_cases h : c1 = 1
    · exact ⟨true, byte_eq h rfl, by simp [h]⟩
    · exact ⟨false, byte_ne h rfl, by simp [h]⟩
  obtain ⟨ht1, ht2⟩ := ht
  have HT := Lib.hid ht2
  clear h0 h1 ht2
  go_enter Try.func12, Try.ntmps12
  go_wp2
  exact bodyPost_ret (v := gotV (some (⟨3, 0, ⟨#[]⟩, t⟩, 2))) (by simp [results, Try.results12, go_sem, gotV, Val.v]) rfl ⟨by rw [HT.out], (Below.refl _ _).alloc (Nat.le_refl _) _⟩

theorem rdec_notbool (b off n cap : Nat) (w : World) (hn1 : 1 ≤ n) (hb : b < w.heap.size) (c0 c1 : UInt8) (h0 : c0 = 3) (h1 : n < 2 ∨ ¬ c1 < 2)
    (hc : w.cell? ⟨b, off, none⟩ = some (.int .u8 (c0.toNat : Int))) (hc1 : 2 ≤ n → w.cell? ⟨b, off + 1, none⟩ = some (.int .u8 (c1.toNat : Int))) :
    Calls Try.prog 12 #[.slice (some ⟨b, off, none⟩) n cap] w fun e w' => e = .returned (gotV none) ∧ Below w.heap.size w w' := by
  have hb0 : ((c0.toNat : Int) == 0) = false := by rw [h0]; rfl
  have hb1 : ((c0.toNat : Int) == 1) = false := by rw [h0]; rfl
  have hb2 : ((c0.toNat : Int) == 2) = false := by rw [h0]; rfl
  have hb3 : ((c0.toNat : Int) == 3) = true := by rw [h0]; rfl
  clear h0
  by_cases hn2 : 2 ≤ n
  · have hc2 := hc1 hn2
    have hge : ¬ (c1.toNat : Int) < 2 := by
      rcases h1 with h | h
      · omega
      · intro h'; exact h (UInt8.lt_iff_toNat_lt.2 (by simp; omega))
    clear h1 hc1
    go_enter Try.func12, Try.ntmps12
    go_wp2
    exact bodyPost_ret (v := gotV none) (by simp [results, Try.results12, go_sem, gotV]) rfl ⟨rfl, (Below.refl _ _).alloc (Nat.le_refl _) _⟩
  · clear h1 hc1
    go_enter Try.func12, Try.ntmps12
    go_wp2
    exact bodyPost_ret (v := gotV none) (by simp [results, Try.results12, go_sem, gotV]) rfl ⟨rfl, (Below.refl _ _).alloc (Nat.le_refl _) _⟩

set_option maxRecDepth 100000 in
theorem rdec_int (b off n cap : Nat) (L : List UInt8) (w : World) (hn : n = L.length) (hn9 : 9 ≤ n) (hcap : n ≤ cap) (hb : b < w.heap.size) (c0 : UInt8) (h0 : c0 = 1)
    (hc0 : w.cell? ⟨b, off, none⟩ = some (.int .u8 (c0.toNat : Int))) (hc : ∀ j (h : j < L.length), w.cell? ⟨b, off + j, none⟩ = some (B L[j])) :
    Calls Try.prog 12 #[.slice (some ⟨b, off, none⟩) n cap] w fun e w' =>
      e = .returned (gotV (some (⟨1, (un ((L.drop 1).take 8) : Int) - 9223372036854775808, ⟨#[]⟩, false⟩, 9))) ∧ Below w.heap.size w w' := by
  have hb0 : ((c0.toNat : Int) == 0) = false := by rw [h0]; rfl
  have hb1 : ((c0.toNat : Int) == 1) = true := by rw [h0]; rfl
  have hcap1 : ¬ cap = 1 := by omega
  obtain ⟨q, hq⟩ : ∃ q, un ((L.drop 1).take 8) = q := ⟨_, rfl⟩
  have hlt8 : un ((L.drop 1).take 8) < 18446744073709551616 := by
    have h1 := K.un_lt ((L.drop 1).take 8)
    have h2 : ((L.drop 1).take 8).length ≤ 8 := List.length_take_le _ _
    have h3 : 256 ^ ((L.drop 1).take 8).length ≤ 256 ^ 8 := Nat.pow_le_pow_right (by omega) h2
    have : (256 : Nat) ^ 8 = 18446744073709551616 := by decide
    omega
  rw [hq] at hlt8 ⊢
  have HX := Lib.hid (xor_back _ hlt8)
  have HQ := Lib.hid hq
  have HN := Lib.hid hn
  have HC := Lib.hid hc
  clear h0 hn hc hq hlt8
  go_enter Try.func12, Try.ntmps12
  go_wp2
  go_loop [3, 4] (fun nn i => ∃ k : Nat, k ≤ 8 ∧ i = .int .i64 ((k : Int) + 1) ∧ nn = .int .u64 ((un ((L.drop 1).take k) : Nat) : Int)) (fun _ i => 9 - (intOf i).toNat)
  case atStart => exact ⟨0, by omega, rfl, rfl⟩
  case round =>
    obtain ⟨k, hk, rfl, rfl⟩ := hrel
    by_cases hlt : k < 8
    · have hkL : 1 + k < L.length := by rw [← HN.out]; omega
      have hck := HC.out (1 + k) hkL
      have hsm := un_small L k (by omega)
      have HS := Lib.hid (un_step L k hkL)
      rw [show off + (1 + k) = off + (k + 1) by omega] at hck
      simp only [B] at hck
      generalize un ((L.drop 1).take k) = q at *
      generalize L[1 + k] = c at *
      have hcl := c.toNat_lt
      go_wp2
      go_round
      case rel => exact ⟨k + 1, by omega, by go_num, by rw [HS.out]; go_num⟩
      case measure => simp [intOf]; omega
    · obtain rfl : k = 8 := by omega
      rw [HQ.out]
      go_wp2
      refine bodyPost_ret (v := gotV (some (⟨1, wrap64 (bits BinOp.xor IntKind.u64 (q : Int) 9223372036854775808), ⟨#[]⟩, false⟩, 9))) (by simp [results, Try.results12, go_sem, gotV]) rfl ⟨?_, (Below.refl _ _).alloc (Nat.le_refl _) _⟩
      rw [HX.out]

set_option maxRecDepth 100000 in
set_option maxHeartbeats 1600000 in
theorem rdec_text (b off n cap : Nat) (c0 : UInt8) (L : List UInt8) (w : World) (hn : n = L.length + 1) (hcap : n ≤ cap) (hmax : n ≤ 1099511627776) (hb : b < w.heap.size) (h0 : c0 = 2)
    (hc0 : w.cell? ⟨b, off, none⟩ = some (.int .u8 (c0.toNat : Int))) (hc : ∀ j (h : j < L.length), w.cell? ⟨b, off + (j + 1), none⟩ = some (B L[j])) :
    Calls Try.prog 12 #[.slice (some ⟨b, off, none⟩) n cap] w fun e w' =>
      e = .returned (gotV ((txt L).map (fun p => (⟨2, 0, ⟨p.1.toArray⟩, false⟩, p.2 + 1)))) ∧ Below w.heap.size w w' := by
  have hb0 : ((c0.toNat : Int) == 0) = false := by rw [h0]; rfl
  have hb1 : ((c0.toNat : Int) == 1) = false := by rw [h0]; rfl
  have hb2 : ((c0.toNat : Int) == 2) = true := by rw [h0]; rfl
  have hb3 : ((c0.toNat : Int) == 3) = false := by rw [h0]; rfl
  have hn1 : 1 ≤ n := by omega
  have hnz : ((n : Int) == 0) = false := by rw [beq_eq_false_iff_ne]; omega
  have HN := Lib.hid hn
  have HC := Lib.hid hc
  have hW0 : ∃ W0 : World, W0 = w.alloc (.cells #[.int .i64 0, .int .i64 0, .string ⟨#[]⟩, .bool false, .int .i64 0, .bool false] 35) := ⟨_, rfl⟩
  clear h0 hn hc
  go_enter Try.func12, Try.ntmps12
  go_wp2
  obtain ⟨W0, hW0⟩ := hW0
  have hs0 : W0.heap.size = w.heap.size + 1 := by rw [hW0]; simp
  have hB0 : Below w.heap.size w W0 := by rw [hW0]; exact (Below.refl _ _).alloc (Nat.le_refl _) _
  have hrow : W0.heap[w.heap.size]? = some (.cells #[.int .i64 0, .int .i64 0, .string ⟨#[]⟩, .bool false, .int .i64 0, .bool false] 35 (0, 0)) := by rw [hW0]; exact heap_alloc_new _ _
  rw [← hW0]
  clear hW0
  go_loopw [5, 6] (fun v i wr => ∃ (k m : Nat) (out : List UInt8), k + 1 ≤ n ∧ m ≤ k ∧ i = .int .i64 ((k : Int) + 1) ∧ txtAt L k out = txt L ∧
      wr.ownsRow W0.heap.size 5 1 v m (out.map B) ∧ Below W0.heap.size W0 wr) (fun _ i _ => n - (intOf i).toNat)
  case atStart => exact ⟨0, 0, [], by omega, by omega, rfl, K.txtAt_zero L, World.ownsRow_nil _ _ _ _, Below.refl _ _⟩
  case round =>
    obtain ⟨k, m, out, hk, hm, rfl, ht, hown, hnx⟩ := hrel
    have HT := Lib.hid ht
    have hsz := hnx.size
    have hrow2 : wr.heap[w.heap.size]? = some (.cells #[.int .i64 0, .int .i64 0, .string ⟨#[]⟩, .bool false, .int .i64 0, .bool false] 35 (0, 0)) := by rw [hnx.block _ (by omega)]; exact hrow
    have hB1 : Below w.heap.size w wr := hB0.trans (hnx.mono (by omega))
    have hcr := bcellB hB1
    have hwz : w.heap.size < wr.heap.size := by omega
    have HS0 := Lib.hid hs0
    have HROW := Lib.hid hrow2
    clear ht hs0 hrow hrow2
    by_cases hlt : k + 1 < n
    · have hkL : k < L.length := by have := HN.out; omega
      have hck := HC.out k hkL
      simp only [B] at hck
      by_cases hz : L[k] = 0
      · have hb4 : (((L[k]).toNat : Int) != 0) = false := by rw [hz]; rfl
        by_cases hlt2 : k + 2 < n
        · have hkL2 : k + 1 < L.length := by have := HN.out; omega
          have hck2 := HC.out (k + 1) hkL2
          have hq : (((k : Int) + 1 + 1) == (n : Int)) = false := by rw [beq_eq_false_iff_ne]; omega
          have hq2 : (((k : Int) + 2) == (n : Int)) = false := by rw [beq_eq_false_iff_ne]; omega
          simp only [B] at hck2
          have HT2 := Lib.hid (K.txtAt_two L out k hkL2 hz)
          by_cases hz2 : L[k+1] = 255
          · have hb5 : (((L[k+1]).toNat : Int) == 0) = false := by rw [hz2]; rfl
            have hb5n : (((L[k+1]).toNat : Int) != 0) = true := by rw [hz2]; rfl
            have hb6 : (((L[k+1]).toNat : Int) != 255) = false := by rw [hz2]; rfl
            rw [if_pos hz2] at HT2
            clear hz hz2
            go_wp2_with (first
              | (at_builtin; refine wpList_app sl_bytes (.tmp 95) (.tmp 96) rfl rfl rfl hown hnx rfl rfl (by intro u hu; simp at hu; subst hu; rfl) (by omega) (by omega) hsz (by omega) ?_; intro g1 cap1 w1 hown1 hbel1 hg1 hlt1 hcap1; have hc1 := bcellB hbel1; have hsz1 := hbel1.size))
            go_roundw
            case rel => exact ⟨k + 2, m + 1, out ++ [0], by omega, by omega, by go_num, by rw [← HT.out, HT2.out], by simpa [B] using hown1, hbel1⟩
            case measure => simp [intOf]; omega
          · by_cases hz3 : L[k+1] = 0
            · have hb5 : (((L[k+1]).toNat : Int) == 0) = true := by rw [hz3]; rfl
              have hb5n : (((L[k+1]).toNat : Int) != 0) = false := by rw [hz3]; rfl
              have hb6 : (((L[k+1]).toNat : Int) != 255) = true := by rw [hz3]; rfl
              rw [if_neg hz2, if_pos hz3] at HT2
              have hfr : ∀ o, wr.frozen? ⟨w.heap.size, o, none⟩ = false := fun o => frozen_of_row' HROW.out o
              have e0 := cell_of_row' HROW.out 0
              have e1 := cell_of_row' HROW.out 1
              have e2 := cell_of_row' HROW.out 2
              have e3 := cell_of_row' HROW.out 3
              have e4 := cell_of_row' HROW.out 4
              have e5 := cell_of_row' HROW.out 5
              simp at e0 e1 e2 e3 e4 e5
              clear hz hz2 hz3
              go_wp2_with (first
                | ((with_reducible show wpList _ _ _ _ _ _); refine wpList_str (.tmp 89) rfl rfl Try.underlying26 Try.underlying5 Try.underlying9 out rfl hown ?_))
              refine bodyPost_ret (v := .agg #[.int .i64 2, .int .i64 0, .string ⟨out.toArray⟩, .bool false, .int .i64 ((k : Int) + 1 + 2), .bool true]) (by simp [results, Try.results12, go_sem, e0, e1, e2, e3, e4, e5, hfr]) rfl ⟨?_, (((((hB1.setCell (Nat.le_refl _) _).setCell (Nat.le_refl _) _).setCell (Nat.le_refl _) _).setCell (Nat.le_refl _) _).setCell (Nat.le_refl _) _).setCell (Nat.le_refl _) _⟩
              rw [← HT.out, HT2.out]; simp [gotV]; omega
            · have hb5 : (((L[k+1]).toNat : Int) == 0) = false := byte_ne hz3 rfl
              have hb5n : (((L[k+1]).toNat : Int) != 0) = true := byte_bne hz3 rfl
              have hb6 : (((L[k+1]).toNat : Int) != 255) = true := byte_bne hz2 rfl
              rw [if_neg hz2, if_neg hz3] at HT2
              have hfr : ∀ o, wr.frozen? ⟨w.heap.size, o, none⟩ = false := fun o => frozen_of_row' HROW.out o
              have e0 := cell_of_row' HROW.out 0
              have e1 := cell_of_row' HROW.out 1
              have e2 := cell_of_row' HROW.out 2
              have e3 := cell_of_row' HROW.out 3
              have e4 := cell_of_row' HROW.out 4
              have e5 := cell_of_row' HROW.out 5
              simp at e0 e1 e2 e3 e4 e5
              clear hz hz2 hz3
              go_wp2
              refine bodyPost_ret (v := gotV none) (by simp [results, Try.results12, go_sem, gotV, e0, e1, e2, e3, e4, e5, hfr]) rfl ⟨?_, (((((hB1.setCell (Nat.le_refl _) _).setCell (Nat.le_refl _) _).setCell (Nat.le_refl _) _).setCell (Nat.le_refl _) _).setCell (Nat.le_refl _) _).setCell (Nat.le_refl _) _⟩
              rw [← HT.out, HT2.out]; rfl
        · have HT2 := Lib.hid (K.txtAt_cut L out k hkL hz (by have := HN.out; omega))
          have hq : (((k : Int) + 1 + 1) == (n : Int)) = true := by rw [beq_iff_eq]; omega
          have hq2 : (((k : Int) + 2) == (n : Int)) = true := by rw [beq_iff_eq]; omega
          have hfr : ∀ o, wr.frozen? ⟨w.heap.size, o, none⟩ = false := fun o => frozen_of_row' HROW.out o
          have e0 := cell_of_row' HROW.out 0
          have e1 := cell_of_row' HROW.out 1
          have e2 := cell_of_row' HROW.out 2
          have e3 := cell_of_row' HROW.out 3
          have e4 := cell_of_row' HROW.out 4
          have e5 := cell_of_row' HROW.out 5
          simp at e0 e1 e2 e3 e4 e5
          clear hz
          go_wp2
          refine bodyPost_ret (v := gotV none) (by simp [results, Try.results12, go_sem, gotV, e0, e1, e2, e3, e4, e5, hfr]) rfl ⟨?_, (((((hB1.setCell (Nat.le_refl _) _).setCell (Nat.le_refl _) _).setCell (Nat.le_refl _) _).setCell (Nat.le_refl _) _).setCell (Nat.le_refl _) _).setCell (Nat.le_refl _) _⟩
          rw [← HT.out, HT2.out]; rfl
      · have hb4 : (((L[k]).toNat : Int) != 0) = true := byte_bne hz rfl
        have HT2 := Lib.hid (K.txtAt_plain L out k hkL hz)
        clear hz
        go_wp2_with (first
          | (at_builtin; refine wpList_app sl_bytes (.tmp 54) (.tmp 59) rfl rfl rfl hown hnx rfl rfl (by intro u hu; simp at hu; subst hu; rfl) (by omega) (by omega) hsz (by omega) ?_; intro g1 cap1 w1 hown1 hbel1 hg1 hlt1 hcap1; have hc1 := bcellB hbel1; have hsz1 := hbel1.size))
        go_roundw
        case rel => exact ⟨k + 1, m + 1, out ++ [L[k]], by omega, by omega, by go_num, by rw [← HT.out, HT2.out], by simpa [B] using hown1, hbel1⟩
        case measure => simp [intOf]; omega
    · have HT2 := Lib.hid (K.txtAt_end L out k (by have := HN.out; omega))
      have hfr : ∀ o, wr.frozen? ⟨w.heap.size, o, none⟩ = false := fun o => frozen_of_row' HROW.out o
      have e0 := cell_of_row' HROW.out 0
      have e1 := cell_of_row' HROW.out 1
      have e2 := cell_of_row' HROW.out 2
      have e3 := cell_of_row' HROW.out 3
      have e4 := cell_of_row' HROW.out 4
      have e5 := cell_of_row' HROW.out 5
      simp at e0 e1 e2 e3 e4 e5
      go_wp2
      refine bodyPost_ret (v := gotV none) (by simp [results, Try.results12, go_sem, gotV, e0, e1, e2, e3, e4, e5, hfr]) rfl ⟨?_, (((((hB1.setCell (Nat.le_refl _) _).setCell (Nat.le_refl _) _).setCell (Nat.le_refl _) _).setCell (Nat.le_refl _) _).setCell (Nat.le_refl _) _).setCell (Nat.le_refl _) _⟩
      rw [← HT.out, HT2.out]; rfl

/-- every slice of bytes -/
theorem rdec_any (ao : Option Addr) (n cap : Nat) (L : List UInt8) (w : World) (hn : n = L.length) (hcap : n ≤ cap) (hmax : n ≤ 1099511627776)
    (ha : 0 < n → ∃ b off, ao = some ⟨b, off, none⟩ ∧ b < w.heap.size ∧ ∀ j (h : j < L.length), w.cell? ⟨b, off + j, none⟩ = some (B L[j])) :
    Calls Try.prog 12 #[.slice ao n cap] w fun e w' => e = .returned (gotV (dec L)) ∧ Below w.heap.size w w' := by
  match L with
  | [] => simp at hn; subst hn; exact rdec_nil ao cap w
  | c0 :: l =>
    obtain ⟨b, off, rfl, hb, hc⟩ := ha (by simp at hn; omega)
    have hc0 : w.cell? ⟨b, off, none⟩ = some (.int .u8 (c0.toNat : Int)) := hc 0 (by simp)
    have hn' : n = l.length + 1 := by simpa using hn
    by_cases h0 : c0 = 0
    · rw [show dec (c0 :: l) = some (⟨0, 0, ⟨#[]⟩, false⟩, 1) by simp [dec, h0]]
      exact rdec_zero b off n cap w (by omega) hb c0 h0 hc0
    by_cases h1 : c0 = 1
    · by_cases h9 : 9 ≤ n
      · rw [show dec (c0 :: l) = some (⟨1, (un (((c0 :: l).drop 1).take 8) : Int) - 9223372036854775808, ⟨#[]⟩, false⟩, 9) by simp [dec, h1]; omega]
        exact rdec_int b off n cap (c0 :: l) w hn h9 hcap hb c0 h1 hc0 hc
      · rw [show dec (c0 :: l) = none by simp [dec, h1]; omega]
        exact rdec_short b off n cap w (by omega) (by omega) hb c0 h1 hc0
    by_cases h2 : c0 = 2
    · rw [show dec (c0 :: l) = (txt ((c0 :: l).drop 1)).map (fun p => (⟨2, 0, ⟨p.1.toArray⟩, false⟩, p.2 + 1)) by simp [dec, h2]]
      exact rdec_text b off n cap c0 l w hn' hcap hmax hb h2 hc0 (fun j hj => by have := hc (j + 1) (by simp; omega); simpa [Nat.add_comm, Nat.add_left_comm, Nat.add_assoc] using this)
    by_cases h3 : c0 = 3
    · by_cases h4 : 1 ≤ l.length ∧ (l.getD 0 0) < 2
      · match l, h4 with
        | c1 :: r, h4 =>
          rw [show dec (c0 :: c1 :: r) = some (⟨3, 0, ⟨#[]⟩, c1 == 1⟩, 2) by simp [dec, h3] at h4 ⊢; exact h4]
          exact rdec_bool b off n cap w (by simp at hn; omega) hb c0 c1 h3 (by simpa using h4.2) hc0 (hc 1 (by simp))
      · rw [show dec (c0 :: l) = none by rw [dec, if_neg h0, if_neg h1, if_neg h2, if_pos h3, if_neg h4]]
        refine rdec_notbool b off n cap w (by omega) hb c0 (l.getD 0 0) h3 ?_ hc0 ?_
        · by_cases hl : 1 ≤ l.length
          · exact .inr (fun h => h4 ⟨hl, h⟩)
          · exact .inl (by omega)
        · intro h
          match l, hc, h4 with
          | c1 :: r, hc, _ => exact hc 1 (by simp)
          | [], _, _ => simp at hn; omega
    · rw [show dec (c0 :: l) = none by simp [dec, h0, h1, h2, h3]]
      exact rdec_else b off n cap w (by omega) hb c0 h0 h1 h2 h3 hc0

end Go.Proofs.Ytblpmbbodajjeaa

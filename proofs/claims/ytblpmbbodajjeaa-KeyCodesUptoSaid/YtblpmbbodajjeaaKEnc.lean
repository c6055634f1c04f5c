/- What key.Encode answers, for every value. Conditions: the numbers are int64, the text is at most 2^40 bytes. -/
import Derived.Test.YtblpmbbodajjeaaRows
import Derived.Test.YtblpmbbodajjeaaKPlain
import Derived.Outline
namespace Go.Proofs.Ytblpmbbodajjeaa
set_option linter.unusedSimpArgs false
set_option linter.unusedVariables false
open Go.RowKit
open K (Val enc esc be8)

theorem sl_bytes : SliceOf Try.prog 26 5 (.int .u8 0) 1 1 := ⟨Try.underlying26, by kernel_rfl, rfl, by decide⟩
theorem info_u8 : (Try.prog.info? 5).map (fun i => (i.zero, i.size, i.bytes)) = some (some (.int .u8 0), 1, 1) := by kernel_rfl

theorem xor_i64 (n : Int) (h1 : -9223372036854775808 ≤ n) (h2 : n ≤ 9223372036854775807) :
    bits BinOp.xor IntKind.u64 (IntKind.u64.wrap n) 9223372036854775808 = n + 9223372036854775808 := by
  obtain ⟨m, hm, hlt⟩ : ∃ m : Nat, IntKind.u64.wrap n = (m : Int) ∧ m < 18446744073709551616 ∧ ((m : Int) = n ∨ (m : Int) = n + 18446744073709551616) := by
    refine ⟨(n % 18446744073709551616).toNat, ?_, by omega, by omega⟩
    simp [IntKind.wrap, IntKind.signed, IntKind.bits]; omega
  obtain ⟨hlt, hor⟩ := hlt
  have hz := K.xor_top m hlt
  have hb : bits BinOp.xor IntKind.u64 (m : Int) 9223372036854775808 = ((m ^^^ 9223372036854775808 : Nat) : Int) := by
    have h3 : m ^^^ 9223372036854775808 < 18446744073709551616 := Nat.xor_lt_two_pow (n := 64) hlt (by omega)
    have e1 : (BitVec.ofInt 64 (m : Int) ^^^ BitVec.ofInt 64 9223372036854775808).toNat = m ^^^ 9223372036854775808 := by
      rw [BitVec.toNat_xor, BitVec.ofInt_natCast, BitVec.toNat_ofNat, Nat.mod_eq_of_lt hlt]; rfl
    show IntKind.u64.wrap ((BitVec.ofInt 64 (m : Int) ^^^ BitVec.ofInt 64 9223372036854775808).toNat : Int) = _
    rw [e1]
    generalize m ^^^ 9223372036854775808 = q at *
    simp [IntKind.wrap, IntKind.signed, IntKind.bits]; omega
  rw [hm, hb, hz]
  split <;> omega

set_option maxRecDepth 100000 in
theorem enc_int (n : Int) (s : ByteArray) (b : Bool) (w : World) (h1 : -9223372036854775808 ≤ n) (h2 : n ≤ 9223372036854775807) :
    Calls Try.prog 7 #[.agg #[.int .i64 1, .int .i64 n, .string s, .bool b]] w fun e w' =>
      RetRow 5 1 w.heap.size w e w' ((enc ⟨1, n, s, b⟩).map B) := by
  have hx := xor_i64 n h1 h2
  obtain ⟨u, hu⟩ : ∃ u : Nat, (u : Int) = n + 9223372036854775808 := ⟨(n + 9223372036854775808).toNat, by omega⟩
  have hue : enc ⟨1, n, s, b⟩ = 1 :: be8 u := by simp [enc, ← hu]
  rw [← hu] at hx
  have HUE := Lib.hid hue
  clear hu hue h1 h2
  go_enter Try.func7, Try.ntmps7
  go_wp2
  refine wp_loop_rounds 9 ?_
  repeat any_goals (rw [rounds_succ]; go_wp2)
  go_ret
  rw [HUE.out]
  exact ⟨_, 9, 9, rfl, own_lit (by simp) (by omega) rfl (by simp [be8, K.ofNat_B]; rfl) (by omega), ((Below.refl _ _).alloc (Nat.le_refl _) _).alloc (by simp) _⟩

theorem enc_else (t n : Int) (s : ByteArray) (b : Bool) (w : World) (h1 : ¬ t = 1) (h2 : ¬ t = 2) (h3 : ¬ t = 3) :
    Calls Try.prog 7 #[.agg #[.int .i64 t, .int .i64 n, .string s, .bool b]] w fun e w' =>
      RetRow 5 1 w.heap.size w e w' ((enc ⟨t, n, s, b⟩).map B) := by
  have hue : enc ⟨t, n, s, b⟩ = [0] := by simp [enc, h1, h2, h3]
  have HUE := Lib.hid hue
  clear hue
  go_enter Try.func7, Try.ntmps7
  go_wp2
  go_ret
  rw [HUE.out]
  exact ⟨_, 1, 1, rfl, own_lit (by simp) (by omega) rfl rfl (by omega), ((Below.refl _ _).alloc (Nat.le_refl _) _).alloc (by simp) _⟩

theorem enc_bool (n : Int) (s : ByteArray) (b : Bool) (w : World) :
    Calls Try.prog 7 #[.agg #[.int .i64 3, .int .i64 n, .string s, .bool b]] w fun e w' =>
      RetRow 5 1 w.heap.size w e w' ((enc ⟨3, n, s, b⟩).map B) := by
  have hue : enc ⟨3, n, s, b⟩ = [3, if b then 1 else 0] := by simp [enc]
  have HUE := Lib.hid hue
  clear hue
  cases b
  all_goals
    go_enter Try.func7, Try.ntmps7
    go_wp2
    go_ret
    rw [HUE.out]
    exact ⟨_, 2, 2, rfl, own_lit (by simp) (by omega) rfl rfl (by omega), ((Below.refl _ _).alloc (Nat.le_refl _) _).alloc (by simp) _⟩

set_option maxRecDepth 100000 in
set_option maxHeartbeats 1600000 in
theorem enc_text (n : Int) (s : ByteArray) (b : Bool) (w : World) (hs : s.size ≤ 1099511627776) :
    Calls Try.prog 7 #[.agg #[.int .i64 2, .int .i64 n, .string s, .bool b]] w fun e w' =>
      RetRow 5 1 w.heap.size w e w' ((enc ⟨2, n, s, b⟩).map B) := by
  have hW0 : ∃ W0 : World, W0 = w.alloc (.cells #[.int .i64 2, .int .i64 n, .string s, .bool b] 23) := ⟨_, rfl⟩
  have HE : Hid (enc ⟨2, n, s, b⟩ = 2 :: (esc s.data.toList ++ [0, 0])) := rfl
  go_enter Try.func7, Try.ntmps7
  go_wp2
  obtain ⟨W0, hW0⟩ := hW0
  have hcT : W0.cell? ⟨w.heap.size, 2, none⟩ = some (.string s) := by rw [hW0]; simp
  have hs0 : W0.heap.size = w.heap.size + 1 := by rw [hW0]; simp
  have hB0 : Below w.heap.size w W0 := by rw [hW0]; exact (Below.refl _ _).alloc (Nat.le_refl _) _
  rw [← hW0, ← hs0]
  clear hW0
  go_loopw [6, 38] (fun v i wr => ∃ k m g cap : Nat, k ≤ s.size ∧ i = .int .i64 k ∧ v = .slice (some ⟨g, 0, none⟩) m cap ∧ 0 < m ∧ m ≤ 1 + 2 * k ∧
      wr.ownsRow W0.heap.size 5 1 (.slice (some ⟨g, 0, none⟩) m cap) m ((2 :: esc (s.data.toList.take k)).map B) ∧ Below W0.heap.size W0 wr) (fun _ i _ => s.size - (intOf i).toNat)
  case atStart => exact ⟨0, 1, W0.heap.size, 1, Nat.zero_le _, rfl, rfl, by omega, by omega, own_lit (by simp) (by omega) rfl rfl (by omega), (Below.refl _ _).alloc (Nat.le_refl _) _⟩
  case round =>
    obtain ⟨k, m, g, cap, hk, rfl, rfl, hm0, hm, hown, hnx⟩ := hrel
    have hsz := hnx.size
    have hs1 : w.heap.size < W0.heap.size := by omega
    have HS0 := Lib.hid hs0
    clear hs0
    have hc0 := bcellB hnx
    by_cases hlt : k < s.size
    · have hT := K.esc_take s k hlt
      by_cases hz : s[k] = 0
      · rw [if_pos hz] at hT
        have HT := Lib.hid hT
        have hb1 : (((s[k]).toNat : Int) == 0) = true := by rw [hz]; rfl
        have HZ := Lib.hid hz
        clear hT hz
        go_wp2_with (first
          | (at_builtin; refine wpList_app sl_bytes (.tmp 41) (.tmp 46) rfl rfl rfl hown hnx rfl rfl (by intro u hu; simp at hu; subst hu; rfl) (by omega) (by omega) hsz (by omega) ?_; intro g1 cap1 w1 hown1 hbel1 hg1 hlt1 hcap1; have hc1 := bcellB hbel1; have hsz1 := hbel1.size)
          | (at_builtin; refine wpList_app sl_bytes (.tmp 53) (.tmp 54) rfl rfl rfl hown1 hbel1 rfl rfl (by intro u hu; simp at hu; subst hu; rfl) (by omega) (by omega) hsz1 (by omega) ?_; intro g2 cap2 w2 hown2 hbel2 hg2 hlt2 hcap2; have hc2 := bcellB hbel2; have hsz2 := hbel2.size))
        go_roundw
        case rel => exact ⟨k + 1, m + 1 + 1, g2, cap2, by omega, by go_num, rfl, by omega, by omega, by rw [HT.out]; simpa [B, HZ.out] using hown2, hbel2⟩
        case measure => simp [intOf]; omega
      · rw [if_neg hz] at hT
        have HT := Lib.hid hT
        have hb1 : (((s[k]).toNat : Int) == 0) = false := by
          rw [beq_eq_false_iff_ne]; intro h; exact hz (UInt8.toNat_inj.1 (by simpa using h))
        clear hT hz
        go_wp2_with (first
          | (at_builtin; refine wpList_app sl_bytes (.tmp 41) (.tmp 46) rfl rfl rfl hown hnx rfl rfl (by intro u hu; simp at hu; subst hu; rfl) (by omega) (by omega) hsz (by omega) ?_; intro g1 cap1 w1 hown1 hbel1 hg1 hlt1 hcap1; have hc1 := bcellB hbel1; have hsz1 := hbel1.size))
        go_roundw
        case rel => exact ⟨k + 1, m + 1, g1, cap1, by omega, by go_num, rfl, by omega, by omega, by rw [HT.out]; simpa [B] using hown1, hbel1⟩
        case measure => simp [intOf]; omega
    · obtain rfl : k = s.size := by omega
      go_wp2_with (first
          | (at_builtin; refine wpList_app sl_bytes (.tmp 57) (.tmp 58) rfl rfl rfl hown hnx rfl rfl (by intro u hu; simp at hu; subst hu; rfl) (by omega) (by omega) hsz (by omega) ?_; intro g1 cap1 w1 hown1 hbel1 hg1 hlt1 hcap1; have hc1 := bcellB hbel1; have hsz1 := hbel1.size))
      go_ret
      rw [HE.out]
      refine ⟨g1, m + 2, cap1, rfl, own_base (by simpa [B, List.take_of_length_le] using hown1) (by omega), hB0.trans (hbel1.mono (by omega))⟩

theorem enc_any (t n : Int) (s : ByteArray) (b : Bool) (w : World) (h1 : -9223372036854775808 ≤ n) (h2 : n ≤ 9223372036854775807) (hs : s.size ≤ 1099511627776) :
    Calls Try.prog 7 #[.agg #[.int .i64 t, .int .i64 n, .string s, .bool b]] w fun e w' =>
      RetRow 5 1 w.heap.size w e w' ((enc ⟨t, n, s, b⟩).map B) := by
  by_cases e1 : t = 1
  · subst e1; exact enc_int n s b w h1 h2
  by_cases e2 : t = 2
  · subst e2; exact enc_text n s b w hs
  by_cases e3 : t = 3
  · subst e3; exact enc_bool n s b w
  exact enc_else t n s b w e1 e2 e3
end Go.Proofs.Ytblpmbbodajjeaa

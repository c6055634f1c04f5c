/- What key.Decode answers: numbers, texts, and all together. Conditions: at most 2^40 bytes. -/
import Derived.Test.YtblpmbbodajjeaaKDec
namespace Go.Proofs.Ytblpmbbodajjeaa
set_option linter.unusedSimpArgs false
set_option linter.unusedVariables false
open Go.RowKit
open K (Val enc esc be8 cmpI cmpV clean txt txtAt un dec)

theorem un_step (L : List UInt8) (k : Nat) (h : 1 + k < L.length) : un ((L.drop 1).take (k + 1)) = un ((L.drop 1).take k) * 256 + (L[1 + k]).toNat := by
  have h2 : k < (L.drop 1).length := by simp; omega
  rw [List.take_succ_eq_append_getElem h2, K.un_snoc]
  simp [Nat.add_comm]

theorem or_byte2 (n : Nat) (c : UInt8) (h : n < 72057594037927936) : bits BinOp.or IntKind.u64 ((n : Int) * 256) (IntKind.u64.wrap (c.toNat : Int)) = ((n * 256 + c.toNat : Nat) : Int) := by
  have hc := c.toNat_lt
  have e0 : IntKind.u64.wrap ((n : Int) * 256) = (n : Int) * 256 := by simp [IntKind.wrap, IntKind.signed, IntKind.bits]; omega
  have e1 : IntKind.u64.wrap (c.toNat : Int) = (c.toNat : Int) := by simp [IntKind.wrap, IntKind.signed, IntKind.bits]; omega
  rw [e1, ← or_byte n c h, e0]

theorem un_small (L : List UInt8) (k : Nat) (hk : k ≤ 7) : un ((L.drop 1).take k) < 72057594037927936 := by
  have h1 := K.un_lt ((L.drop 1).take k)
  have h2 : ((L.drop 1).take k).length ≤ 7 := Nat.le_trans (List.length_take_le _ _) hk
  have h3 : 256 ^ ((L.drop 1).take k).length ≤ 256 ^ 7 := Nat.pow_le_pow_right (by omega) h2
  have : (256 : Nat) ^ 7 = 72057594037927936 := by decide
  omega

theorem xor_back (n : Nat) (h : n < 18446744073709551616) : wrap64 (bits BinOp.xor IntKind.u64 (n : Int) 9223372036854775808) = (n : Int) - 9223372036854775808 := by
  have hz := K.xor_top n h
  have h3 : n ^^^ 9223372036854775808 < 18446744073709551616 := Nat.xor_lt_two_pow (n := 64) h (by omega)
  have e1 : (BitVec.ofInt 64 (n : Int) ^^^ BitVec.ofInt 64 9223372036854775808).toNat = n ^^^ 9223372036854775808 := by
    rw [BitVec.toNat_xor, BitVec.ofInt_natCast, BitVec.toNat_ofNat, Nat.mod_eq_of_lt h]; rfl
  have hb : bits BinOp.xor IntKind.u64 (n : Int) 9223372036854775808 = ((n ^^^ 9223372036854775808 : Nat) : Int) := by
    show IntKind.u64.wrap ((BitVec.ofInt 64 (n : Int) ^^^ BitVec.ofInt 64 9223372036854775808).toNat : Int) = _
    rw [e1]
    generalize n ^^^ 9223372036854775808 = q at *
    simp [IntKind.wrap, IntKind.signed, IntKind.bits]; omega
  rw [hb, hz]
  split
  · unfold wrap64; omega
  · unfold wrap64; omega

set_option maxRecDepth 100000 in
theorem dec_int (b off n cap : Nat) (L : List UInt8) (w : World) (hn : n = L.length) (hn9 : 9 ≤ n) (hcap : n ≤ cap) (hb : b < w.heap.size) (c0 : UInt8) (h0 : c0 = 1)
    (hc0 : w.cell? ⟨b, off, none⟩ = some (.int .u8 (c0.toNat : Int))) (hc : ∀ j (h : j < L.length), w.cell? ⟨b, off + j, none⟩ = some (B L[j])) :
    Calls Try.prog 11 #[.slice (some ⟨b, off, none⟩) n cap] w fun e w' =>
      e = .returned (decV (some (⟨1, (un ((L.drop 1).take 8) : Int) - 9223372036854775808, ⟨#[]⟩, false⟩, 9))) ∧ Below w.heap.size w w' := by
  have hb0 : ((c0.toNat : Int) == 0) = false := by rw [h0]; rfl
  have hb1 : ((c0.toNat : Int) == 1) = true := by rw [h0]; rfl
  have hcap1 : ¬ cap = 1 := by omega
  obtain ⟨q, hq⟩ : ∃ q, un ((L.drop 1).take 8) = q := ⟨_, rfl⟩
  have hlt8 : un ((L.drop 1).take 8) < 18446744073709551616 := by
    have h1 := K.un_lt ((L.drop 1).take 8)
    have h2 : ((L.drop 1).take 8).length ≤ 8 := List.length_take_le _ _
    have h3 : 256 ^ ((L.drop 1).take 8).length ≤ 256 ^ 8 := Nat.pow_le_pow_right (by omega) h2
    have : (256 : Nat) ^ 8 = 18446744073709551616 := by decide
    omega
  rw [hq] at hlt8 ⊢
  have HX := Lib.hid (xor_back _ hlt8)
  have HQ := Lib.hid hq
  have HN := Lib.hid hn
  have HC := Lib.hid hc
  clear h0 hn hc hq hlt8
  go_enter Try.func11, Try.ntmps11
  go_wp2
  go_loop [5, 34] (fun nn i => ∃ k : Nat, k ≤ 8 ∧ i = .int .i64 k ∧ nn = .int .u64 ((un ((L.drop 1).take k) : Nat) : Int)) (fun _ i => 8 - (intOf i).toNat)
  case atStart => exact ⟨0, by omega, rfl, rfl⟩
  case round =>
    obtain ⟨k, hk, rfl, rfl⟩ := hrel
    by_cases hlt : k < 8
    · have hkL : 1 + k < L.length := by rw [← HN.out]; omega
      have hck := HC.out (1 + k) hkL
      have hsm := un_small L k (by omega)
      have HU := Lib.hid (or_byte2 (un ((L.drop 1).take k)) L[1 + k] hsm)
      have HS := Lib.hid (un_step L k hkL)
      rw [show off + (1 + k) = off + 1 + k by omega] at hck
      simp only [B] at hck
      generalize un ((L.drop 1).take k) = q at *
      generalize L[1 + k] = c at *
      go_wp2
      go_round
      case rel => exact ⟨k + 1, by omega, by go_num, by rw [HS.out]; exact congrArg (Value.int IntKind.u64) HU.out⟩
      case measure => simp [intOf]; omega
    · obtain rfl : k = 8 := by omega
      rw [HQ.out]
      go_wp2
      refine bodyPost_ret (v := decV (some (⟨1, wrap64 (bits BinOp.xor IntKind.u64 (q : Int) 9223372036854775808), ⟨#[]⟩, false⟩, 9))) (by simp [results, Try.results11, go_sem, decV, Val.v]) rfl ⟨?_, (Below.refl _ _).alloc (Nat.le_refl _) _⟩
      rw [HX.out]

theorem dec_text (b off n cap : Nat) (L : List UInt8) (w : World) (hn : n = L.length) (hn1 : 1 ≤ n) (hcap : n ≤ cap) (hmax : n ≤ 1099511627776) (hb : b < w.heap.size) (c0 : UInt8) (h0 : c0 = 2)
    (hc0 : w.cell? ⟨b, off, none⟩ = some (.int .u8 (c0.toNat : Int))) (hc : ∀ j (h : j < L.length), w.cell? ⟨b, off + j, none⟩ = some (B L[j])) :
    Calls Try.prog 11 #[.slice (some ⟨b, off, none⟩) n cap] w fun e w' =>
      e = .returned (decV ((txt (L.drop 1)).map (fun p => (⟨2, 0, ⟨p.1.toArray⟩, false⟩, p.2 + 1)))) ∧ Below w.heap.size w w' := by
  have hb0 : ((c0.toNat : Int) == 0) = false := by rw [h0]; rfl
  have hb1 : ((c0.toNat : Int) == 1) = false := by rw [h0]; rfl
  have hb2 : ((c0.toNat : Int) == 2) = true := by rw [h0]; rfl
  have hb3 : ((c0.toNat : Int) == 3) = false := by rw [h0]; rfl
  have hcall : ∀ (w1 : World), Below w.heap.size w w1 → ∀ off1 m c1, m = n - 1 → (¬ cap = 1 → off1 = off + 1) →
      Calls Try.prog 23 #[.slice (some ⟨b, off1, none⟩) m c1] w1 fun e w' => e = .returned (txtV (txt (L.drop 1))) ∧ Below w1.heap.size w1 w' := by
    intro w1 hw1 off1 m c1 hm ho
    have hs1 := hw1.size
    refine (text_any b off1 m c1 (L.drop 1) w1 (by simp; omega) (by omega) (by omega) (fun j hj => ?_))
    simp at hj
    have hcap1 : ¬ cap = 1 := by omega
    rw [ho hcap1, hw1.cell (p := ⟨b, off + 1 + j, none⟩) hb, show off + 1 + j = off + (1 + j) by omega, hc (1 + j) (by omega)]
    simp [Nat.add_comm]
  have hle : ∀ p, txt (L.drop 1) = some p → p.2 ≤ 1099511627776 := by
    intro p hp
    have := (K.txt_le _ _ _ (Nat.le_refl _) hp).1
    simp at this; omega
  have HN := Lib.hid hn
  have HC := Lib.hid hcall
  clear h0 hn hc hcall
  obtain ⟨t, ht⟩ : ∃ t, t = txt (L.drop 1) := ⟨_, rfl⟩
  rw [← ht] at HC hle ⊢
  clear ht HN
  have fin : ∀ o, Below w.heap.size w (w.alloc o) := fun o => (Below.refl _ _).alloc (Nat.le_refl _) _
  have fin2 : ∀ (w' : World) (C : Array Value), Below (w.alloc (.cells C 23)).heap.size (w.alloc (.cells C 23)) w' → ∀ v0 v1 v2 v3, Below w.heap.size w ((((w'.setCell ⟨w.heap.size, 0, none⟩ v0).setCell ⟨w.heap.size, 1, none⟩ v1).setCell ⟨w.heap.size, 2, none⟩ v2).setCell ⟨w.heap.size, 3, none⟩ v3) :=
    fun w' C h v0 v1 v2 v3 => ((((((fin _).trans (h.mono (by simp))).setCell (Nat.le_refl _) _).setCell (Nat.le_refl _) _).setCell (Nat.le_refl _) _).setCell (Nat.le_refl _) _)
  have FIN := Lib.hid fin
  have FIN2 := Lib.hid fin2
  clear fin fin2
  by_cases hcap1 : cap = 1
  · obtain rfl : n = 1 := by omega
    subst hcap1
    cases t with
    | none =>
      go_enter Try.func11, Try.ntmps11
      go_wp2_with (go_at_call 23; refine (HC.out _ (FIN.out _) _ _ _ rfl (fun h => absurd rfl h)).mono ?_; rintro e w' ⟨rfl, hbel⟩; simp only [txtV]; have hc1 := bcell hbel; have hz1 : w.heap.size < w'.heap.size := (by have := hbel.size; simp at this; omega))
      exact bodyPost_ret (v := decV none) (by simp [results, Try.results11, go_sem, decV, hc1]) rfl ⟨rfl, FIN2.out _ _ hbel _ _ _ _⟩
    | some p =>
      have hp := hle p rfl
      clear hle
      go_enter Try.func11, Try.ntmps11
      go_wp2_with (go_at_call 23; refine (HC.out _ (FIN.out _) _ _ _ rfl (fun h => absurd rfl h)).mono ?_; rintro e w' ⟨rfl, hbel⟩; simp only [txtV]; have hc1 := bcell hbel; have hz1 : w.heap.size < w'.heap.size := (by have := hbel.size; simp at this; omega))
      exact bodyPost_ret (v := decV (some (⟨2, 0, ⟨p.1.toArray⟩, false⟩, p.2 + 1))) (by simp [results, Try.results11, go_sem, decV, Val.v, hc1]) rfl ⟨rfl, FIN2.out _ _ hbel _ _ _ _⟩
  · cases t with
    | none =>
      go_enter Try.func11, Try.ntmps11
      go_wp2_with (go_at_call 23; refine (HC.out _ (FIN.out _) _ _ _ rfl (fun _ => rfl)).mono ?_; rintro e w' ⟨rfl, hbel⟩; simp only [txtV]; have hc1 := bcell hbel; have hz1 : w.heap.size < w'.heap.size := (by have := hbel.size; simp at this; omega))
      exact bodyPost_ret (v := decV none) (by simp [results, Try.results11, go_sem, decV, hc1]) rfl ⟨rfl, FIN2.out _ _ hbel _ _ _ _⟩
    | some p =>
      have hp := hle p rfl
      clear hle
      go_enter Try.func11, Try.ntmps11
      go_wp2_with (go_at_call 23; refine (HC.out _ (FIN.out _) _ _ _ rfl (fun _ => rfl)).mono ?_; rintro e w' ⟨rfl, hbel⟩; simp only [txtV]; have hc1 := bcell hbel; have hz1 : w.heap.size < w'.heap.size := (by have := hbel.size; simp at this; omega))
      exact bodyPost_ret (v := decV (some (⟨2, 0, ⟨p.1.toArray⟩, false⟩, p.2 + 1))) (by simp [results, Try.results11, go_sem, decV, Val.v, hc1]) rfl ⟨rfl, FIN2.out _ _ hbel _ _ _ _⟩

/-- every slice of bytes -/
theorem dec_any (ao : Option Addr) (n cap : Nat) (L : List UInt8) (w : World) (hn : n = L.length) (hcap : n ≤ cap) (hmax : n ≤ 1099511627776)
    (ha : 0 < n → ∃ b off, ao = some ⟨b, off, none⟩ ∧ b < w.heap.size ∧ ∀ j (h : j < L.length), w.cell? ⟨b, off + j, none⟩ = some (B L[j])) :
    Calls Try.prog 11 #[.slice ao n cap] w fun e w' => e = .returned (decV (dec L)) ∧ Below w.heap.size w w' := by
  match L with
  | [] => simp at hn; subst hn; exact dec_nil ao cap w
  | c0 :: l =>
    obtain ⟨b, off, rfl, hb, hc⟩ := ha (by simp at hn; omega)
    have hc0 : w.cell? ⟨b, off, none⟩ = some (.int .u8 (c0.toNat : Int)) := hc 0 (by simp)
    have hn' : n = l.length + 1 := by simpa using hn
    by_cases h0 : c0 = 0
    · rw [show dec (c0 :: l) = some (⟨0, 0, ⟨#[]⟩, false⟩, 1) by simp [dec, h0]]
      exact dec_zero b off n cap w (by omega) hb c0 h0 hc0
    by_cases h1 : c0 = 1
    · by_cases h9 : 9 ≤ n
      · rw [show dec (c0 :: l) = some (⟨1, (un (((c0 :: l).drop 1).take 8) : Int) - 9223372036854775808, ⟨#[]⟩, false⟩, 9) by simp [dec, h1]; omega]
        exact dec_int b off n cap (c0 :: l) w hn h9 hcap hb c0 h1 hc0 hc
      · rw [show dec (c0 :: l) = none by simp [dec, h1]; omega]
        exact dec_short b off n cap w (by omega) (by omega) hb c0 h1 hc0
    by_cases h2 : c0 = 2
    · rw [show dec (c0 :: l) = (txt ((c0 :: l).drop 1)).map (fun p => (⟨2, 0, ⟨p.1.toArray⟩, false⟩, p.2 + 1)) by simp [dec, h2]]
      exact dec_text b off n cap (c0 :: l) w hn (by omega) hcap hmax hb c0 h2 hc0 hc
    by_cases h3 : c0 = 3
    · by_cases h4 : 1 ≤ l.length ∧ (l.getD 0 0) < 2
      · match l, h4 with
        | c1 :: r, h4 =>
          rw [show dec (c0 :: c1 :: r) = some (⟨3, 0, ⟨#[]⟩, c1 == 1⟩, 2) by simp [dec, h3] at h4 ⊢; exact h4]
          exact dec_bool b off n cap w (by simp at hn; omega) hb c0 c1 h3 (by simpa using h4.2) hc0 (hc 1 (by simp))
      · rw [show dec (c0 :: l) = none by rw [dec, if_neg h0, if_neg h1, if_neg h2, if_pos h3, if_neg h4]]
        refine dec_notbool b off n cap w (by omega) hb c0 (l.getD 0 0) h3 ?_ hc0 ?_
        · by_cases hl : 1 ≤ l.length
          · exact .inr (fun h => h4 ⟨hl, h⟩)
          · exact .inl (by omega)
        · intro h
          match l, hc, h4 with
          | c1 :: r, hc, _ => exact hc 1 (by simp)
          | [], _, _ => simp at hn; omega
    · rw [show dec (c0 :: l) = none by simp [dec, h0, h1, h2, h3]]
      exact dec_else b off n cap w (by omega) hb c0 h0 h1 h2 h3 hc0

theorem dec_reads (ao : Option Addr) (n cap : Nat) (L : List UInt8) (w : World) (hmax : n ≤ 1099511627776) (hr : Reads 1 w (.slice ao n cap) n (L.map B)) :
    Calls Try.prog 11 #[.slice ao n cap] w fun e w' => e = .returned (decV (dec L)) ∧ Below w.heap.size w w' := by
  obtain ⟨ao', cap', he, hl, hle, h⟩ := hr
  injection he with h1 _ h3
  subst h1 h3
  refine dec_any ao n cap L w (by simpa using hl.symm) hle hmax (fun hn => ?_)
  obtain ⟨b, off, hb1, hb2, hb3⟩ := h hn
  exact ⟨b, off, hb1, hb2, fun j hj => hb3 j _ (by rw [List.getElem?_map, List.getElem?_eq_getElem hj]; rfl)⟩

end Go.Proofs.Ytblpmbbodajjeaa

/- What key.Decode answers, for all bytes. Conditions: at most 2^40 bytes. -/
import Derived.Test.YtblpmbbodajjeaaKText
namespace Go.Proofs.Ytblpmbbodajjeaa
set_option linter.unusedSimpArgs false
set_option linter.unusedVariables false
open Go.RowKit
open K (Val enc esc be8 cmpI cmpV clean txt txtAt un dec)

/-- the three results of Decode -/
def decV : Option (Val × Nat) → Value
  | some p => .tuple #[p.1.v, .int .i64 (p.2 : Int), .bool true]
  | none => .tuple #[.agg #[.int .i64 0, .int .i64 0, .string ⟨#[]⟩, .bool false], .int .i64 0, .bool false]

theorem dec_nil (ao : Option Addr) (cap : Nat) (w : World) :
    Calls Try.prog 11 #[.slice ao 0 cap] w fun e w' => e = .returned (decV (dec [])) ∧ Below w.heap.size w w' := by
  go_enter Try.func11, Try.ntmps11
  go_wp2
  exact bodyPost_ret (v := decV none) (by simp [results, Try.results11, go_sem, decV]) rfl ⟨rfl, (Below.refl _ _).alloc (Nat.le_refl _) _⟩

theorem or_byte (n : Nat) (c : UInt8) (h : n < 72057594037927936) : bits BinOp.or IntKind.u64 (IntKind.u64.wrap ((n : Int) * 256)) (c.toNat : Int) = ((n * 256 + c.toNat : Nat) : Int) := by
  have hc := c.toNat_lt
  have e0 : IntKind.u64.wrap ((n : Int) * 256) = ((n * 256 : Nat) : Int) := by simp [IntKind.wrap, IntKind.signed, IntKind.bits]; omega
  have e1 : (BitVec.ofInt 64 ((n * 256 : Nat) : Int) ||| BitVec.ofInt 64 (c.toNat : Int)).toNat = n * 256 + c.toNat := by
    rw [BitVec.toNat_or, BitVec.ofInt_natCast, BitVec.ofInt_natCast, BitVec.toNat_ofNat, BitVec.toNat_ofNat, Nat.mod_eq_of_lt (by omega), Nat.mod_eq_of_lt (by omega)]
    have := Nat.two_pow_add_eq_or_of_lt (i := 8) (b := c.toNat) (by omega) n
    rw [show n * 256 = 2 ^ 8 * n by omega, this]
  rw [e0]
  show IntKind.u64.wrap ((BitVec.ofInt 64 ((n * 256 : Nat) : Int) ||| BitVec.ofInt 64 (c.toNat : Int)).toNat : Int) = _
  rw [e1]
  simp [IntKind.wrap, IntKind.signed, IntKind.bits]; omega

theorem dec_zero (b off n cap : Nat) (w : World) (hn1 : 1 ≤ n) (hb : b < w.heap.size) (c0 : UInt8) (h0 : c0 = 0)
    (hc : w.cell? ⟨b, off, none⟩ = some (.int .u8 (c0.toNat : Int))) :
    Calls Try.prog 11 #[.slice (some ⟨b, off, none⟩) n cap] w fun e w' => e = .returned (decV (some (⟨0, 0, ⟨#[]⟩, false⟩, 1))) ∧ Below w.heap.size w w' := by
  have hb1 : ((c0.toNat : Int) == 0) = true := byte_eq h0 rfl
  clear h0
  go_enter Try.func11, Try.ntmps11
  go_wp2
  exact bodyPost_ret (v := decV (some (⟨0, 0, ⟨#[]⟩, false⟩, 1))) (by simp [results, Try.results11, go_sem, decV, Val.v]) rfl ⟨rfl, (Below.refl _ _).alloc (Nat.le_refl _) _⟩

theorem dec_else (b off n cap : Nat) (w : World) (hn1 : 1 ≤ n) (hb : b < w.heap.size) (c0 : UInt8) (h0 : ¬ c0 = 0) (h1 : ¬ c0 = 1) (h2 : ¬ c0 = 2) (h3 : ¬ c0 = 3)
    (hc : w.cell? ⟨b, off, none⟩ = some (.int .u8 (c0.toNat : Int))) :
    Calls Try.prog 11 #[.slice (some ⟨b, off, none⟩) n cap] w fun e w' => e = .returned (decV none) ∧ Below w.heap.size w w' := by
  have hb0 : ((c0.toNat : Int) == 0) = false := byte_ne h0 rfl
  have hb1 : ((c0.toNat : Int) == 1) = false := byte_ne h1 rfl
  have hb2 : ((c0.toNat : Int) == 2) = false := byte_ne h2 rfl
  have hb3 : ((c0.toNat : Int) == 3) = false := byte_ne h3 rfl
  clear h0 h1 h2 h3
  go_enter Try.func11, Try.ntmps11
  go_wp2
  exact bodyPost_ret (v := decV none) (by simp [results, Try.results11, go_sem, decV]) rfl ⟨rfl, (Below.refl _ _).alloc (Nat.le_refl _) _⟩

theorem dec_short (b off n cap : Nat) (w : World) (hn1 : 1 ≤ n) (hn2 : n < 9) (hb : b < w.heap.size) (c0 : UInt8) (h0 : c0 = 1)
    (hc : w.cell? ⟨b, off, none⟩ = some (.int .u8 (c0.toNat : Int))) :
    Calls Try.prog 11 #[.slice (some ⟨b, off, none⟩) n cap] w fun e w' => e = .returned (decV none) ∧ Below w.heap.size w w' := by
  have hb0 : ((c0.toNat : Int) == 0) = false := by rw [h0]; rfl
  have hb1 : ((c0.toNat : Int) == 1) = true := by rw [h0]; rfl
  have hb2 : ((c0.toNat : Int) == 2) = false := by rw [h0]; rfl
  have hb3 : ((c0.toNat : Int) == 3) = false := by rw [h0]; rfl
  clear h0
  go_enter Try.func11, Try.ntmps11
  go_wp2
  exact bodyPost_ret (v := decV none) (by simp [results, Try.results11, go_sem, decV]) rfl ⟨rfl, (Below.refl _ _).alloc (Nat.le_refl _) _⟩

theorem dec_bool (b off n cap : Nat) (w : World) (hn1 : 2 ≤ n) (hb : b < w.heap.size) (c0 c1 : UInt8) (h0 : c0 = 3) (h1 : c1 < 2)
    (hc : w.cell? ⟨b, off, none⟩ = some (.int .u8 (c0.toNat : Int))) (hc1 : w.cell? ⟨b, off + 1, none⟩ = some (.int .u8 (c1.toNat : Int))) :
    Calls Try.prog 11 #[.slice (some ⟨b, off, none⟩) n cap] w fun e w' => e = .returned (decV (some (⟨3, 0, ⟨#[]⟩, c1 == 1⟩, 2))) ∧ Below w.heap.size w w' := by
  have hb0 : ((c0.toNat : Int) == 0) = false := by rw [h0]; rfl
  have hb1 : ((c0.toNat : Int) == 1) = false := by rw [h0]; rfl
  have hb2 : ((c0.toNat : Int) == 2) = false := by rw [h0]; rfl
  have hb3 : ((c0.toNat : Int) == 3) = true := by rw [h0]; rfl
  have hlt : (c1.toNat : Int) < 2 := by have := UInt8.lt_iff_toNat_lt.1 h1; simp at this; omega
  obtain ⟨t, ht⟩ : ∃ t : Bool, (((c1.toNat : Int) == 1) = t) ∧ (c1 == 1) = t := by
    by_cases h : c1 = 1
    · exact ⟨true, byte_eq h rfl, by simp [h]⟩
    · exact ⟨false, byte_ne h rfl, by simp [h]⟩
  obtain ⟨ht1, ht2⟩ := ht
  have HT := Lib.hid ht2
  clear h0 h1 ht2
  go_enter Try.func11, Try.ntmps11
  go_wp2
  exact bodyPost_ret (v := decV (some (⟨3, 0, ⟨#[]⟩, t⟩, 2))) (by simp [results, Try.results11, go_sem, decV, Val.v]) rfl ⟨by rw [HT.out], (Below.refl _ _).alloc (Nat.le_refl _) _⟩

theorem dec_notbool (b off n cap : Nat) (w : World) (hn1 : 1 ≤ n) (hb : b < w.heap.size) (c0 c1 : UInt8) (h0 : c0 = 3) (h1 : n < 2 ∨ ¬ c1 < 2)
    (hc : w.cell? ⟨b, off, none⟩ = some (.int .u8 (c0.toNat : Int))) (hc1 : 2 ≤ n → w.cell? ⟨b, off + 1, none⟩ = some (.int .u8 (c1.toNat : Int))) :
    Calls Try.prog 11 #[.slice (some ⟨b, off, none⟩) n cap] w fun e w' => e = .returned (decV none) ∧ Below w.heap.size w w' := by
  have hb0 : ((c0.toNat : Int) == 0) = false := by rw [h0]; rfl
  have hb1 : ((c0.toNat : Int) == 1) = false := by rw [h0]; rfl
  have hb2 : ((c0.toNat : Int) == 2) = false := by rw [h0]; rfl
  have hb3 : ((c0.toNat : Int) == 3) = true := by rw [h0]; rfl
  clear h0
  by_cases hn2 : 2 ≤ n
  · have hc2 := hc1 hn2
    have hge : ¬ (c1.toNat : Int) < 2 := by
      rcases h1 with h | h
      · omega
      · intro h'; exact h (UInt8.lt_iff_toNat_lt.2 (by simp; omega))
    clear h1 hc1
    go_enter Try.func11, Try.ntmps11
    go_wp2
    exact bodyPost_ret (v := decV none) (by simp [results, Try.results11, go_sem, decV]) rfl ⟨rfl, (Below.refl _ _).alloc (Nat.le_refl _) _⟩
  · clear h1 hc1
    go_enter Try.func11, Try.ntmps11
    go_wp2
    exact bodyPost_ret (v := decV none) (by simp [results, Try.results11, go_sem, decV]) rfl ⟨rfl, (Below.refl _ _).alloc (Nat.le_refl _) _⟩

end Go.Proofs.Ytblpmbbodajjeaa

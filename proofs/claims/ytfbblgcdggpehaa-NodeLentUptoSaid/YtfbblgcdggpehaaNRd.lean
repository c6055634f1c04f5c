/- The readers of both Decodes, as plain functions; the program's num. Conditions: numbers of at most 4 bytes. -/
import Derived.Test.YtfbblgcdggpehaaNLawK
namespace Go.Proofs.Ytfbblgcdggpehaa
set_option linter.unusedSimpArgs false
set_option linter.unusedVariables false
open Go.RowKit

/-- bytes as a number, the highest first -/
def numL (l : List UInt8) : Nat := l.foldl (fun n c => n * 256 + c.toNat) 0
theorem numL_snoc (l : List UInt8) (c : UInt8) : numL (l ++ [c]) = numL l * 256 + c.toNat := by simp [numL]
theorem numL_acc : ∀ (l : List UInt8) (a : Nat), l.foldl (fun n c => n * 256 + c.toNat) a < (a + 1) * 256 ^ l.length
  | [], a => by simp
  | c :: l, a => by
    have h := numL_acc l (a * 256 + c.toNat)
    have hc := c.toNat_lt
    have h2 : (a * 256 + c.toNat + 1) * 256 ^ l.length ≤ ((a + 1) * 256) * 256 ^ l.length := Nat.mul_le_mul_right _ (by omega)
    simp only [List.foldl_cons, List.length_cons, Nat.pow_succ]
    rw [Nat.mul_comm (256 ^ l.length) 256, ← Nat.mul_assoc]
    omega
theorem numL_lt (l : List UInt8) : numL l < 256 ^ l.length := by simpa [numL] using numL_acc l 0

structure Rd where
  i : Nat
  bad : Bool
/-- a number of k bytes -/
def rnum (L : List UInt8) (r : Rd) (k : Nat) : Nat × Rd := if r.bad = true ∨ L.length < r.i + k then (0, ⟨r.i, true⟩) else (numL ((L.drop r.i).take k), ⟨r.i + k, false⟩)
/-- the next k bytes -/
def rtake (L : List UInt8) (r : Rd) (k : Nat) : List UInt8 × Rd := if r.bad = true ∨ L.length < r.i + k then ([], ⟨r.i, true⟩) else ((L.drop r.i).take k, ⟨r.i + k, false⟩)
def rlong (L : List UInt8) (r : Rd) : List UInt8 × Rd := rtake L (rnum L r 2).2 (rnum L r 2).1

theorem rnum_le {L : List UInt8} {r : Rd} (h : r.i ≤ L.length) (k : Nat) : (rnum L r k).2.i ≤ L.length := by unfold rnum; split <;> simp <;> omega
theorem rtake_le {L : List UInt8} {r : Rd} (h : r.i ≤ L.length) (k : Nat) : (rtake L r k).2.i ≤ L.length := by unfold rtake; split <;> simp <;> omega
theorem rnum_lt (L : List UInt8) (r : Rd) (k : Nat) : (rnum L r k).1 < 256 ^ k := by
  unfold rnum
  split
  · exact Nat.pow_pos (by decide)
  · exact Nat.lt_of_lt_of_le (numL_lt _) (Nat.pow_le_pow_right (by decide) (List.length_take_le _ _))
theorem rtake_len (L : List UInt8) (r : Rd) (k : Nat) : (rtake L r k).1.length ≤ L.length := by
  unfold rtake
  split
  · simp
  · simp; omega

/-- the bytes of a page in memory -/
def LAt (w : World) (b o : Nat) (L : List UInt8) : Prop := b < w.heap.size ∧ ∀ j u, L[j]? = some u → w.cell? ⟨b, o + j, none⟩ = some (B u)
theorem LAt.growC {w w' : World} {b o : Nat} {L : List UInt8} {X : Nat → Nat → Prop} (h : LAt w b o L) (hg : GrowC X w w') (hX : ∀ k, ¬ X b k) : LAt w' b o L :=
  ⟨Nat.lt_of_lt_of_le h.1 hg.size, fun j u hu => (hg.cell _ _ h.1 (hX _)).trans (h.2 j u hu)⟩
theorem LAt.below {w w' : World} {b o B0 : Nat} {L : List UInt8} (h : LAt w b o L) (hb : Below B0 w w') (hB : b < B0) : LAt w' b o L :=
  ⟨Nat.lt_of_lt_of_le h.1 hb.size, fun j u hu => (hb.cell (p := ⟨b, o + j, none⟩) hB).trans (h.2 j u hu)⟩
/-- a reader in memory -/
def RAt (w : World) (g b o : Nat) (L : List UInt8) (r : Rd) : Prop := ∃ q m cc, Box w g [.slice (some ⟨b, q, none⟩) m cc, .bool r.bad] ∧ L.length = r.i + m ∧ m ≤ cc ∧ (0 < m → q = o + r.i)

theorem numL_step (L : List UInt8) (i k : Nat) (h : i + k < L.length) : numL ((L.drop i).take (k + 1)) = numL ((L.drop i).take k) * 256 + (L[i + k]).toNat := by
  have h2 : k < (L.drop i).length := by simp; omega
  rw [List.take_succ_eq_append_getElem h2, numL_snoc]
  simp
theorem numL_small (L : List UInt8) (i k : Nat) (hk : k ≤ 3) : numL ((L.drop i).take k) < 16777216 := by
  have h1 := numL_lt ((L.drop i).take k)
  have h2 : ((L.drop i).take k).length ≤ 3 := Nat.le_trans (List.length_take_le _ _) hk
  have h3 : 256 ^ ((L.drop i).take k).length ≤ 256 ^ 3 := Nat.pow_le_pow_right (by omega) h2
  have : (256 : Nat) ^ 3 = 16777216 := by decide
  omega

theorem or_i64 (a : Nat) (c : UInt8) (h : a < 16777216) : bits BinOp.or IntKind.i64 ((a : Int) * 256) (wrap64 (c.toNat : Int)) = ((a * 256 + c.toNat : Nat) : Int) := by
  have hc := c.toNat_lt
  have e0 : ((a : Int) * 256) = ((a * 256 : Nat) : Int) := by omega
  have e2 : wrap64 (c.toNat : Int) = (c.toNat : Int) := by unfold wrap64; omega
  have e1 : (BitVec.ofInt 64 ((a * 256 : Nat) : Int) ||| BitVec.ofInt 64 (c.toNat : Int)).toNat = a * 256 + c.toNat := by
    rw [BitVec.toNat_or, BitVec.ofInt_natCast, BitVec.ofInt_natCast, BitVec.toNat_ofNat, BitVec.toNat_ofNat, Nat.mod_eq_of_lt (by omega), Nat.mod_eq_of_lt (by omega)]
    have := Nat.two_pow_add_eq_or_of_lt (i := 8) (b := c.toNat) (by omega) a
    rw [show a * 256 = 2 ^ 8 * a by omega, this]
  rw [e0, e2]
  show IntKind.i64.wrap ((BitVec.ofInt 64 ((a * 256 : Nat) : Int) ||| BitVec.ofInt 64 (c.toNat : Int)).toNat : Int) = _
  rw [e1]
  simp [IntKind.wrap, IntKind.signed, IntKind.bits]; omega

set_option maxRecDepth 100000 in
set_option maxHeartbeats 3200000 in
theorem pnum_any (g b o : Nat) (L : List UInt8) (r : Rd) (w : World) (k : Nat) (hk : k ≤ 4) (hk1 : 1 ≤ k) (hr : RAt w g b o L r) (hl : LAt w b o L) (hne : b ≠ g) :
    Calls Try.prog 38 #[.pointer (some ⟨g, 0, none⟩), .int .i64 k] w fun e w' => e = .returned (.int .i64 ((rnum L r k).1 : Nat)) ∧ RAt w' g b o L (rnum L r k).2 ∧ GrowC (fun b' _ => b' = g) w w' := by
  obtain ⟨q, m, cc, hb, hm, hcc, hq⟩ := hr
  obtain ⟨i, bad⟩ := r
  simp only at hm hq hb ⊢
  cases bad with
  | true =>
    have h1 := hb.set1 1 (.bool true)
    have hR := Lib.hid (show RAt (w.setCell ⟨g, 1, none⟩ (.bool true)) g b o L ⟨i, true⟩ ∧ GrowC (fun b' _ => b' = g) w (w.setCell ⟨g, 1, none⟩ (.bool true)) from ⟨⟨q, m, cc, h1.1, hm, hcc, hq⟩, h1.2.mono (fun _ _ h => h.1)⟩)
    have c0 := hb.cell 0 _ rfl
    have c1 := hb.cell 1 _ rfl
    have f := hb.free
    clear h1 hb hm hq
    go_enter Try.func38, Try.ntmps38
    go_wp2
    go_ret
    exact ⟨by simp [rnum], by simpa [rnum] using hR.out.1, hR.out.2⟩
  | false =>
    by_cases hs : m < k
    · have h1 := hb.set1 1 (.bool true)
      have hR := Lib.hid (show RAt (w.setCell ⟨g, 1, none⟩ (.bool true)) g b o L ⟨i, true⟩ ∧ GrowC (fun b' _ => b' = g) w (w.setCell ⟨g, 1, none⟩ (.bool true)) from ⟨⟨q, m, cc, h1.1, hm, hcc, hq⟩, h1.2.mono (fun _ _ h => h.1)⟩)
      have hE := Lib.hid (show rnum L ⟨i, false⟩ k = (0, ⟨i, true⟩) by unfold rnum; rw [if_pos (.inr (by show L.length < i + k; omega))])
      have c0 := hb.cell 0 _ rfl
      have c1 := hb.cell 1 _ rfl
      have f := hb.free
      have d : decide ((m : Int) < (k : Int)) = true := by simp; omega
      clear h1 hb hm hq
      rw [hE.out]
      go_enter Try.func38, Try.ntmps38
      go_wp2
      go_ret
      exact ⟨rfl, hR.out.1, hR.out.2⟩
    · have hE := Lib.hid (show rnum L ⟨i, false⟩ k = (numL ((L.drop i).take k), ⟨i + k, false⟩) by unfold rnum; rw [if_neg (by rintro (h | h); cases h; exact absurd h (by show ¬ L.length < i + k; omega))])
      have c0 := hb.cell 0 _ rfl
      have c1 := hb.cell 1 _ rfl
      have f := hb.free
      have hgl := hb.lt
      have d : decide ((m : Int) < (k : Int)) = false := by simp; omega
      obtain rfl : q = o + i := hq (by omega)
      rw [hE.out]
      have HM := Lib.hid hm
      have HL := Lib.hid hl
      have HB := Lib.hid hb
      clear hm hl hb hq
      have hkm : k ≤ m := by omega
      have hkc : k ≤ cc := by omega
      clear hs
      go_enter Try.func38, Try.ntmps38
      go_wp2
      go_loop [5, 31, 7] (fun nn j _ => ∃ t : Nat, t ≤ k ∧ j = .int .i64 t ∧ nn = .int .i64 ((numL ((L.drop i).take t) : Nat) : Int)) (fun _ j _ => k - (intOf j).toNat)
      case atStart => exact ⟨0, by omega, rfl, rfl⟩
      case round =>
        obtain ⟨t, ht, rfl, rfl⟩ := hrel
        by_cases hlt : t < k
        · have hkL : i + t < L.length := by rw [HM.out]; omega
          have hck := HL.out.2 (i + t) _ (List.getElem?_eq_getElem hkL)
          have hsm := numL_small L i t (by omega)
          have HS := Lib.hid (numL_step L i t hkL)
          rw [show o + (i + t) = o + i + t by omega] at hck
          simp only [B] at hck
          generalize numL ((L.drop i).take t) = a at *
          generalize L[i + t] = c at *
          have HO := Lib.hid (or_i64 a c hsm)
          go_wp2
          go_round
          case rel => exact ⟨t + 1, by omega, by go_num, by rw [HS.out]; exact congrArg (Value.int IntKind.i64) HO.out⟩
          case measure => simp [intOf]; omega
        · obtain rfl : t = k := by omega
          by_cases hct : cc = t
          · have h1 := HB.out.set1 0 (.slice (some ⟨b, o + i, none⟩) (m - t) (cc - t))
            have hR := Lib.hid (show RAt (w.setCell ⟨g, 0, none⟩ (.slice (some ⟨b, o + i, none⟩) (m - t) (cc - t))) g b o L ⟨i + t, false⟩ ∧ GrowC (fun b' _ => b' = g) w (w.setCell ⟨g, 0, none⟩ (.slice (some ⟨b, o + i, none⟩) (m - t) (cc - t))) from ⟨⟨_, m - t, cc - t, h1.1, by have := HM.out; simp only; omega, by omega, by omega⟩, h1.2.mono (fun _ _ h => h.1)⟩)
            clear h1
            go_wp2
            go_ret
            exact ⟨rfl, by simpa [hct] using hR.out.1, by simpa [hct] using hR.out.2⟩
          · have h1 := HB.out.set1 0 (.slice (some ⟨b, o + i + t, none⟩) (m - t) (cc - t))
            have hR := Lib.hid (show RAt (w.setCell ⟨g, 0, none⟩ (.slice (some ⟨b, o + i + t, none⟩) (m - t) (cc - t))) g b o L ⟨i + t, false⟩ ∧ GrowC (fun b' _ => b' = g) w (w.setCell ⟨g, 0, none⟩ (.slice (some ⟨b, o + i + t, none⟩) (m - t) (cc - t))) from ⟨⟨_, m - t, cc - t, h1.1, by have := HM.out; simp only; omega, by omega, by intros; simp only; omega⟩, h1.2.mono (fun _ _ h => h.1)⟩)
            clear h1
            go_wp2
            go_ret
            exact ⟨rfl, hR.out.1, hR.out.2⟩

end Go.Proofs.Ytfbblgcdggpehaa

/- The plain functions of layer 11 (values as bytes in order), with no program in sight. Conditions: none. -/
import Derived.Test.YtblpmbbodajjeaaKit
import Derived.Lib.Bytealg
namespace Go.Proofs.Ytblpmbbodajjeaa.K
set_option linter.unusedSimpArgs false
set_option linter.unusedVariables false
open Go

structure Val where
  ty : Int
  num : Int
  txt : ByteArray
  tru : Bool

def Val.v (x : Val) : Value := .agg #[.int .i64 x.ty, .int .i64 x.num, .string x.txt, .bool x.tru]

def esc : List UInt8 → List UInt8
  | [] => []
  | c :: l => if c = 0 then 0 :: 255 :: esc l else c :: esc l

def be8 (u : Nat) : List UInt8 :=
  [UInt8.ofNat (u / 72057594037927936), UInt8.ofNat (u / 281474976710656), UInt8.ofNat (u / 1099511627776), UInt8.ofNat (u / 4294967296),
   UInt8.ofNat (u / 16777216), UInt8.ofNat (u / 65536), UInt8.ofNat (u / 256), UInt8.ofNat u]

def enc (x : Val) : List UInt8 :=
  if x.ty = 1 then 1 :: be8 (x.num + 9223372036854775808).toNat
  else if x.ty = 2 then 2 :: (esc x.txt.data.toList ++ [0, 0])
  else if x.ty = 3 then [3, if x.tru then 1 else 0]
  else [0]

def tr (b : Bool) : Int := if b then 1 else 0

def cmpI (a b : Int) : Int := if a < b then -1 else if b < a then 1 else 0

def cmpV (x y : Val) : Int :=
  if ¬ x.ty = y.ty then cmpI x.ty y.ty
  else if x.ty = 1 then cmpI x.num y.num
  else if x.ty = 2 then Lib.compareBytes x.txt.data.toList y.txt.data.toList
  else if x.ty = 3 then cmpI (tr x.tru) (tr y.tru)
  else 0

def clean (x : Val) : Val :=
  if x.ty = 1 then ⟨1, x.num, ⟨#[]⟩, false⟩
  else if x.ty = 2 then ⟨2, 0, x.txt, false⟩
  else if x.ty = 3 then ⟨3, 0, ⟨#[]⟩, x.tru⟩
  else ⟨0, 0, ⟨#[]⟩, false⟩

/-- a value's four cells -/
def Val.cells (x : Val) : List Value := [.int .i64 x.ty, .int .i64 x.num, .string x.txt, .bool x.tru]
def cellsOf (l : List Val) : List Value := l.flatMap Val.cells
def join (l : List Val) : List UInt8 := l.flatMap enc

def Val.ok (x : Val) : Prop := -9223372036854775808 ≤ x.num ∧ x.num ≤ 9223372036854775807 ∧ x.txt.size ≤ 1099511627776

theorem cellsOf_length (l : List Val) : (cellsOf l).length = l.length * 4 := by
  induction l with
  | nil => rfl
  | cons x l ih => simp only [cellsOf, List.flatMap_cons, List.length_append] at ih ⊢; rw [ih]; simp [Val.cells]; omega

theorem cellsOf_at (l : List Val) (k i : Nat) (h : k < l.length) (hi : i < 4) : (cellsOf l)[k * 4 + i]? = (l[k]).cells[i]? := by
  induction l generalizing k with
  | nil => simp at h
  | cons x l ih =>
    simp only [cellsOf, List.flatMap_cons]
    match k with
    | 0 => rw [List.getElem?_append_left (by simp [Val.cells]; omega)]; simp
    | k + 1 =>
      rw [List.getElem?_append_right (by simp [Val.cells]; omega)]
      have := ih k (by simpa using h)
      simp only [cellsOf] at this
      rw [show (k + 1) * 4 + i - x.cells.length = k * 4 + i by simp [Val.cells]; omega, this]
      simp

theorem join_take (l : List Val) (k : Nat) (h : k < l.length) : join (l.take (k + 1)) = join (l.take k) ++ enc l[k] := by
  simp only [join]; rw [List.take_succ_eq_append_getElem h, List.flatMap_append]; simp

theorem join_take_le (l : List Val) (k : Nat) : (join (l.take k)).length ≤ (join l).length := by
  have h : join l = join (l.take k) ++ join (l.drop k) := by simp [join, ← List.flatMap_append]
  rw [h]; simp

/-- the text that bytes say up to its end, and how many bytes that took -/
def txt : List UInt8 → Option (List UInt8 × Nat)
  | [] => none
  | c :: l =>
    if c = 0 then
      match l with
      | [] => none
      | d :: r => if d = 255 then (txt r).map (fun p => (0 :: p.1, p.2 + 2)) else if d = 0 then some ([], 2) else none
    else (txt l).map (fun p => (c :: p.1, p.2 + 1))

theorem txt_ne (c : UInt8) (l : List UInt8) (h : ¬ c = 0) : txt (c :: l) = (txt l).map (fun p => (c :: p.1, p.2 + 1)) := by
  cases l <;> simp [txt, h]
theorem txt_z1 : txt [0] = none := by simp [txt]
theorem txt_z2 (d : UInt8) (r : List UInt8) : txt (0 :: d :: r) = if d = 255 then (txt r).map (fun p => (0 :: p.1, p.2 + 2)) else if d = 0 then some ([], 2) else none := by
  simp [txt]

theorem txt_le : ∀ (n : Nat) (L : List UInt8) (p : List UInt8 × Nat), L.length ≤ n → txt L = some p → p.2 ≤ L.length ∧ p.1.length ≤ L.length := by
  intro n
  induction n with
  | zero =>
    intro L p hn h
    have : L = [] := by cases L with | nil => rfl | cons _ _ => simp at hn
    subst this; simp [txt] at h
  | succ n ih =>
    intro L p hn h
    match L with
    | [] => simp [txt] at h
    | c :: l =>
      by_cases hz : c = 0
      · subst hz
        match l with
        | [] => rw [txt_z1] at h; cases h
        | d :: r =>
          rw [txt_z2] at h
          split at h
          · cases hr : txt r with
            | none => rw [hr] at h; cases h
            | some q =>
              rw [hr] at h
              simp only [Option.map_some, Option.some.injEq] at h
              have := ih r q (by simp at hn; omega) hr
              subst h; simp; omega
          · split at h
            · simp only [Option.some.injEq] at h; subst h; simp
            · cases h
      · rw [txt_ne c l hz] at h
        cases hr : txt l with
        | none => rw [hr] at h; cases h
        | some q =>
          rw [hr] at h
          simp only [Option.map_some, Option.some.injEq] at h
          have := ih l q (by simp at hn; omega) hr
          subst h; simp; omega

/-- the number that big-endian bytes say -/
def un (l : List UInt8) : Nat := l.foldl (fun n c => n * 256 + c.toNat) 0

theorem un_snoc (l : List UInt8) (c : UInt8) : un (l ++ [c]) = un l * 256 + c.toNat := by simp [un]
theorem un_lt (l : List UInt8) : un l < 256 ^ l.length := by
  have key : ∀ (l : List UInt8) (a k : Nat), a < 256 ^ k → l.foldl (fun n c => n * 256 + c.toNat) a < 256 ^ (k + l.length) := by
    intro l
    induction l with
    | nil => intro a k h; simpa using h
    | cons c l ih =>
      intro a k h
      have hc := c.toNat_lt
      have h2 := ih (a * 256 + c.toNat) (k + 1) (by rw [Nat.pow_succ]; omega)
      simp only [List.foldl_cons, List.length_cons]
      rw [show k + (l.length + 1) = k + 1 + l.length by omega]
      exact h2
  have := key l 0 0 (by simp)
  simpa [un] using this

/-- a value with which bytes begin, and how many bytes it took -/
def dec : List UInt8 → Option (Val × Nat)
  | [] => none
  | c :: l =>
    if c = 0 then some (⟨0, 0, ⟨#[]⟩, false⟩, 1)
    else if c = 1 then (if 8 ≤ l.length then some (⟨1, (un (l.take 8) : Int) - 9223372036854775808, ⟨#[]⟩, false⟩, 9) else none)
    else if c = 2 then (txt l).map (fun p => (⟨2, 0, ⟨p.1.toArray⟩, false⟩, p.2 + 1))
    else if c = 3 then (if 1 ≤ l.length ∧ (l.getD 0 0) < 2 then some (⟨3, 0, ⟨#[]⟩, l.getD 0 0 == 1⟩, 2) else none)
    else none

/-- what text comes to where i bytes are read and out is gathered -/
def txtAt (L : List UInt8) (i : Nat) (out : List UInt8) : Option (List UInt8 × Nat) := (txt (L.drop i)).map (fun p => (out ++ p.1, p.2 + i))

theorem txtAt_zero (L : List UInt8) : txtAt L 0 [] = txt L := by
  simp only [txtAt, List.drop_zero, List.nil_append, Nat.add_zero]
  cases txt L <;> rfl

theorem txtAt_end (L out : List UInt8) (i : Nat) (h : L.length ≤ i) : txtAt L i out = none := by
  simp [txtAt, List.drop_eq_nil_of_le h, txt]

theorem txtAt_plain (L out : List UInt8) (i : Nat) (h : i < L.length) (h0 : ¬ L[i] = 0) : txtAt L i out = txtAt L (i + 1) (out ++ [L[i]]) := by
  simp only [txtAt]
  rw [List.drop_eq_getElem_cons h, txt_ne _ _ h0]
  cases txt (L.drop (i + 1)) with
  | none => rfl
  | some p => simp; omega

theorem txtAt_cut (L out : List UInt8) (i : Nat) (h : i < L.length) (h0 : L[i] = 0) (h1 : L.length ≤ i + 1) : txtAt L i out = none := by
  simp only [txtAt]
  rw [List.drop_eq_getElem_cons h, h0, List.drop_eq_nil_of_le h1, txt_z1]; rfl

theorem txtAt_two (L out : List UInt8) (i : Nat) (h : i + 1 < L.length) (h0 : L[i] = 0) :
    txtAt L i out = if L[i+1] = 255 then txtAt L (i + 2) (out ++ [0]) else if L[i+1] = 0 then some (out, i + 2) else none := by
  simp only [txtAt]
  rw [List.drop_eq_getElem_cons (by omega : i < L.length), h0, List.drop_eq_getElem_cons h, txt_z2]
  split
  · cases txt (L.drop (i + 1 + 1)) with
    | none => rfl
    | some p => simp; omega
  · split
    · simp; omega
    · rfl

theorem esc_append (a b : List UInt8) : esc (a ++ b) = esc a ++ esc b := by
  induction a with
  | nil => rfl
  | cons c l ih => by_cases h : c = 0 <;> simp [esc, h, ih]

theorem esc_length (a : List UInt8) : a.length ≤ (esc a).length ∧ (esc a).length ≤ 2 * a.length := by
  induction a with
  | nil => simp [esc]
  | cons c l ih => by_cases h : c = 0 <;> simp [esc, h] <;> omega

theorem esc_take (s : ByteArray) (k : Nat) (h : k < s.size) : esc (s.data.toList.take (k + 1)) = if s[k] = 0 then esc (s.data.toList.take k) ++ [0, 255] else esc (s.data.toList.take k) ++ [s[k]] := by
  have e : s.data.toList.take (k + 1) = s.data.toList.take k ++ [s[k]] := by
    rw [List.take_succ_eq_append_getElem (by simpa using h)]; rfl
  rw [e, esc_append]
  by_cases hz : s[k] = 0 <;> simp [esc, hz]

theorem be8_length (u : Nat) : (be8 u).length = 8 := rfl

theorem ofNat_B (u : Nat) : B (UInt8.ofNat u) = .int .u8 ((u : Int) % 256) := by
  simp [B]

theorem xor_top (m : Nat) (h : m < 18446744073709551616) : m ^^^ 9223372036854775808 = if m < 9223372036854775808 then m + 9223372036854775808 else m - 9223372036854775808 := by
  have key : ∀ r : Nat, r < 2 ^ 63 → 2 ^ 63 + r = 2 ^ 63 ^^^ r := by
    intro r hr
    apply Nat.eq_of_testBit_eq
    intro i
    rw [Nat.testBit_xor, Nat.testBit_two_pow]
    rcases Nat.lt_trichotomy i 63 with hi | hi | hi
    · rw [Nat.testBit_two_pow_add_gt hi]
      simp [show ¬ (63 = i) by omega]
    · subst hi
      rw [Nat.testBit_two_pow_add_eq, Nat.testBit_lt_two_pow hr]; simp
    · have h1 : 2 ^ 63 + r < 2 ^ i := by
        have : 2 ^ 64 ≤ 2 ^ i := Nat.pow_le_pow_right (by omega) (by omega)
        omega
      rw [Nat.testBit_lt_two_pow h1, Nat.testBit_lt_two_pow (by omega)]; simp [show ¬ (63 = i) by omega]
  show m ^^^ 2 ^ 63 = if m < 2 ^ 63 then m + 2 ^ 63 else m - 2 ^ 63
  split
  · rename_i hm
    have := key m hm
    rw [Nat.xor_comm] at this
    omega
  · rename_i hm
    have := key (m - 2 ^ 63) (by omega)
    have e : m = 2 ^ 63 ^^^ (m - 2 ^ 63) := by rw [← this]; omega
    have e2 : m ^^^ 2 ^ 63 = m - 2 ^ 63 := by
      conv => lhs; rw [e, Nat.xor_comm, ← Nat.xor_assoc, Nat.xor_self, Nat.zero_xor]
    exact e2

end Go.Proofs.Ytblpmbbodajjeaa.K

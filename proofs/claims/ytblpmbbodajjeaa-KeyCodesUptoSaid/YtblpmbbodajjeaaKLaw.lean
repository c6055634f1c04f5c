/- The plain law of the order of keys: bytes stand in the order of their values, alone and in lists. Conditions: the numbers are int64. -/
import Derived.Test.YtblpmbbodajjeaaKPlain
namespace Go.Proofs.Ytblpmbbodajjeaa.K
set_option linter.unusedSimpArgs false
set_option linter.unusedVariables false

open _root_.Go.Lib (compareBytes)

theorem cb_append (e a b : List UInt8) : compareBytes (e ++ a) (e ++ b) = compareBytes a b := by
  induction e with
  | nil => rfl
  | cons c e ih => simp [compareBytes, ih]

theorem cb_self (e : List UInt8) : compareBytes e e = 0 := by
  induction e with
  | nil => rfl
  | cons c e ih => simp [compareBytes, ih]

theorem cb_longer (e : List UInt8) : compareBytes (e ++ [0]) e = 1 := by
  induction e with
  | nil => rfl
  | cons c e ih => simp [compareBytes, ih]
theorem cb_shorter (e : List UInt8) : compareBytes e (e ++ [0]) = -1 := by
  induction e with
  | nil => rfl
  | cons c e ih => simp [compareBytes, ih]

theorem cb_cases (a b : List UInt8) : compareBytes a b = -1 ∨ compareBytes a b = 0 ∨ compareBytes a b = 1 := by
  induction a generalizing b with
  | nil => cases b <;> simp [compareBytes]
  | cons c a ih =>
    cases b with
    | nil => simp [compareBytes]
    | cons d b =>
      simp only [compareBytes]
      split
      · simp
      · split
        · simp
        · exact ih b

theorem cb_zero (a b : List UInt8) : compareBytes a b = 0 ↔ a = b := by
  constructor
  · induction a generalizing b with
    | nil => cases b <;> simp [compareBytes]
    | cons c a ih =>
      cases b with
      | nil => simp [compareBytes]
      | cons d b =>
        simp only [compareBytes]
        split
        · simp
        · split
          · simp
          · rename_i h1 h2
            intro h
            have hcd : c = d := UInt8.le_antisymm (UInt8.not_lt.1 h2) (UInt8.not_lt.1 h1)
            rw [hcd, ih b h]
  · rintro rfl; exact cb_self a

theorem less_cb (a b : List UInt8) : Op.bytesLess a b = decide (compareBytes a b = -1) := by
  induction a generalizing b with
  | nil => cases b <;> simp [compareBytes, Op.bytesLess]
  | cons c a ih =>
    cases b with
    | nil => simp [compareBytes, Op.bytesLess]
    | cons d b =>
      simp only [compareBytes, Op.bytesLess]
      by_cases h1 : c < d
      · simp [h1]
      · by_cases h2 : d < c
        · have hne : ¬ c = d := fun e => by subst e; exact UInt8.lt_irrefl _ h2
          simp [h1, h2, hne]
        · have hcd : c = d := UInt8.le_antisymm (UInt8.not_lt.1 h2) (UInt8.not_lt.1 h1)
          subst hcd
          simp [ih, UInt8.lt_irrefl]

theorem cb_lt {c d : UInt8} (h : c < d) (a b : List UInt8) : compareBytes (c :: a) (d :: b) = -1 := by simp [compareBytes, h]
theorem cb_gt {c d : UInt8} (h : d < c) (a b : List UInt8) : compareBytes (c :: a) (d :: b) = 1 := by
  have : ¬ c < d := fun h' => UInt8.lt_irrefl _ (UInt8.lt_trans h h')
  simp [compareBytes, h, this]
theorem cb_eq (c : UInt8) (a b : List UInt8) : compareBytes (c :: a) (c :: b) = compareBytes a b := by simp [compareBytes]

theorem u8_lt {c d : UInt8} : c < d ↔ c.toNat < d.toNat := UInt8.lt_iff_toNat_lt

/-- big-endian bytes of one length stand as their numbers -/
theorem cb_un (a b s t : List UInt8) (hl : a.length = b.length) (x y : Nat) (h : a.foldl (fun n c => n * 256 + c.toNat) x < b.foldl (fun n c => n * 256 + c.toNat) y) (hxy : x = y) :
    compareBytes (a ++ s) (b ++ t) = -1 := by
  subst hxy
  have mono : ∀ (l m : List UInt8) (x y : Nat), l.length = m.length → x < y → l.foldl (fun n c => n * 256 + c.toNat) x < m.foldl (fun n c => n * 256 + c.toNat) y := by
    intro l
    induction l with
    | nil => intro m x y hl h; cases m with | nil => simpa using h | cons _ _ => simp at hl
    | cons c l ih =>
      intro m x y hl h
      cases m with
      | nil => simp at hl
      | cons d m =>
        simp only [List.foldl_cons]
        have := c.toNat_lt
        exact ih m _ _ (by simpa using hl) (by omega)
  induction a generalizing b x with
  | nil => cases b with | nil => simp at h | cons _ _ => simp at hl
  | cons c a ih =>
    cases b with
    | nil => simp at hl
    | cons d b =>
      simp only [List.foldl_cons] at h
      rcases Nat.lt_trichotomy c.toNat d.toNat with h1 | h1 | h1
      · exact cb_lt (u8_lt.2 h1) _ _
      · obtain rfl := UInt8.toNat_inj.1 h1
        rw [List.cons_append, List.cons_append, cb_eq]
        exact ih b (by simpa using hl) _ h
      · have := mono b a (x * 256 + d.toNat) (x * 256 + c.toNat) (by simp at hl; omega) (by omega)
        omega

theorem un_be8 (u : Nat) (h : u < 18446744073709551616) : un (be8 u) = u := by
  simp only [un, be8, List.foldl_cons, List.foldl_nil, UInt8.toNat_ofNat']
  omega

theorem cb_swap (a b : List UInt8) : compareBytes a b = - compareBytes b a := by
  induction a generalizing b with
  | nil => cases b <;> simp [compareBytes]
  | cons c a ih =>
    cases b with
    | nil => simp [compareBytes]
    | cons d b =>
      rcases Nat.lt_trichotomy c.toNat d.toNat with h1 | h1 | h1
      · rw [cb_lt (u8_lt.2 h1), cb_gt (u8_lt.2 h1)]
      · obtain rfl := UInt8.toNat_inj.1 h1
        rw [cb_eq, cb_eq]; exact ih b
      · rw [cb_gt (u8_lt.2 h1), cb_lt (u8_lt.2 h1)]; rfl

theorem cb_be8 (u v : Nat) (hu : u < 18446744073709551616) (hv : v < 18446744073709551616) (s t : List UInt8) (h : u < v) : compareBytes (be8 u ++ s) (be8 v ++ t) = -1 := by
  refine cb_un (be8 u) (be8 v) s t rfl 0 0 ?_ rfl
  have h1 := un_be8 u hu
  have h2 := un_be8 v hv
  unfold un at h1 h2
  rw [h1, h2]; exact h

theorem cb_esc (a b s t : List UInt8) (h : compareBytes a b ≠ 0) : compareBytes (esc a ++ 0 :: 0 :: s) (esc b ++ 0 :: 0 :: t) = compareBytes a b := by
  have z : ∀ c : UInt8, ¬ c = 0 → (0 : UInt8) < c := by
    intro c hc
    rw [u8_lt]
    have : c.toNat ≠ 0 := fun e => hc (UInt8.toNat_inj.1 e)
    show 0 < c.toNat
    omega
  induction a generalizing b with
  | nil =>
    cases b with
    | nil => exact absurd rfl h
    | cons c b =>
      by_cases hc : c = 0
      · subst hc; simp [esc, compareBytes]
      · simp only [esc, if_neg hc, List.nil_append, List.cons_append]
        rw [cb_lt (z c hc)]; rfl
  | cons c a ih =>
    cases b with
    | nil =>
      by_cases hc : c = 0
      · subst hc; simp [esc, compareBytes]
      · simp only [esc, if_neg hc, List.nil_append, List.cons_append]
        rw [cb_gt (z c hc)]; rfl
    | cons d b =>
      by_cases hcd : c = d
      · subst hcd
        rw [cb_eq] at h ⊢
        by_cases hc : c = 0
        · subst hc
          simp only [esc, if_true, List.cons_append]
          rw [cb_eq, cb_eq]; exact ih b h
        · simp only [esc, if_neg hc, List.cons_append]
          rw [cb_eq]; exact ih b h
      · have key : ∀ (c d : UInt8) (a b s t : List UInt8), c < d → compareBytes (esc (c :: a) ++ s) (esc (d :: b) ++ t) = -1 := by
          intro c d a b s t hlt
          have hd : ¬ d = 0 := fun e => by subst e; rw [u8_lt] at hlt; exact absurd hlt (Nat.not_lt_zero _)
          by_cases hc : c = 0
          · subst hc
            simp only [esc, if_true, if_neg hd, List.cons_append]
            exact cb_lt (z d hd) _ _
          · simp only [esc, if_neg hc, if_neg hd, List.cons_append]
            exact cb_lt hlt _ _
        rcases Nat.lt_trichotomy c.toNat d.toNat with h1 | h1 | h1
        · rw [key c d _ _ _ _ (u8_lt.2 h1), cb_lt (u8_lt.2 h1)]
        · exact absurd (UInt8.toNat_inj.1 h1) hcd
        · rw [cb_swap, key d c _ _ _ _ (u8_lt.2 h1), cb_gt (u8_lt.2 h1)]; rfl

/-- what clean gives -/
def Clean (x : Val) : Prop := x = clean x ∧ -9223372036854775808 ≤ x.num ∧ x.num ≤ 9223372036854775807

theorem clean_ty (x : Val) : (clean x).ty = 0 ∨ (clean x).ty = 1 ∨ (clean x).ty = 2 ∨ (clean x).ty = 3 := by
  unfold clean
  split
  · simp
  · split
    · simp
    · split <;> simp

theorem clean_clean (x : Val) : clean (clean x) = clean x := by
  by_cases h1 : x.ty = 1
  · simp [clean, h1]
  by_cases h2 : x.ty = 2
  · simp [clean, h2]
  by_cases h3 : x.ty = 3
  · simp [clean, h3]
  · simp [clean, h1, h2, h3]

theorem cmpI_cases (a b : Int) : cmpI a b = -1 ∨ cmpI a b = 0 ∨ cmpI a b = 1 := by
  unfold cmpI; split <;> (try split) <;> simp
theorem cmpV_cases (x y : Val) : cmpV x y = -1 ∨ cmpV x y = 0 ∨ cmpV x y = 1 := by
  unfold cmpV
  split
  · exact cmpI_cases _ _
  split
  · exact cmpI_cases _ _
  split
  · exact cb_cases _ _
  split
  · exact cmpI_cases _ _
  · simp

theorem enc_head (x : Val) (h : x.ty = 0 ∨ x.ty = 1 ∨ x.ty = 2 ∨ x.ty = 3) : ∃ r, enc x = UInt8.ofNat x.ty.toNat :: r := by
  rcases h with h | h | h | h <;> simp [enc, h]

/-- bytes stand as their values, whatever comes behind: so none is the beginning of another one -/
theorem enc_order (x y : Val) (hx : Clean x) (hy : Clean y) (s t : List UInt8) (h : cmpV x y ≠ 0) : compareBytes (enc x ++ s) (enc y ++ t) = cmpV x y := by
  have tx : x.ty = 0 ∨ x.ty = 1 ∨ x.ty = 2 ∨ x.ty = 3 := by have := clean_ty x; rw [← hx.1] at this; exact this
  have ty : y.ty = 0 ∨ y.ty = 1 ∨ y.ty = 2 ∨ y.ty = 3 := by have := clean_ty y; rw [← hy.1] at this; exact this
  by_cases he : x.ty = y.ty
  · have hc : cmpV x y = (if x.ty = 1 then cmpI x.num y.num else if x.ty = 2 then compareBytes x.txt.data.toList y.txt.data.toList else if x.ty = 3 then cmpI (tr x.tru) (tr y.tru) else 0) := by
      rw [cmpV, if_neg (fun h => h he)]
    rcases tx with h0 | h1 | h2 | h3
    · rw [hc] at h; simp [h0] at h
    · rw [hc] at h ⊢
      rw [if_pos h1] at h ⊢
      have e1 : enc x = 1 :: be8 (x.num + 9223372036854775808).toNat := by rw [enc, if_pos h1]
      have e2 : enc y = 1 :: be8 (y.num + 9223372036854775808).toNat := by rw [enc, if_pos (he ▸ h1)]
      rw [e1, e2, List.cons_append, List.cons_append, cb_eq]
      have bx := hx.2
      have bY := hy.2
      unfold cmpI at h ⊢
      by_cases hlt : x.num < y.num
      · rw [if_pos hlt]; exact cb_be8 _ _ (by omega) (by omega) _ _ (by omega)
      · by_cases hgt : y.num < x.num
        · rw [if_neg hlt, if_pos hgt, cb_swap, cb_be8 _ _ (by omega) (by omega) _ _ (by omega)]; rfl
        · rw [if_neg hlt, if_neg hgt] at h; exact absurd rfl h
    · rw [hc] at h ⊢
      rw [if_neg (by omega), if_pos h2] at h ⊢
      have e1 : enc x = 2 :: (esc x.txt.data.toList ++ [0, 0]) := by rw [enc, if_neg (by omega), if_pos h2]
      have e2 : enc y = 2 :: (esc y.txt.data.toList ++ [0, 0]) := by rw [enc, if_neg (by omega), if_pos (he ▸ h2)]
      rw [e1, e2, List.cons_append, List.cons_append, cb_eq, List.append_assoc, List.append_assoc]
      exact cb_esc _ _ _ _ h
    · rw [hc] at h ⊢
      rw [if_neg (by omega), if_neg (by omega), if_pos h3] at h ⊢
      have e1 : enc x = [3, if x.tru then 1 else 0] := by rw [enc, if_neg (by omega), if_neg (by omega), if_pos h3]
      have e2 : enc y = [3, if y.tru then 1 else 0] := by rw [enc, if_neg (by omega), if_neg (by omega), if_pos (he ▸ h3)]
      rw [e1, e2]
      cases hb : x.tru <;> cases hb' : y.tru <;> rw [hb, hb'] at h <;> simp [cmpI, tr, compareBytes] at h ⊢
  · have hc : cmpV x y = cmpI x.ty y.ty := by rw [cmpV, if_pos he]
    rw [hc]
    obtain ⟨r1, e1⟩ := enc_head x tx
    obtain ⟨r2, e2⟩ := enc_head y ty
    rw [e1, e2, List.cons_append, List.cons_append]
    unfold cmpI
    have b : ∀ n : Int, (n = 0 ∨ n = 1 ∨ n = 2 ∨ n = 3) → (UInt8.ofNat n.toNat).toNat = n.toNat := by
      rintro n (rfl | rfl | rfl | rfl) <;> rfl
    by_cases hlt : x.ty < y.ty
    · rw [if_pos hlt]; exact cb_lt (u8_lt.2 (by rw [b _ tx, b _ ty]; omega)) _ _
    · rw [if_neg hlt, if_pos (by omega)]; exact cb_gt (u8_lt.2 (by rw [b _ tx, b _ ty]; omega)) _ _

theorem cmpI_zero {a b : Int} (h : cmpI a b = 0) : a = b := by
  unfold cmpI at h
  split at h
  · simp at h
  · split at h
    · simp at h
    · omega

theorem cmpV_zero (x y : Val) (h : cmpV x y = 0) : enc x = enc y := by
  unfold cmpV at h
  split at h
  · rename_i he; exact absurd (cmpI_zero h) he
  · rename_i he
    simp only [Decidable.not_not] at he
    split at h
    · rename_i h1; have := cmpI_zero h; simp [enc, h1, ← he, this]
    · rename_i h1
      split at h
      · rename_i h2; have := (cb_zero _ _).1 h; simp [enc, h2, ← he, this]
      · rename_i h2
        split at h
        · rename_i h3
          have := cmpI_zero h
          have hb : x.tru = y.tru := by
            cases hb : x.tru <;> cases hb' : y.tru <;> rw [hb, hb'] at this <;> simp [tr] at this ⊢
          simp [enc, h3, ← he, hb]
        · rename_i h3; simp [enc, h1, h2, h3, ← he]

theorem enc_ne_nil (x : Val) : enc x ≠ [] := by
  unfold enc; split <;> (try split) <;> (try split) <;> simp

/-- how two lists of values stand -/
def firstL : List Val → List Val → Int
  | [], [] => 0
  | [], _ :: _ => -1
  | _ :: _, [] => 1
  | x :: u, y :: w => if cmpV x y = 0 then firstL u w else cmpV x y

theorem join_order (u w : List Val) (hu : ∀ x ∈ u, Clean x) (hw : ∀ x ∈ w, Clean x) : compareBytes (join u) (join w) = firstL u w := by
  induction u generalizing w with
  | nil =>
    cases w with
    | nil => rfl
    | cons y w =>
      simp only [join, List.flatMap_cons, List.flatMap_nil, firstL]
      cases h : enc y with
      | nil => exact absurd h (enc_ne_nil y)
      | cons c r => rfl
  | cons x u ih =>
    cases w with
    | nil =>
      simp only [join, List.flatMap_cons, List.flatMap_nil, firstL]
      cases h : enc x with
      | nil => exact absurd h (enc_ne_nil x)
      | cons c r => rfl
    | cons y w =>
      simp only [join, List.flatMap_cons, firstL] at ih ⊢
      by_cases hz : cmpV x y = 0
      · rw [if_pos hz, cmpV_zero x y hz, cb_append]
        exact ih w (fun z hz => hu z (by simp [hz])) (fun z hz => hw z (by simp [hz]))
      · rw [if_neg hz]
        exact enc_order x y (hu x (by simp)) (hw y (by simp)) _ _ hz

theorem clean_ok (x : Val) (h : x.ok) : (clean x).ok := by
  obtain ⟨h1, h2, h3⟩ := h
  unfold clean
  split
  · exact ⟨h1, h2, by show (⟨#[]⟩ : ByteArray).size ≤ _; decide⟩
  split
  · exact ⟨by show (-9223372036854775808 : Int) ≤ 0; omega, by show (0 : Int) ≤ _; omega, h3⟩
  split
  · exact ⟨by show (-9223372036854775808 : Int) ≤ 0; omega, by show (0 : Int) ≤ _; omega, by show (⟨#[]⟩ : ByteArray).size ≤ _; decide⟩
  · exact ⟨by show (-9223372036854775808 : Int) ≤ 0; omega, by show (0 : Int) ≤ _; omega, by show (⟨#[]⟩ : ByteArray).size ≤ _; decide⟩

theorem clean_is (x : Val) (h : x.ok) : Clean (clean x) := ⟨(clean_clean x).symm, (clean_ok x h).1, (clean_ok x h).2.1⟩

theorem extract_take (Q : ByteArray) (n : Nat) : (Q.extract 0 n).data.toList = Q.data.toList.take n := by
  simp [ByteArray.data_extract]

theorem ord_facts (x y : Val) (hx : Clean x) (hy : Clean y) (P Q : ByteArray) (hP : (⟨(enc x).toArray⟩ : ByteArray) = P) (hQ : (⟨(enc y).toArray⟩ : ByteArray) = Q) (c : Int) (hc : cmpV ⟨x.ty, x.num, x.txt, x.tru⟩ ⟨y.ty, y.num, y.txt, y.tru⟩ = c) :
    Op.bytesLess P.toList Q.toList = decide (c < 0) ∧ (P.toList == Q.toList) = (c == 0) ∧
    (¬ c = 0 → P.size ≤ Q.size → ¬ (Q.extract 0 P.size).toList = P.toList) ∧ (¬ c = 0 → Q.size ≤ P.size → ¬ (P.extract 0 Q.size).toList = Q.toList) := by
  have hc' : cmpV x y = c := hc
  clear hc
  have eP : P.toList = enc x := by rw [ByteArray.toList_eq, ← hP]
  have eQ : Q.toList = enc y := by rw [ByteArray.toList_eq, ← hQ]
  have sP : P.size = (enc x).length := by rw [← hP]; simp [ByteArray.size]
  have sQ : Q.size = (enc y).length := by rw [← hQ]; simp [ByteArray.size]
  have key := enc_order x y hx hy [] []
  rw [hc', List.append_nil, List.append_nil] at key
  have cc := cmpV_cases x y
  rw [hc'] at cc
  refine ⟨?_, ?_, fun hne hle he => ?_, fun hne hle he => ?_⟩
  · rw [eP, eQ, less_cb]
    by_cases h0 : c = 0
    · have := cmpV_zero x y (hc'.trans h0)
      rw [this, cb_self, h0]; simp
    · rw [key h0]; rcases cc with h | h | h <;> simp [h]
  · rw [eP, eQ]
    by_cases h0 : c = 0
    · have := cmpV_zero x y (hc'.trans h0)
      rw [this, h0]; simp
    · have h1 := key h0
      have : ¬ enc x = enc y := fun e => by rw [e, cb_self] at h1; exact h0 h1.symm
      rw [beq_eq_false_iff_ne.2 this, beq_eq_false_iff_ne.2 h0]
  · have e1 : (enc y).take (enc x).length = enc x := by
      have : (Q.extract 0 P.size).toList = (enc y).take (enc x).length := by rw [ByteArray.toList_eq, extract_take, ← ByteArray.toList_eq, eQ, sP]
      rw [← this, he, eP]
    have e2 : enc y = enc x ++ (enc y).drop (enc x).length := by
      conv => lhs; rw [← List.take_append_drop (enc x).length (enc y), e1]
    have k1 := enc_order x y hx hy ((enc y).drop (enc x).length ++ [0]) [] (by rw [hc']; exact hne)
    have k2 := enc_order x y hx hy ((enc y).drop (enc x).length) [0] (by rw [hc']; exact hne)
    rw [← List.append_assoc, ← e2, List.append_nil, cb_longer] at k1
    rw [← e2, cb_shorter] at k2
    rw [← k1] at k2; omega
  · have e1 : (enc x).take (enc y).length = enc y := by
      have : (P.extract 0 Q.size).toList = (enc x).take (enc y).length := by rw [ByteArray.toList_eq, extract_take, ← ByteArray.toList_eq, eP, sQ]
      rw [← this, he, eQ]
    have e2 : enc x = enc y ++ (enc x).drop (enc y).length := by
      conv => lhs; rw [← List.take_append_drop (enc y).length (enc x), e1]
    have k1 := enc_order x y hx hy [] ((enc x).drop (enc y).length ++ [0]) (by rw [hc']; exact hne)
    have k2 := enc_order x y hx hy [0] ((enc x).drop (enc y).length) (by rw [hc']; exact hne)
    rw [← List.append_assoc, ← e2, List.append_nil, cb_shorter] at k1
    rw [← e2, cb_longer] at k2
    rw [← k1] at k2; omega

theorem cellsOf_take_map (l : List Val) (k : Nat) (h : k < l.length) : cellsOf ((l.map clean).take (k + 1)) = cellsOf ((l.map clean).take k) ++ (clean l[k]).cells := by
  rw [List.take_succ_eq_append_getElem (by simpa using h)]; simp [cellsOf]

/-- how far the comparing of two lists has come -/
def FirstAt (U V : List Val) (k : Nat) (f : Int) : Prop := if f = 0 then firstL U V = firstL (U.drop k) (V.drop k) else firstL U V = f

/-- what the comparing of two lists ends in -/
def FirstEnd (U V : List Val) (f : Int) : Prop := (¬ f = 0 → firstL U V = f) ∧ (f = 0 → firstL U V = if U.length = V.length then 0 else if U.length < V.length then -1 else 1)

theorem first_start (U V : List Val) : FirstAt U V 0 0 := by simp [FirstAt]

theorem first_step (U V : List Val) (k : Nat) (h1 : k < U.length) (h2 : k < V.length) (h : FirstAt U V k 0) : FirstAt U V (k + 1) (cmpV U[k] V[k]) := by
  unfold FirstAt at *
  rw [if_pos rfl, List.drop_eq_getElem_cons h1, List.drop_eq_getElem_cons h2, firstL] at h
  split
  · rename_i hz; rw [if_pos hz] at h; exact h
  · rename_i hz; rw [if_neg hz] at h; exact h

theorem first_nil (V : List Val) : firstL [] V = if 0 = V.length then 0 else if 0 < V.length then -1 else 1 := by
  cases V <;> simp [firstL]
theorem first_nil' (U : List Val) : firstL U [] = if U.length = 0 then 0 else if U.length < 0 then -1 else 1 := by
  cases U <;> simp [firstL]

theorem first_end (U V : List Val) (k : Nat) (f : Int) (h : FirstAt U V k f) (hk1 : k ≤ U.length) (hk2 : k ≤ V.length) (he : ¬ k < U.length ∨ ¬ k < V.length ∨ ¬ f = 0) : FirstEnd U V f := by
  unfold FirstAt at h
  refine ⟨fun hf => by rw [if_neg hf] at h; exact h, fun hf => ?_⟩
  rw [if_pos hf] at h
  rw [h]
  rcases he with he | he | he
  · have : k = U.length := by omega
    subst this
    rw [List.drop_eq_nil_of_le (Nat.le_refl _), first_nil]
    simp only [List.length_drop]
    by_cases e : U.length = V.length
    · rw [if_pos e, if_pos (by omega)]
    · rw [if_neg e, if_neg (by omega), if_pos (by omega), if_pos (by omega)]
  · have : k = V.length := by omega
    subst this
    rw [List.drop_eq_nil_of_le (Nat.le_refl _), first_nil']
    simp only [List.length_drop]
    by_cases e : U.length = V.length
    · rw [if_pos e, if_pos (by omega)]
    · rw [if_neg e, if_neg (by omega), if_neg (by omega), if_neg (by omega)]
  · exact absurd hf he

theorem firstL_cases (U V : List Val) : firstL U V = -1 ∨ firstL U V = 0 ∨ firstL U V = 1 := by
  induction U generalizing V with
  | nil => cases V <;> simp [firstL]
  | cons x U ih =>
    cases V with
    | nil => simp [firstL]
    | cons y V =>
      rw [firstL]
      split
      · exact ih V
      · exact cmpV_cases x y

theorem join_facts (U V : List Val) (hU : ∀ x ∈ U, Clean x) (hV : ∀ x ∈ V, Clean x) (P Q : ByteArray) (hP : (⟨(join U).toArray⟩ : ByteArray) = P) (hQ : (⟨(join V).toArray⟩ : ByteArray) = Q) (F : Int) (hF : firstL U V = F) :
    Op.bytesLess P.toList Q.toList = decide (F < 0) ∧ (P.toList == Q.toList) = (F == 0) := by
  have eP : P.toList = join U := by rw [ByteArray.toList_eq, ← hP]
  have eQ : Q.toList = join V := by rw [ByteArray.toList_eq, ← hQ]
  have key := join_order U V hU hV
  have cc := firstL_cases U V
  rw [hF] at key cc
  constructor
  · rw [eP, eQ, less_cb, key]
    rcases cc with h | h | h <;> simp [h]
  · rw [eP, eQ]
    by_cases h0 : F = 0
    · rw [h0] at key
      rw [(cb_zero _ _).1 key, h0]; simp
    · have : ¬ join U = join V := fun e => by rw [e, cb_self] at key; exact h0 key.symm
      rw [beq_eq_false_iff_ne.2 this, beq_eq_false_iff_ne.2 h0]

end Go.Proofs.Ytblpmbbodajjeaa.K

/- What node.Find and the reference's Find answer. Conditions: short lists. -/
import Derived.Test.YtfbblgcdggpehaaNOwn
namespace Go.Proofs.Ytfbblgcdggpehaa
set_option linter.unusedSimpArgs false
set_option linter.unusedVariables false
open Go.RowKit

/-- the place of a key: how many keys ahead of it are less -/
def fpos : List (List UInt8) → List UInt8 → Nat
  | [], _ => 0
  | x :: K, k => if lessB x k then fpos K k + 1 else 0
def fhas (K : List (List UInt8)) (k : List UInt8) : Bool := decide (K[fpos K k]? = some k)

theorem fpos_le : ∀ (K : List (List UInt8)) (k : List UInt8), fpos K k ≤ K.length
  | [], _ => Nat.le_refl _
  | x :: K, k => by unfold fpos; have := fpos_le K k; split <;> simp <;> omega
theorem fpos_is : ∀ (K : List (List UInt8)) (k : List UInt8) (t : Nat), t ≤ K.length → (∀ i x, i < t → K[i]? = some x → lessB x k = true) → (∀ x, K[t]? = some x → lessB x k = false) → fpos K k = t
  | [], _, t, h, _, _ => by simp at h; subst h; rfl
  | x :: K, k, 0, _, _, h2 => by unfold fpos; rw [if_neg (by rw [h2 x rfl]; decide)]
  | x :: K, k, t + 1, h, h1, h2 => by
    unfold fpos
    rw [if_pos (h1 0 x (by omega) rfl), fpos_is K k t (by simpa using h) (fun i y hi hy => h1 (i + 1) y (by omega) hy) (fun y hy => h2 y hy)]
theorem fpos_less : ∀ (K : List (List UInt8)) (k : List UInt8) (i : Nat) (x : List UInt8), i < fpos K k → K[i]? = some x → lessB x k = true
  | [], _, _, _, h, _ => by simp [fpos] at h
  | y :: K, k, i, x, h, hx => by
    unfold fpos at h
    split at h
    · rename_i hy
      cases i with
      | zero => obtain rfl := Option.some.inj hx; exact hy
      | succ i => exact fpos_less K k i x (by omega) hx
    · omega
theorem fpos_stop : ∀ (K : List (List UInt8)) (k : List UInt8) (x : List UInt8), K[fpos K k]? = some x → lessB x k = false
  | [], _, _, h => by simp at h
  | y :: K, k, x, h => by
    unfold fpos at h
    split at h
    · exact fpos_stop K k x h
    · rename_i hy
      obtain rfl := Option.some.inj h
      simpa using hy

theorem cmp_eq : ∀ a b : List UInt8, Lib.compareBytes a b = 0 ↔ a = b
  | [], [] => by simp [Lib.compareBytes]
  | [], _ :: _ => by simp [Lib.compareBytes]
  | _ :: _, [] => by simp [Lib.compareBytes]
  | c :: a, d :: b => by
    have ih := cmp_eq a b
    rw [Lib.compareBytes]
    by_cases h1 : c < d
    · have hne : ¬ c = d := fun e => by subst e; exact absurd h1 (by simp)
      simp [h1, hne]
    · by_cases h2 : d < c
      · have hne : ¬ c = d := fun e => by subst e; exact h1 h2
        simp [h1, h2, hne]
      · have he : c = d := by
          rw [UInt8.lt_iff_toNat_lt] at h1 h2
          exact UInt8.toNat_inj.1 (by omega)
        subst he
        simp [ih]

set_option maxRecDepth 100000 in
set_option maxHeartbeats 3200000 in
theorem find_any (K : List (List UInt8)) (b : Bool) (n : Int) (ks vs ds kv : Value) (hv1 : vs.oneCell' = true) (hd1 : ds.oneCell' = true) (k : List UInt8) (kn : Nat) (w : World) (hx : Texts w ks K) (hk : Reads 1 w kv kn (k.map B)) (hK : K.length ≤ 1152921504606846976) :
    Calls Try.prog 21 #[.agg #[.bool b, ks, vs, ds, .int .i64 n], kv] w fun e w' => e = .returned (.tuple #[.int .i64 ((fpos K k : Nat) : Int), .bool (fhas K k)]) ∧ Below w.heap.size w w' := by
  obtain ⟨_, ⟨ka, kc, rfl, _⟩, _⟩ := id hx
  obtain ⟨va, vc, rfl⟩ := hk.shape
  obtain ⟨nk, hnk⟩ : ∃ nk, K.length = nk := ⟨_, rfl⟩
  have hB := (Below.refl w.heap.size w).alloc (Nat.le_refl _) (.cells #[.bool b, .slice ka K.length kc, vs, ds, .int .i64 n] 25)
  have HX := Lib.hid (hx.below hB (Nat.le_refl _))
  have HK := Lib.hid (hk.below hB (Nat.le_refl _))
  rw [hnk] at hK HX HK hB ⊢
  have HB := Lib.hid hB
  have HNK := Lib.hid hnk
  clear hx hk hB hnk
  go_enter Try.func21, Try.ntmps21
  go_wp2
  go_loop [12] (fun i => ∃ t : Nat, t ≤ nk ∧ i = .int .i64 t ∧ Hid (∀ i x, i < t → K[i]? = some x → lessB x k = true)) (fun i => nk - (intOf i).toNat)
  case atStart => exact ⟨0, Nat.zero_le _, rfl, Lib.hid (fun i x h => absurd h (Nat.not_lt_zero _))⟩
  case round =>
    obtain ⟨t, ht, rfl, HT⟩ := hrel
    by_cases hlt : t < nk
    · have hkl : t < K.length := by rw [HNK.out]; exact hlt
      have hu : K[t]? = some K[t] := List.getElem?_eq_getElem hkl
      generalize K[t] = l at *
      obtain ⟨b1, p1, q1, a0, c0, e1, hd1, hb1, hrs⟩ := HX.out.at' t l hu
      obtain rfl := (Value.slice.inj e1).1
      obtain ⟨ll, hll⟩ : ∃ ll, l.length = ll := ⟨_, rfl⟩
      rw [hll] at hd1 hrs
      have HU := Lib.hid hu
      have HRS := Lib.hid hrs
      clear e1 hu hrs hkl hll
      go_wp2_with fail
      refine (bcompare_any _ _ _ _ l k _ HRS.out HK.out).mono ?_
      rintro e w2 ⟨rfl, rfl⟩
      cases hle : lessB l k with
      | true =>
        have hc := (cmp_less l k).2 hle
        have HL := Lib.hid hle
        generalize Lib.compareBytes l k = c at *
        have d : decide (0 ≤ c) = false := by simp; omega
        clear hle
        go_wp2
        go_round
        case rel => exact ⟨t + 1, by omega, by go_num, Lib.hid (fun i x hi hx => by
          by_cases e : i = t
          · subst e; rw [HU.out] at hx; obtain rfl := Option.some.inj hx; exact HL.out
          · exact HT.out i x (by omega) hx)⟩
        case measure => simp [intOf]; omega
      | false =>
        have hp : fpos K k = t := fpos_is K k t (by rw [HNK.out]; exact ht) HT.out (fun x hx => by rw [HU.out] at hx; obtain rfl := Option.some.inj hx; exact hle)
        have hc : ¬ Lib.compareBytes l k < 0 := fun h => by have := (cmp_less l k).1 h; rw [hle] at this; cases this
        have hh : fhas K k = (Lib.compareBytes l k == 0) := by
          unfold fhas
          rw [hp, HU.out, Bool.eq_iff_iff, decide_eq_true_eq, beq_iff_eq, cmp_eq]
          exact ⟨fun h => Option.some.inj h, fun h => by rw [h]⟩
        have HP := Lib.hid hp
        have HH := Lib.hid hh
        have hc' : 0 ≤ Lib.compareBytes l k := by omega
        generalize Lib.compareBytes l k = c at *
        have d : decide (0 ≤ c) = true := by simp; omega
        clear hle hp hh hc
        go_wp2
        go_ret2
        exact ⟨by rw [HP.out, HH.out]; rfl, HB.out⟩
    · obtain rfl : t = nk := by omega
      have hp : fpos K k = t := fpos_is K k t (by rw [HNK.out]; exact Nat.le_refl _) HT.out (fun x hx => by rw [List.getElem?_eq_none (by rw [HNK.out]; exact Nat.le_refl _)] at hx; cases hx)
      have hh : fhas K k = false := by
        unfold fhas
        rw [hp, List.getElem?_eq_none (by rw [HNK.out]; exact Nat.le_refl _)]
        rfl
      have HP := Lib.hid hp
      have HH := Lib.hid hh
      clear hp hh
      go_wp2
      go_ret2
      exact ⟨by rw [HP.out, HH.out]; rfl, HB.out⟩

set_option maxRecDepth 100000 in
set_option maxHeartbeats 3200000 in
theorem rfind_any (K : List (List UInt8)) (b : Bool) (n : Int) (ks vs ds : Value) (hv1 : vs.oneCell' = true) (hd1 : ds.oneCell' = true) (k : List UInt8) (w : World) (hx : Reads 1 w ks K.length (K.map S)) (hK : K.length ≤ 1152921504606846976) :
    Calls Try.prog 22 #[.agg #[.bool b, ks, vs, ds, .int .i64 n], S k] w fun e w' => e = .returned (.tuple #[.int .i64 ((fpos K k : Nat) : Int), .bool (fhas K k)]) ∧ Below w.heap.size w w' := by
  obtain ⟨ka, kc, rfl⟩ := hx.shape
  obtain ⟨nk, hnk⟩ : ∃ nk, K.length = nk := ⟨_, rfl⟩
  have hB := (Below.refl w.heap.size w).alloc (Nat.le_refl _) (.cells #[.bool b, .slice ka K.length kc, vs, ds, .int .i64 n] 38)
  have HX := Lib.hid (hx.below hB (Nat.le_refl _))
  rw [hnk] at hK HX hB ⊢
  obtain ⟨g, hg0⟩ : ∃ g, w.heap.size = g := ⟨_, rfl⟩
  have ba := Box.new w #[.bool b, .slice ka nk kc, vs, ds, .int .i64 n] 38 hg0.symm
  have HW := Lib.hid (⟨ba, hB, HX.out⟩ : Box _ _ _ ∧ _ ∧ _)
  have HNK := Lib.hid hnk
  have HG := Lib.hid hg0
  clear hx hB hnk ba HX hg0
  simp only [S]
  go_enter Try.func22, Try.ntmps22
  go_wp2_with fail
  rw [HG.out]
  refine wp_world (fun u => Box u g [.bool b, .slice ka nk kc, vs, ds, .int .i64 n] ∧ Below w.heap.size w u ∧ Reads 1 u (.slice ka nk kc) nk (K.map S)) HW.out ?_
  clear HW
  rintro w0 ⟨ba, hB, hx⟩
  have HX := Lib.hid hx
  clear hx
  have ca0 := ba.cell 0 _ rfl
  have ca1 := ba.cell 1 _ rfl
  have ca2 := ba.cell 2 _ rfl
  have ca3 := ba.cell 3 _ rfl
  have ca4 := ba.cell 4 _ rfl
  go_loop [6] (fun i => ∃ t : Nat, t ≤ nk ∧ i = .int .i64 t ∧ Hid (∀ i x, i < t → K[i]? = some x → lessB x k = true)) (fun i => nk - (intOf i).toNat)
  case atStart => exact ⟨0, Nat.zero_le _, rfl, Lib.hid (fun i x h => absurd h (Nat.not_lt_zero _))⟩
  case round =>
    obtain ⟨t, ht, rfl, HT⟩ := hrel
    by_cases hlt : t < nk
    · have hkl : t < K.length := by rw [HNK.out]; exact hlt
      have hu : K[t]? = some K[t] := List.getElem?_eq_getElem hkl
      generalize K[t] = l at *
      obtain ⟨b1, p1, q1, e1, hb1, _, hd1⟩ := HX.out.at t hlt (S l) (by rw [List.getElem?_map, hu]; rfl)
      have HKA := Lib.hid (Value.slice.inj e1).1
      have HU := Lib.hid hu
      clear e1 hu hkl
      have ca1q := ca1
      rw [HKA.out] at ca1
      clear ca1q
      simp only [S] at hd1
      cases hle : lessB l k with
      | true =>
        have HL := Lib.hid hle
        have d : Op.bytesLess l k = true := hle
        clear hle
        go_wp2
        go_round
        case rel => exact ⟨t + 1, by omega, by go_num, Lib.hid (fun i x hi hx => by
          by_cases e : i = t
          · subst e; rw [HU.out] at hx; obtain rfl := Option.some.inj hx; exact HL.out
          · exact HT.out i x (by omega) hx)⟩
        case measure => simp [intOf]; omega
      | false =>
        have hp : fpos K k = t := fpos_is K k t (by rw [HNK.out]; exact ht) HT.out (fun x hx => by rw [HU.out] at hx; obtain rfl := Option.some.inj hx; exact hle)
        have hh : fhas K k = (l == k) := by
          unfold fhas
          rw [hp, HU.out, Bool.eq_iff_iff, decide_eq_true_eq, beq_iff_eq]
          exact ⟨fun h => Option.some.inj h, fun h => by rw [h]⟩
        have HP := Lib.hid hp
        have HH := Lib.hid hh
        have d : Op.bytesLess l k = false := hle
        clear hle hp hh
        go_wp2
        go_quiet (fail)
        go_wp2
        go_ret2
        exact ⟨by rw [HP.out, HH.out]; rfl, hB.trans ((below_dn (Below.refl w0.heap.size w0) nq).mono (by have := hB.size; omega))⟩
    · obtain rfl : t = nk := by omega
      have hp : fpos K k = t := fpos_is K k t (by rw [HNK.out]; exact Nat.le_refl _) HT.out (fun x hx => by rw [List.getElem?_eq_none (by rw [HNK.out]; exact Nat.le_refl _)] at hx; cases hx)
      have hh : fhas K k = false := by
        unfold fhas
        rw [hp, List.getElem?_eq_none (by rw [HNK.out]; exact Nat.le_refl _)]
        rfl
      have HP := Lib.hid hp
      have HH := Lib.hid hh
      clear hp hh
      go_wp2
      go_quiet (fail)
      go_wp2
      go_ret2
      exact ⟨by rw [HP.out, HH.out]; rfl, hB.trans ((below_dn (Below.refl w0.heap.size w0) nq).mono (by have := hB.size; omega))⟩

end Go.Proofs.Ytfbblgcdggpehaa

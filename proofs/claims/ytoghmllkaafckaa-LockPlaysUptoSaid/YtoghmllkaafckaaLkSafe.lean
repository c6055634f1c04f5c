/- Tables with their blocks told; apart; the law LockSafe, walked. Conditions: at most 349525 wants in all. -/
import Derived.Test.YtoghmllkaafckaaLkBack
import Derived.Test.YtoghmllkaafckaaLkOpen
namespace Go.Proofs.Ytoghmllkaafckaa
set_option linter.unusedSimpArgs false
set_option linter.unusedVariables false
open Go.RowKit

/-- what a call writes: of what was, only S; what it owns then: S', old or new -/
structure Foot (S S' : Nat → Prop) (w w' : World) : Prop where
  grow : GrowX S w w'
  new : ∀ k, S' k → S k ∨ w.heap.size ≤ k
theorem Foot.below {S : Nat → Prop} {w w' : World} (h : Below w.heap.size w w') : Foot S S w w' := ⟨grow_below h, fun k h => .inl h⟩
theorem Foot.trans {S S' S'' : Nat → Prop} {a b c : World} (h : Foot S S' a b) (k : Foot S' S'' b c) : Foot S S'' a c :=
  ⟨h.grow.step k.grow (fun q hq hs => (h.new q hs).elim (fun h => h) (fun h => by omega)), fun q hs => (k.new q hs).elim (fun hs => h.new q hs) (fun h2 => .inr (Nat.le_trans h.grow.size h2))⟩
def Disj (S R : Nat → Prop) : Prop := ∀ k, S k → R k → False
theorem Foot.disj {S S' R : Nat → Prop} {w w' : World} (h : Foot S S' w w') (hd : Disj S R) (hR : ∀ k, R k → k < w.heap.size) : Disj S' R :=
  fun k hs hr => (h.new k hs).elim (fun hs => hd k hs hr) (fun h2 => by have := hR k hr; omega)
theorem Disj.symm {S R : Nat → Prop} (h : Disj S R) : Disj R S := fun k a b => h k b a
/-- the block of a row -/
def rowOf (v : Value) : Nat → Prop := fun k => v.ownBlock = some k

/-- a table in memory that is newer than W0, with at most N locks; its blocks -/
def LT (W0 : World) (tb : Nat) (T : List Hd) (N : Nat) (S : Nat → Prop) (w : World) : Prop :=
  ∃ (v : Value) (n : Nat), TabO w W0.heap.size tb v n T ∧ n ≤ N ∧ W0.heap.size ≤ tb ∧ Below W0.heap.size W0 w ∧ S = fun k => k = tb ∨ v.ownBlock = some k
theorem LT.ls {W0 w : World} {tb N : Nat} {T : List Hd} {S : Nat → Prop} (h : LT W0 tb T N S w) : LS W0 tb T N w := by
  obtain ⟨v, n, h1, h2, h3, h4, _⟩ := h; exact ⟨v, n, h1, h2, h3, h4⟩
theorem LT.bel {W0 w : World} {tb N : Nat} {T : List Hd} {S : Nat → Prop} (h : LT W0 tb T N S w) : Below W0.heap.size W0 w := h.ls.bel
theorem LT.lt {W0 w : World} {tb N : Nat} {T : List Hd} {S : Nat → Prop} (h : LT W0 tb T N S w) : ∀ k, S k → W0.heap.size ≤ k ∧ k < w.heap.size := by
  obtain ⟨v, n, h1, h2, h3, h4, rfl⟩ := h
  rintro k (rfl | h)
  · exact ⟨h3, h1.box.lt⟩
  · exact h1.own.lt k h
theorem LT.grow {W0 w w' : World} {tb N : Nat} {T : List Hd} {S X : Nat → Prop} (h : LT W0 tb T N S w) (hg : GrowX X w w') (hX : Disj S X) (hB : Below W0.heap.size W0 w') : LT W0 tb T N S w' := by
  obtain ⟨v, n, h1, h2, h3, h4, rfl⟩ := h
  exact ⟨v, n, h1.grow hg (fun hx => hX tb (.inl rfl) hx) (fun q e hx => hX q (.inr e) hx), h2, h3, hB, rfl⟩
theorem LT.below {W0 w w' : World} {tb N : Nat} {T : List Hd} {S : Nat → Prop} (h : LT W0 tb T N S w) (hb : Below w.heap.size w w') : LT W0 tb T N S w' :=
  h.grow (X := fun _ => False) (grow_below hb) (fun _ _ h => h) (h.bel.trans (hb.mono h.bel.size))
theorem LT.more {W0 w : World} {tb N M : Nat} {T : List Hd} {S : Nat → Prop} (h : LT W0 tb T N S w) (hM : N ≤ M) : LT W0 tb T M S w := by
  obtain ⟨v, n, h1, h2, h3, h4, h5⟩ := h; exact ⟨v, n, h1, by omega, h3, h4, h5⟩
theorem new_lt (W0 w : World) (hb : Below W0.heap.size W0 w) : Calls Try.prog 13 #[] w fun e w' => ∃ (tb : Nat) (S : Nat → Prop), e = .returned (.pointer (some ⟨tb, 0, none⟩)) ∧ LT W0 tb [] 0 S w' ∧ (∀ k, S k → w.heap.size ≤ k) ∧ Below w.heap.size w w' :=
  (new_any W0.heap.size w hb.size).mono fun _ _ ⟨h1, h2, h3⟩ => ⟨w.heap.size, _, h1, ⟨_, 0, h2, Nat.le_refl _, hb.size, hb.trans (h3.mono hb.size), rfl⟩, fun k h => h.elim (fun h => Nat.le_of_eq h.symm) (fun h => by cases h), h3⟩
theorem LT.step {W0 w w' : World} {tb N M : Nat} {T T' : List Hd} {v : Value} {n : Nat} (h1 : TabO w W0.heap.size tb v n T) (h3 : W0.heap.size ≤ tb) (h4 : Below W0.heap.size W0 w) (hs : TabStep W0.heap.size tb v T' M w w') (hM : M ≤ N) :
    ∃ S', LT W0 tb T' N S' w' ∧ Foot (fun k => k = tb ∨ v.ownBlock = some k) S' w w' := by
  have hb := hs.below h1 h4.size h3 (Nat.le_refl _)
  obtain ⟨v', n', h5, h6, h7, h8⟩ := hs
  exact ⟨_, ⟨v', n', h5, by omega, h3, h4.trans hb, rfl⟩, h8, fun k hk => hk.elim (fun h => .inl (.inl h)) (fun h => (h7 k h).elim (fun h => .inl (.inr h)) (fun h => .inr h))⟩
theorem take_lt {W0 w : World} {tb N : Nat} {T : List Hd} {S : Nat → Prop} (h : LT W0 tb T N S w) (hN : N ≤ 1048576) (id : Int) (l : List Wn) (vl : Value) (nl : Nat) (hl : l.length = nl) (hnl : nl ≤ 1048576) (hv : Reads 2 w vl nl (wcells l)) :
    Calls Try.prog 17 #[.pointer (some ⟨tb, 0, none⟩), .int .i64 id, vl] w fun e w' => ∃ (c : List Int) (S' : Nat → Prop), IsAsk T id l c ∧ e = .returned (.bool (decide (c.length = 0))) ∧
      LT W0 tb (if c.length = 0 then tookL T id l else T) (N + nl) S' w' ∧ Foot S S' w w' := by
  obtain ⟨v, n, h1, h2, h3, h4, rfl⟩ := h
  refine (take_any T W0.heap.size tb n v (by omega) id l vl nl hl hnl w h4.size h1 hv).mono ?_
  rintro e w' ⟨c, ha, hc | hc⟩
  · obtain ⟨S', g1, g2⟩ := LT.step h1 h3 h4 hc.2.2 (by omega : n + nl ≤ N + nl)
    have h0 : c.length = 0 := by rw [hc.1]; rfl
    exact ⟨c, S', ha, by rw [hc.2.1]; simp [h0], by rw [if_pos h0]; exact g1, g2⟩
  · have h0 : ¬ c.length = 0 := fun e => hc.1 (List.eq_nil_of_length_eq_zero e)
    exact ⟨c, _, ha, by rw [hc.2.1]; simp [hc.1], by rw [if_neg h0]; exact (LT.below ⟨v, n, h1, h2, h3, h4, rfl⟩ hc.2.2).more (by omega), Foot.below hc.2.2⟩
theorem release_lt {W0 w : World} {tb N : Nat} {T : List Hd} {S : Nat → Prop} (h : LT W0 tb T N S w) (hN : N ≤ 1048576) (id : Int) :
    Calls Try.prog 14 #[.pointer (some ⟨tb, 0, none⟩), .int .i64 id] w fun e w' => ∃ S' : Nat → Prop, e = .returned (.tuple #[]) ∧ LT W0 tb (releaseL T id) N S' w' ∧ Foot S S' w w' := by
  obtain ⟨v, n, h1, h2, h3, h4, rfl⟩ := h
  refine (release_any T W0.heap.size tb n v (by omega) id w h1).mono ?_
  rintro e w' ⟨rfl, hs⟩
  obtain ⟨S', g1, g2⟩ := LT.step h1 h3 h4 hs h2
  exact ⟨S', rfl, g1, g2⟩
theorem ask_lt {W0 w : World} {tb N : Nat} {T : List Hd} {S : Nat → Prop} (h : LT W0 tb T N S w) (hN : N ≤ 1048576) (id : Int) (l : List Wn) (vl : Value) (nl : Nat) (hl : l.length = nl) (hnl : nl ≤ 1048576) (hv : Reads 2 w vl nl (wcells l)) :
    Calls Try.prog 16 #[.pointer (some ⟨tb, 0, none⟩), .int .i64 id, vl] w fun e w' => ∃ (c : List Int) (ao : Option Addr) (m cp : Nat), e = .returned (.slice ao m cp) ∧ IsAsk T id l c ∧ c.length = m ∧ m ≤ 1099511627776 ∧ Reads 1 w' (.slice ao m cp) m (c.map (Value.int .i64)) ∧ Below w.heap.size w w' :=
  (ask_ls h.ls hN id l vl nl hl hnl hv).mono fun _ _ ⟨c, ao, m, cp, h1, h2, h3, h4, h5, _, h6⟩ => ⟨c, ao, m, cp, h1, h2, h3, h4, h5, h6⟩
theorem held_lt {W0 w : World} {tb N : Nat} {T : List Hd} {S : Nat → Prop} (h : LT W0 tb T N S w) (hN : N ≤ 1048576) (id : Int) :
    Calls Try.prog 15 #[.pointer (some ⟨tb, 0, none⟩), .int .i64 id] w fun e w' => ∃ (c : List Wn) (ao : Option Addr) (m cp : Nat), e = .returned (.slice ao m cp) ∧ IsHeld T id c ∧ c.length = m ∧ m ≤ N ∧ Reads 2 w' (.slice ao m cp) m (wcells c) ∧ Below w.heap.size w w' :=
  (held_ls h.ls hN id).mono fun _ _ ⟨c, ao, m, cp, h1, h2, h3, h4, h5, _, h6⟩ => ⟨c, ao, m, cp, h1, h2, h3, h4, h5, h6⟩
theorem holders_lt {W0 w : World} {tb N : Nat} {T : List Hd} {S : Nat → Prop} (h : LT W0 tb T N S w) (hN : N ≤ 1048576) (nm : ByteArray) :
    Calls Try.prog 19 #[.pointer (some ⟨tb, 0, none⟩), .string nm] w fun e w' => ∃ (c : List Int) (ao : Option Addr) (m cp : Nat), e = .returned (.slice ao m cp) ∧ IsHold T nm c ∧ c.length = m ∧ m ≤ N ∧ Reads 1 w' (.slice ao m cp) m (c.map (Value.int .i64)) ∧ Below w.heap.size w w' :=
  (holders_ls h.ls hN nm).mono fun _ _ ⟨c, ao, m, cp, h1, h2, h3, h4, h5, _, h6⟩ => ⟨c, ao, m, cp, h1, h2, h3, h4, h5, h6⟩

def WAp7 (ba oa na ca bb ob nb cb ix kx : Nat) (x1 : ByteArray) (x2 y2 : Int) (j b o : Nat) : Prop := False
def PAp7 (ba oa na ca bb ob nb cb ix kx : Nat) (x1 : ByteArray) (x2 y2 : Int) (i : Nat) (v : Value) (lo hi : Nat) (w : World) : Prop :=
  match i with
  | 0 => v = .slice (some ⟨ba, oa, none⟩) na ca
  | 1 => v = .int .i64 ((ix : Nat) : Int)
  | 2 => v = .pointer (some ⟨ba, oa + ix * 2, none⟩)
  | 3 => v = .pointer (some ⟨ba, oa + ix * 2, none⟩)
  | 4 => v = .string x1
  | 5 => v = .slice (some ⟨bb, ob, none⟩) nb cb
  | 6 => v = .int .i64 ((kx : Nat) : Int)
  | 7 => v = .pointer (some ⟨bb, ob + kx * 2, none⟩)
  | 8 => v = .pointer (some ⟨bb, ob + kx * 2, none⟩)
  | 9 => v = .string x1
  | 10 => v = .bool true
  | 11 => v = .bool true
  | 12 => v = .slice (some ⟨ba, oa, none⟩) na ca
  | 13 => v = .int .i64 ((ix : Nat) : Int)
  | 14 => v = .pointer (some ⟨ba, oa + ix * 2, none⟩)
  | 15 => v = .pointer (some ⟨ba, oa + ix * 2 + 1, none⟩)
  | 16 => v = .int .i64 x2
  | 17 => v = .slice (some ⟨bb, ob, none⟩) nb cb
  | 18 => v = .int .i64 ((kx : Nat) : Int)
  | 19 => v = .pointer (some ⟨bb, ob + kx * 2, none⟩)
  | 20 => v = .pointer (some ⟨bb, ob + kx * 2 + 1, none⟩)
  | 21 => v = .int .i64 y2
  | 22 => v = .bool true
  | 23 => v = .bool false
  | _ => True
theorem PAp7_stable (ba oa na ca bb ob nb cb ix kx : Nat) (x1 : ByteArray) (x2 y2 : Int)  : ∀ i j, i < 24 → j < 24 → j ≠ i → j ∉ ([[], [], [0, 1], [0, 1, 2], [0, 1, 2, 3], [], [], [5, 6], [5, 6, 7], [5, 6, 7, 8], [0, 1, 2, 3, 4, 5, 6, 7, 8, 9], [0, 1, 2, 3, 4, 5, 6, 7, 8, 9, 10], [0, 1, 2, 3, 4, 5, 6, 7, 8, 9, 10, 11], [0, 1, 2, 3, 4, 5, 6, 7, 8, 9, 10, 11], [0, 1, 2, 3, 4, 5, 6, 7, 8, 9, 10, 11, 12, 13], [0, 1, 2, 3, 4, 5, 6, 7, 8, 9, 10, 11, 12, 13, 14], [0, 1, 2, 3, 4, 5, 6, 7, 8, 9, 10, 11, 12, 13, 14, 15], [0, 1, 2, 3, 4, 5, 6, 7, 8, 9, 10, 11], [0, 1, 2, 3, 4, 5, 6, 7, 8, 9, 10, 11], [0, 1, 2, 3, 4, 5, 6, 7, 8, 9, 10, 11, 17, 18], [0, 1, 2, 3, 4, 5, 6, 7, 8, 9, 10, 11, 17, 18, 19], [0, 1, 2, 3, 4, 5, 6, 7, 8, 9, 10, 11, 17, 18, 19, 20], [0, 1, 2, 3, 4, 5, 6, 7, 8, 9, 10, 11, 12, 13, 14, 15, 16, 17, 18, 19, 20, 21], [0, 1, 2, 3, 4, 5, 6, 7, 8, 9, 10, 11, 12, 13, 14, 15, 16, 17, 18, 19, 20, 21, 22]] : List (List Nat)).getD i [] → ∀ v lo hi w w', PAp7 ba oa na ca bb ob nb cb ix kx x1 x2 y2 i v lo hi w → GrowC (WAp7 ba oa na ca bb ob nb cb ix kx x1 x2 y2 j) w w' → PAp7 ba oa na ca bb ob nb cb ix kx x1 x2 y2 i v lo hi w' := by
  intro i j hi hj hne hbs v lo hj2 w w' h hg
  match i, hi with
  | 0, _ =>
    simp only [PAp7] at h ⊢
    exact h
  | 1, _ =>
    simp only [PAp7] at h ⊢
    exact h
  | 2, _ =>
    simp only [PAp7] at h ⊢
    exact h
  | 3, _ =>
    simp only [PAp7] at h ⊢
    exact h
  | 4, _ =>
    simp only [PAp7] at h ⊢
    exact h
  | 5, _ =>
    simp only [PAp7] at h ⊢
    exact h
  | 6, _ =>
    simp only [PAp7] at h ⊢
    exact h
  | 7, _ =>
    simp only [PAp7] at h ⊢
    exact h
  | 8, _ =>
    simp only [PAp7] at h ⊢
    exact h
  | 9, _ =>
    simp only [PAp7] at h ⊢
    exact h
  | 10, _ =>
    simp only [PAp7] at h ⊢
    exact h
  | 11, _ =>
    simp only [PAp7] at h ⊢
    exact h
  | 12, _ =>
    simp only [PAp7] at h ⊢
    exact h
  | 13, _ =>
    simp only [PAp7] at h ⊢
    exact h
  | 14, _ =>
    simp only [PAp7] at h ⊢
    exact h
  | 15, _ =>
    simp only [PAp7] at h ⊢
    exact h
  | 16, _ =>
    simp only [PAp7] at h ⊢
    exact h
  | 17, _ =>
    simp only [PAp7] at h ⊢
    exact h
  | 18, _ =>
    simp only [PAp7] at h ⊢
    exact h
  | 19, _ =>
    simp only [PAp7] at h ⊢
    exact h
  | 20, _ =>
    simp only [PAp7] at h ⊢
    exact h
  | 21, _ =>
    simp only [PAp7] at h ⊢
    exact h
  | 22, _ =>
    simp only [PAp7] at h ⊢
    exact h
  | 23, _ =>
    simp only [PAp7] at h ⊢
    exact h
  | (q + 24), hq => exact absurd hq (by omega)

set_option maxRecDepth 100000 in
set_option maxHeartbeats 6400000 in
theorem apart_any (A B : List Wn) (va vb : Value) (na nb : Nat) (hla : A.length = na) (hlb : B.length = nb) (hna : na ≤ 1048576) (hnb : nb ≤ 1048576) (hfit : ∀ x ∈ A, ∀ y ∈ B, x.1 = y.1 → fitsB x.2 y.2 = true) (w : World) (hva : Reads 2 w va na (wcells A)) (hvb : Reads 2 w vb nb (wcells B)) :
    Calls Try.prog 18 #[va, vb] w (True2 w) := by
  obtain ⟨aa, ca, rfl⟩ := hva.shape
  obtain ⟨ab, cb, rfl⟩ := hvb.shape
  have HA := Lib.hid hla
  have HB := Lib.hid hlb
  have HVA := Lib.hid hva
  have HVB := Lib.hid hvb
  have HF := Lib.hid hfit
  clear hla hlb hva hvb hfit
  go_enter Try.func18, Try.ntmps18
  go_wp2_with fail
  go_loopw [5] (fun i wr => ∃ k : Nat, k ≤ na ∧ i = .int .i64 k ∧ Below w.heap.size w wr) (fun i _ => na - (intOf i).toNat)
  case atStart => exact ⟨0, Nat.zero_le _, rfl, Below.refl _ _⟩
  case round =>
    obtain ⟨k, hk, rfl, hnx⟩ := hrel
    have HNX := Lib.hid hnx
    clear hnx
    by_cases hlt : k < na
    · have hkA : k < A.length := by rw [HA.out]; exact hlt
      have HX : Hid (∀ y ∈ B, A[k].1 = y.1 → fitsB A[k].2 y.2 = true) := Lib.hid (HF.out A[k] (List.getElem_mem hkA))
      obtain ⟨ba, oa, c', e, hba, _, hc1, hc2⟩ := Wns.at HVA.out k hlt A[k] (List.getElem?_eq_getElem hkA)
      injection e with e1 e2 e3
      subst e1 e3
      generalize A[k] = x at *
      obtain ⟨x1, x2⟩ := x
      have HC1 := Lib.hid hc1
      have HC2 := Lib.hid hc2
      have hkna : k + 1 ≤ na := by omega
      clear hc1 hc2 e2 hkA
      obtain ⟨wo, rfl⟩ : ∃ wo : World, wo = wr := ⟨_, rfl⟩
      go_wp2_with fail
      go_loopw [6] (fun i wr => ∃ j : Nat, j ≤ nb ∧ i = .int .i64 j ∧ Below w.heap.size w wr) (fun i _ => nb - (intOf i).toNat)
      case atStart => exact ⟨0, Nat.zero_le _, rfl, HNX.out⟩
      case round =>
        clear hlt HNX
        obtain ⟨j, hj, rfl, hnx⟩ := hrel
        have hsz := hnx.size
        by_cases hjl : j < nb
        · have hjB : j < B.length := by rw [HB.out]; exact hjl
          obtain ⟨bb, ob, c', e, hbb0, _, hc3, hc4⟩ := Wns.at HVB.out j hjl B[j] (List.getElem?_eq_getElem hjB)
          injection e with e1 e2 e3
          subst e1 e3
          have HY : Hid (x1 = B[j].1 → fitsB x2 B[j].2 = true) := Lib.hid (HX.out B[j] (List.getElem_mem hjB))
          generalize B[j] = y at *
          obtain ⟨y1, y2⟩ := y
          have hd1 := (hnx.cell (p := ⟨ba, oa + k * 2, none⟩) hba).trans HC1.out
          have hd2 := (hnx.cell (p := ⟨ba, oa + k * 2 + 1, none⟩) hba).trans HC2.out
          have hd3 := (hnx.cell (p := ⟨bb, ob + j * 2, none⟩) hbb0).trans hc3
          have hd4 := (hnx.cell (p := ⟨bb, ob + j * 2 + 1, none⟩) hbb0).trans hc4
          simp only at hd1 hd2 hd3 hd4
          have hba' : ba < wr.heap.size := by omega
          have hbb : bb < wr.heap.size := by omega
          clear hc3 hc4 e2 hjB
          by_cases h1 : x1 = y1
          · have HFIT : Hid (fitsB x2 y2 = true) := Lib.hid (HY.out h1)
            have hB := hnx
            subst h1
            clear HY
            go_wp2_with fail
            refine wp_region_partsDC (WAp7 ba oa na ca bb ob nb cb k j x1 x2 y2) 24 [[], [], [0, 1], [0, 1, 2], [0, 1, 2, 3], [], [], [5, 6], [5, 6, 7], [5, 6, 7, 8], [0, 1, 2, 3, 4, 5, 6, 7, 8, 9], [0, 1, 2, 3, 4, 5, 6, 7, 8, 9, 10], [0, 1, 2, 3, 4, 5, 6, 7, 8, 9, 10, 11], [0, 1, 2, 3, 4, 5, 6, 7, 8, 9, 10, 11], [0, 1, 2, 3, 4, 5, 6, 7, 8, 9, 10, 11, 12, 13], [0, 1, 2, 3, 4, 5, 6, 7, 8, 9, 10, 11, 12, 13, 14], [0, 1, 2, 3, 4, 5, 6, 7, 8, 9, 10, 11, 12, 13, 14, 15], [0, 1, 2, 3, 4, 5, 6, 7, 8, 9, 10, 11], [0, 1, 2, 3, 4, 5, 6, 7, 8, 9, 10, 11], [0, 1, 2, 3, 4, 5, 6, 7, 8, 9, 10, 11, 17, 18], [0, 1, 2, 3, 4, 5, 6, 7, 8, 9, 10, 11, 17, 18, 19], [0, 1, 2, 3, 4, 5, 6, 7, 8, 9, 10, 11, 17, 18, 19, 20], [0, 1, 2, 3, 4, 5, 6, 7, 8, 9, 10, 11, 12, 13, 14, 15, 16, 17, 18, 19, 20, 21], [0, 1, 2, 3, 4, 5, 6, 7, 8, 9, 10, 11, 12, 13, 14, 15, 16, 17, 18, 19, 20, 21, 22]] [some 19, some 20, some 21, some 22, some 23, some 24, some 25, some 26, some 27, some 28, some 29, some 30, some 31, some 32, some 33, some 34, some 35, some 36, some 37, some 38, some 39, some 40, some 41, some 42, some 43] (by kernel_rfl) (by kernel_rfl) rfl (PAp7 ba oa na ca bb ob nb cb k j x1 x2 y2) (PAp7_stable ba oa na ca bb ob nb cb k j x1 x2 y2 ) ?pAp7 ?_
            case pAp7 =>
              intro i hi o ho vs lo hx_ w' hg hp
              match i, hi with
              | 0, _ =>
                obtain rfl := Option.some.inj ho
                clear ho
                simp only [actsD, List.getD_cons_zero, List.getD_cons_succ, List.foldl_cons, List.foldl_nil, Act.put, List.setIfInBounds_toArray, List.set_cons_succ, List.set_cons_zero]
                have hsz := hg.size
                have hgB : Below wr.heap.size wr w' := hg.below (fun k hk => ⟨hk, fun o => by rintro ⟨j, _, _, _, hw⟩; exact False.elim hw⟩)
                go_wp2
                exact ⟨_, rfl, GrowC.refl _, rfl⟩
              | 1, _ =>
                obtain rfl := Option.some.inj ho
                clear ho
                simp only [actsD, List.getD_cons_zero, List.getD_cons_succ, List.foldl_cons, List.foldl_nil, Act.put, List.setIfInBounds_toArray, List.set_cons_succ, List.set_cons_zero]
                have hsz := hg.size
                have hgB : Below wr.heap.size wr w' := hg.below (fun k hk => ⟨hk, fun o => by rintro ⟨j, _, _, _, hw⟩; exact False.elim hw⟩)
                go_wp2
                exact ⟨_, rfl, GrowC.refl _, rfl⟩
              | 2, _ =>
                obtain rfl := Option.some.inj ho
                clear ho
                simp only [actsD, List.getD_cons_zero, List.getD_cons_succ, List.foldl_cons, List.foldl_nil, Act.put, List.setIfInBounds_toArray, List.set_cons_succ, List.set_cons_zero]
                obtain ⟨_, _, _, h0⟩ := hp 0 (by simp)
                simp only [PAp7] at h0
                obtain ⟨_, _, _, h1⟩ := hp 1 (by simp)
                simp only [PAp7] at h1
                have hsz := hg.size
                have hgB : Below wr.heap.size wr w' := hg.below (fun k hk => ⟨hk, fun o => by rintro ⟨j, _, _, _, hw⟩; exact False.elim hw⟩)
                rw [h0, h1]
                go_wp2
                exact ⟨_, rfl, GrowC.refl _, rfl⟩
              | 3, _ =>
                obtain rfl := Option.some.inj ho
                clear ho
                simp only [actsD, List.getD_cons_zero, List.getD_cons_succ, List.foldl_cons, List.foldl_nil, Act.put, List.setIfInBounds_toArray, List.set_cons_succ, List.set_cons_zero]
                obtain ⟨_, _, _, h2⟩ := hp 2 (by simp)
                simp only [PAp7] at h2
                have hsz := hg.size
                have hgB : Below wr.heap.size wr w' := hg.below (fun k hk => ⟨hk, fun o => by rintro ⟨j, _, _, _, hw⟩; exact False.elim hw⟩)
                rw [h2]
                go_wp2
                exact ⟨_, rfl, GrowC.refl _, rfl⟩
              | 4, _ =>
                obtain rfl := Option.some.inj ho
                clear ho
                simp only [actsD, List.getD_cons_zero, List.getD_cons_succ, List.foldl_cons, List.foldl_nil, Act.put, List.setIfInBounds_toArray, List.set_cons_succ, List.set_cons_zero]
                obtain ⟨_, _, _, h3⟩ := hp 3 (by simp)
                simp only [PAp7] at h3
                have hsz := hg.size
                have hgB : Below wr.heap.size wr w' := hg.below (fun k hk => ⟨hk, fun o => by rintro ⟨j, _, _, _, hw⟩; exact False.elim hw⟩)
                rw [h3]
                have e0 := (hgB.cell (p := ⟨ba, oa + k * 2, none⟩) hba').trans hd1
                go_wp2
                exact ⟨_, rfl, GrowC.refl _, rfl⟩
              | 5, _ =>
                obtain rfl := Option.some.inj ho
                clear ho
                simp only [actsD, List.getD_cons_zero, List.getD_cons_succ, List.foldl_cons, List.foldl_nil, Act.put, List.setIfInBounds_toArray, List.set_cons_succ, List.set_cons_zero]
                have hsz := hg.size
                have hgB : Below wr.heap.size wr w' := hg.below (fun k hk => ⟨hk, fun o => by rintro ⟨j, _, _, _, hw⟩; exact False.elim hw⟩)
                go_wp2
                exact ⟨_, rfl, GrowC.refl _, rfl⟩
              | 6, _ =>
                obtain rfl := Option.some.inj ho
                clear ho
                simp only [actsD, List.getD_cons_zero, List.getD_cons_succ, List.foldl_cons, List.foldl_nil, Act.put, List.setIfInBounds_toArray, List.set_cons_succ, List.set_cons_zero]
                have hsz := hg.size
                have hgB : Below wr.heap.size wr w' := hg.below (fun k hk => ⟨hk, fun o => by rintro ⟨j, _, _, _, hw⟩; exact False.elim hw⟩)
                go_wp2
                exact ⟨_, rfl, GrowC.refl _, rfl⟩
              | 7, _ =>
                obtain rfl := Option.some.inj ho
                clear ho
                simp only [actsD, List.getD_cons_zero, List.getD_cons_succ, List.foldl_cons, List.foldl_nil, Act.put, List.setIfInBounds_toArray, List.set_cons_succ, List.set_cons_zero]
                obtain ⟨_, _, _, h5⟩ := hp 5 (by simp)
                simp only [PAp7] at h5
                obtain ⟨_, _, _, h6⟩ := hp 6 (by simp)
                simp only [PAp7] at h6
                have hsz := hg.size
                have hgB : Below wr.heap.size wr w' := hg.below (fun k hk => ⟨hk, fun o => by rintro ⟨j, _, _, _, hw⟩; exact False.elim hw⟩)
                rw [h5, h6]
                go_wp2
                exact ⟨_, rfl, GrowC.refl _, rfl⟩
              | 8, _ =>
                obtain rfl := Option.some.inj ho
                clear ho
                simp only [actsD, List.getD_cons_zero, List.getD_cons_succ, List.foldl_cons, List.foldl_nil, Act.put, List.setIfInBounds_toArray, List.set_cons_succ, List.set_cons_zero]
                obtain ⟨_, _, _, h7⟩ := hp 7 (by simp)
                simp only [PAp7] at h7
                have hsz := hg.size
                have hgB : Below wr.heap.size wr w' := hg.below (fun k hk => ⟨hk, fun o => by rintro ⟨j, _, _, _, hw⟩; exact False.elim hw⟩)
                rw [h7]
                go_wp2
                exact ⟨_, rfl, GrowC.refl _, rfl⟩
              | 9, _ =>
                obtain rfl := Option.some.inj ho
                clear ho
                simp only [actsD, List.getD_cons_zero, List.getD_cons_succ, List.foldl_cons, List.foldl_nil, Act.put, List.setIfInBounds_toArray, List.set_cons_succ, List.set_cons_zero]
                obtain ⟨_, _, _, h8⟩ := hp 8 (by simp)
                simp only [PAp7] at h8
                have hsz := hg.size
                have hgB : Below wr.heap.size wr w' := hg.below (fun k hk => ⟨hk, fun o => by rintro ⟨j, _, _, _, hw⟩; exact False.elim hw⟩)
                rw [h8]
                have e0 := (hgB.cell (p := ⟨bb, ob + j * 2, none⟩) hbb).trans hd3
                go_wp2
                exact ⟨_, rfl, GrowC.refl _, rfl⟩
              | 10, _ =>
                obtain rfl := Option.some.inj ho
                clear ho
                simp only [actsD, List.getD_cons_zero, List.getD_cons_succ, List.foldl_cons, List.foldl_nil, Act.put, List.setIfInBounds_toArray, List.set_cons_succ, List.set_cons_zero]
                obtain ⟨_, _, _, h4⟩ := hp 4 (by simp)
                simp only [PAp7] at h4
                obtain ⟨_, _, _, h9⟩ := hp 9 (by simp)
                simp only [PAp7] at h9
                have hsz := hg.size
                have hgB : Below wr.heap.size wr w' := hg.below (fun k hk => ⟨hk, fun o => by rintro ⟨j, _, _, _, hw⟩; exact False.elim hw⟩)
                rw [h4, h9]
                have hb1 : (x1.toList == x1.toList) = true := str_eq rfl
                go_wp2
                exact ⟨_, rfl, GrowC.refl _, rfl⟩
              | 11, _ =>
                obtain rfl := Option.some.inj ho
                clear ho
                simp only [actsD, List.getD_cons_zero, List.getD_cons_succ, List.foldl_cons, List.foldl_nil, Act.put, List.setIfInBounds_toArray, List.set_cons_succ, List.set_cons_zero]
                obtain ⟨_, _, _, h10⟩ := hp 10 (by simp)
                simp only [PAp7] at h10
                have hsz := hg.size
                have hgB : Below wr.heap.size wr w' := hg.below (fun k hk => ⟨hk, fun o => by rintro ⟨j, _, _, _, hw⟩; exact False.elim hw⟩)
                rw [h10]
                go_wp2
                exact ⟨_, rfl, GrowC.refl _, rfl⟩
              | 12, _ =>
                obtain rfl := Option.some.inj ho
                clear ho
                simp only [actsD, List.getD_cons_zero, List.getD_cons_succ, List.foldl_cons, List.foldl_nil, Act.put, List.setIfInBounds_toArray, List.set_cons_succ, List.set_cons_zero]
                obtain ⟨_, _, _, h11⟩ := hp 11 (by simp)
                simp only [PAp7] at h11
                have hsz := hg.size
                have hgB : Below wr.heap.size wr w' := hg.below (fun k hk => ⟨hk, fun o => by rintro ⟨j, _, _, _, hw⟩; exact False.elim hw⟩)
                rw [h11]
                go_wp2
                exact ⟨_, rfl, GrowC.refl _, rfl⟩
              | 13, _ =>
                obtain rfl := Option.some.inj ho
                clear ho
                simp only [actsD, List.getD_cons_zero, List.getD_cons_succ, List.foldl_cons, List.foldl_nil, Act.put, List.setIfInBounds_toArray, List.set_cons_succ, List.set_cons_zero]
                obtain ⟨_, _, _, h11⟩ := hp 11 (by simp)
                simp only [PAp7] at h11
                have hsz := hg.size
                have hgB : Below wr.heap.size wr w' := hg.below (fun k hk => ⟨hk, fun o => by rintro ⟨j, _, _, _, hw⟩; exact False.elim hw⟩)
                rw [h11]
                go_wp2
                exact ⟨_, rfl, GrowC.refl _, rfl⟩
              | 14, _ =>
                obtain rfl := Option.some.inj ho
                clear ho
                simp only [actsD, List.getD_cons_zero, List.getD_cons_succ, List.foldl_cons, List.foldl_nil, Act.put, List.setIfInBounds_toArray, List.set_cons_succ, List.set_cons_zero]
                obtain ⟨_, _, _, h11⟩ := hp 11 (by simp)
                simp only [PAp7] at h11
                obtain ⟨_, _, _, h12⟩ := hp 12 (by simp)
                simp only [PAp7] at h12
                obtain ⟨_, _, _, h13⟩ := hp 13 (by simp)
                simp only [PAp7] at h13
                have hsz := hg.size
                have hgB : Below wr.heap.size wr w' := hg.below (fun k hk => ⟨hk, fun o => by rintro ⟨j, _, _, _, hw⟩; exact False.elim hw⟩)
                rw [h11, h12, h13]
                go_wp2
                exact ⟨_, rfl, GrowC.refl _, rfl⟩
              | 15, _ =>
                obtain rfl := Option.some.inj ho
                clear ho
                simp only [actsD, List.getD_cons_zero, List.getD_cons_succ, List.foldl_cons, List.foldl_nil, Act.put, List.setIfInBounds_toArray, List.set_cons_succ, List.set_cons_zero]
                obtain ⟨_, _, _, h11⟩ := hp 11 (by simp)
                simp only [PAp7] at h11
                obtain ⟨_, _, _, h14⟩ := hp 14 (by simp)
                simp only [PAp7] at h14
                have hsz := hg.size
                have hgB : Below wr.heap.size wr w' := hg.below (fun k hk => ⟨hk, fun o => by rintro ⟨j, _, _, _, hw⟩; exact False.elim hw⟩)
                rw [h11, h14]
                go_wp2
                exact ⟨_, rfl, GrowC.refl _, rfl⟩
              | 16, _ =>
                obtain rfl := Option.some.inj ho
                clear ho
                simp only [actsD, List.getD_cons_zero, List.getD_cons_succ, List.foldl_cons, List.foldl_nil, Act.put, List.setIfInBounds_toArray, List.set_cons_succ, List.set_cons_zero]
                obtain ⟨_, _, _, h11⟩ := hp 11 (by simp)
                simp only [PAp7] at h11
                obtain ⟨_, _, _, h15⟩ := hp 15 (by simp)
                simp only [PAp7] at h15
                have hsz := hg.size
                have hgB : Below wr.heap.size wr w' := hg.below (fun k hk => ⟨hk, fun o => by rintro ⟨j, _, _, _, hw⟩; exact False.elim hw⟩)
                rw [h11, h15]
                have e0 := (hgB.cell (p := ⟨ba, oa + k * 2 + 1, none⟩) hba').trans hd2
                go_wp2
                exact ⟨_, rfl, GrowC.refl _, rfl⟩
              | 17, _ =>
                obtain rfl := Option.some.inj ho
                clear ho
                simp only [actsD, List.getD_cons_zero, List.getD_cons_succ, List.foldl_cons, List.foldl_nil, Act.put, List.setIfInBounds_toArray, List.set_cons_succ, List.set_cons_zero]
                obtain ⟨_, _, _, h11⟩ := hp 11 (by simp)
                simp only [PAp7] at h11
                have hsz := hg.size
                have hgB : Below wr.heap.size wr w' := hg.below (fun k hk => ⟨hk, fun o => by rintro ⟨j, _, _, _, hw⟩; exact False.elim hw⟩)
                rw [h11]
                go_wp2
                exact ⟨_, rfl, GrowC.refl _, rfl⟩
              | 18, _ =>
                obtain rfl := Option.some.inj ho
                clear ho
                simp only [actsD, List.getD_cons_zero, List.getD_cons_succ, List.foldl_cons, List.foldl_nil, Act.put, List.setIfInBounds_toArray, List.set_cons_succ, List.set_cons_zero]
                obtain ⟨_, _, _, h11⟩ := hp 11 (by simp)
                simp only [PAp7] at h11
                have hsz := hg.size
                have hgB : Below wr.heap.size wr w' := hg.below (fun k hk => ⟨hk, fun o => by rintro ⟨j, _, _, _, hw⟩; exact False.elim hw⟩)
                rw [h11]
                go_wp2
                exact ⟨_, rfl, GrowC.refl _, rfl⟩
              | 19, _ =>
                obtain rfl := Option.some.inj ho
                clear ho
                simp only [actsD, List.getD_cons_zero, List.getD_cons_succ, List.foldl_cons, List.foldl_nil, Act.put, List.setIfInBounds_toArray, List.set_cons_succ, List.set_cons_zero]
                obtain ⟨_, _, _, h11⟩ := hp 11 (by simp)
                simp only [PAp7] at h11
                obtain ⟨_, _, _, h17⟩ := hp 17 (by simp)
                simp only [PAp7] at h17
                obtain ⟨_, _, _, h18⟩ := hp 18 (by simp)
                simp only [PAp7] at h18
                have hsz := hg.size
                have hgB : Below wr.heap.size wr w' := hg.below (fun k hk => ⟨hk, fun o => by rintro ⟨j, _, _, _, hw⟩; exact False.elim hw⟩)
                rw [h11, h17, h18]
                go_wp2
                exact ⟨_, rfl, GrowC.refl _, rfl⟩
              | 20, _ =>
                obtain rfl := Option.some.inj ho
                clear ho
                simp only [actsD, List.getD_cons_zero, List.getD_cons_succ, List.foldl_cons, List.foldl_nil, Act.put, List.setIfInBounds_toArray, List.set_cons_succ, List.set_cons_zero]
                obtain ⟨_, _, _, h11⟩ := hp 11 (by simp)
                simp only [PAp7] at h11
                obtain ⟨_, _, _, h19⟩ := hp 19 (by simp)
                simp only [PAp7] at h19
                have hsz := hg.size
                have hgB : Below wr.heap.size wr w' := hg.below (fun k hk => ⟨hk, fun o => by rintro ⟨j, _, _, _, hw⟩; exact False.elim hw⟩)
                rw [h11, h19]
                go_wp2
                exact ⟨_, rfl, GrowC.refl _, rfl⟩
              | 21, _ =>
                obtain rfl := Option.some.inj ho
                clear ho
                simp only [actsD, List.getD_cons_zero, List.getD_cons_succ, List.foldl_cons, List.foldl_nil, Act.put, List.setIfInBounds_toArray, List.set_cons_succ, List.set_cons_zero]
                obtain ⟨_, _, _, h11⟩ := hp 11 (by simp)
                simp only [PAp7] at h11
                obtain ⟨_, _, _, h20⟩ := hp 20 (by simp)
                simp only [PAp7] at h20
                have hsz := hg.size
                have hgB : Below wr.heap.size wr w' := hg.below (fun k hk => ⟨hk, fun o => by rintro ⟨j, _, _, _, hw⟩; exact False.elim hw⟩)
                rw [h11, h20]
                have e0 := (hgB.cell (p := ⟨bb, ob + j * 2 + 1, none⟩) hbb).trans hd4
                go_wp2
                exact ⟨_, rfl, GrowC.refl _, rfl⟩
              | 22, _ =>
                obtain rfl := Option.some.inj ho
                clear ho
                simp only [actsD, List.getD_cons_zero, List.getD_cons_succ, List.foldl_cons, List.foldl_nil, Act.put, List.setIfInBounds_toArray, List.set_cons_succ, List.set_cons_zero]
                obtain ⟨_, _, _, h11⟩ := hp 11 (by simp)
                simp only [PAp7] at h11
                obtain ⟨_, _, _, h16⟩ := hp 16 (by simp)
                simp only [PAp7] at h16
                obtain ⟨_, _, _, h21⟩ := hp 21 (by simp)
                simp only [PAp7] at h21
                have hsz := hg.size
                have hgB : Below wr.heap.size wr w' := hg.below (fun k hk => ⟨hk, fun o => by rintro ⟨j, _, _, _, hw⟩; exact False.elim hw⟩)
                rw [h11, h16, h21]
                go_wp2_with fail
                refine (fits_any x2 y2 _).mono ?_
                rintro e wc ⟨rfl, hbc⟩
                rw [HFIT.out]
                go_wp2
                exact ⟨_, rfl, GrowC.of_grow hbc, rfl⟩
              | 23, _ =>
                obtain rfl := Option.some.inj ho
                clear ho
                simp only [actsD, List.getD_cons_zero, List.getD_cons_succ, List.foldl_cons, List.foldl_nil, Act.put, List.setIfInBounds_toArray, List.set_cons_succ, List.set_cons_zero]
                obtain ⟨_, _, _, h11⟩ := hp 11 (by simp)
                simp only [PAp7] at h11
                obtain ⟨_, _, _, h22⟩ := hp 22 (by simp)
                simp only [PAp7] at h22
                have hsz := hg.size
                have hgB : Below wr.heap.size wr w' := hg.below (fun k hk => ⟨hk, fun o => by rintro ⟨j, _, _, _, hw⟩; exact False.elim hw⟩)
                rw [h11, h22]
                go_wp2
                exact ⟨_, rfl, GrowC.refl _, rfl⟩
              | (q + 24), hq => exact absurd hq (by omega)
            intro vS lo hi w5 hg hp
            generalize hLL : List.drop 24 _ = LL
            simp only [List.drop_succ_cons, List.drop_zero, List.drop_nil] at hLL
            intro hd
            obtain ⟨_, _, _, h0⟩ := hp 0 (by decide)
            obtain ⟨_, _, _, h1⟩ := hp 1 (by decide)
            obtain ⟨_, _, _, h2⟩ := hp 2 (by decide)
            obtain ⟨_, _, _, h3⟩ := hp 3 (by decide)
            obtain ⟨_, _, _, h4⟩ := hp 4 (by decide)
            obtain ⟨_, _, _, h5⟩ := hp 5 (by decide)
            obtain ⟨_, _, _, h6⟩ := hp 6 (by decide)
            obtain ⟨_, _, _, h7⟩ := hp 7 (by decide)
            obtain ⟨_, _, _, h8⟩ := hp 8 (by decide)
            obtain ⟨_, _, _, h9⟩ := hp 9 (by decide)
            obtain ⟨_, _, _, h10⟩ := hp 10 (by decide)
            obtain ⟨_, _, _, h11⟩ := hp 11 (by decide)
            obtain ⟨_, _, _, h12⟩ := hp 12 (by decide)
            obtain ⟨_, _, _, h13⟩ := hp 13 (by decide)
            obtain ⟨_, _, _, h14⟩ := hp 14 (by decide)
            obtain ⟨_, _, _, h15⟩ := hp 15 (by decide)
            obtain ⟨_, _, _, h16⟩ := hp 16 (by decide)
            obtain ⟨_, _, _, h17⟩ := hp 17 (by decide)
            obtain ⟨_, _, _, h18⟩ := hp 18 (by decide)
            obtain ⟨_, _, _, h19⟩ := hp 19 (by decide)
            obtain ⟨_, _, _, h20⟩ := hp 20 (by decide)
            obtain ⟨_, _, _, h21⟩ := hp 21 (by decide)
            obtain ⟨_, _, _, h22⟩ := hp 22 (by decide)
            obtain ⟨_, _, _, h23⟩ := hp 23 (by decide)
            simp only [PAp7] at h0 h1 h2 h3 h4 h5 h6 h7 h8 h9 h10 h11 h12 h13 h14 h15 h16 h17 h18 h19 h20 h21 h22 h23
            clear hp hd
            have hsz := hg.size
            replace hB := hB.trans (hg.below (fun k hk => ⟨by omega, fun o => by rintro ⟨j, _, hw⟩; exact False.elim hw⟩))
            subst hLL
            have hr : List.range 24 = [0, 1, 2, 3, 4, 5, 6, 7, 8, 9, 10, 11, 12, 13, 14, 15, 16, 17, 18, 19, 20, 21, 22, 23] := rfl
            rw [hr]
            clear hr
            simp only [List.drop_succ_cons, List.drop_zero, List.drop_nil, actsD, List.getD_cons_zero, List.getD_cons_succ, List.foldl_cons, List.foldl_nil, Act.put, List.setIfInBounds_toArray, List.set_cons_succ, List.set_cons_zero, h0, h1, h2, h3, h4, h5, h6, h7, h8, h9, h10, h11, h12, h13, h14, h15, h16, h17, h18, h19, h20, h21, h22, h23]
            clear h0 h1 h2 h3 h4 h5 h6 h7 h8 h9 h10 h11 h12 h13 h14 h15 h16 h17 h18 h19 h20 h21 h22 h23
            go_wp2_with fail
            go_roundw
            case rel => exact ⟨j + 1, by omega, by go_num, hB⟩
            case measure => simp [intOf]; omega
          · have hb1 : (x1.toList == y1.toList) = false := str_ne h1
            clear HY h1
            go_wp2_with fail
            go_quiet (fail)
            have hq := below_dn hnx nq
            go_wp2_with fail
            go_roundw
            case rel => exact ⟨j + 1, by omega, by go_num, hq⟩
            case measure => simp [intOf]; omega
        · go_wp2_with fail
          go_roundw
          case rel => exact ⟨k + 1, by omega, by go_num, hnx⟩
          case measure => simp [intOf]; omega
    · go_wp2_with fail
      go_ret
      exact ⟨rfl, HNX.out⟩
end Go.Proofs.Ytoghmllkaafckaa

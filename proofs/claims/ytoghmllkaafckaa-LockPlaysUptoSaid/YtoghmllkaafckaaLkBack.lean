/- Calls over a table in new memory; the law LockBack, walked. Conditions: at most 349525 wants in all. -/
import Derived.Test.YtoghmllkaafckaaLkModes
namespace Go.Proofs.Ytoghmllkaafckaa
set_option linter.unusedSimpArgs false
set_option linter.unusedVariables false
open Go.RowKit

/-- a table in memory that is newer than W0, with at most N locks -/
def LS (W0 : World) (tb : Nat) (T : List Hd) (N : Nat) (w : World) : Prop := ∃ (v : Value) (n : Nat), TabO w W0.heap.size tb v n T ∧ n ≤ N ∧ W0.heap.size ≤ tb ∧ Below W0.heap.size W0 w
theorem LS.bel {W0 w : World} {tb N : Nat} {T : List Hd} (h : LS W0 tb T N w) : Below W0.heap.size W0 w := by obtain ⟨_, _, _, _, _, h⟩ := h; exact h
theorem LS.grow {W0 w w' : World} {tb N : Nat} {T : List Hd} (h : LS W0 tb T N w) (hb : Below w.heap.size w w') : LS W0 tb T N w' := by
  obtain ⟨v, n, h1, h2, h3, h4⟩ := h
  exact ⟨v, n, h1.below hb, h2, h3, h4.trans (hb.mono h4.size)⟩
theorem LS.step {W0 w w' : World} {tb N M : Nat} {T T' : List Hd} {v : Value} {n : Nat} (h1 : TabO w W0.heap.size tb v n T) (h3 : W0.heap.size ≤ tb) (h4 : Below W0.heap.size W0 w) (hs : TabStep W0.heap.size tb v T' M w w') (hM : M ≤ N) : LS W0 tb T' N w' := by
  have hb := hs.below h1 h4.size h3 (Nat.le_refl _)
  obtain ⟨v', n', h5, h6, _, _⟩ := hs
  exact ⟨v', n', h5, by omega, h3, h4.trans hb⟩
theorem new_ls (W0 w : World) (hb : Below W0.heap.size W0 w) : Calls Try.prog 13 #[] w fun e w' => ∃ tb, e = .returned (.pointer (some ⟨tb, 0, none⟩)) ∧ LS W0 tb [] 0 w' :=
  (new_any W0.heap.size w hb.size).mono fun _ _ ⟨h1, h2, h3⟩ => ⟨w.heap.size, h1, _, 0, h2, Nat.le_refl _, hb.size, hb.trans (h3.mono hb.size)⟩
theorem take_ls {W0 w : World} {tb N : Nat} {T : List Hd} (h : LS W0 tb T N w) (hN : N ≤ 1048576) (id : Int) (l : List Wn) (vl : Value) (nl : Nat) (hl : l.length = nl) (hnl : nl ≤ 1048576) (hv : Reads 2 w vl nl (wcells l)) :
    Calls Try.prog 17 #[.pointer (some ⟨tb, 0, none⟩), .int .i64 id, vl] w fun e w' => ∃ c : List Int, IsAsk T id l c ∧
      ((c = [] ∧ e = .returned (.bool true) ∧ LS W0 tb (tookL T id l) (N + nl) w') ∨ (c ≠ [] ∧ e = .returned (.bool false) ∧ LS W0 tb T N w')) := by
  obtain ⟨v, n, h1, h2, h3, h4⟩ := h
  refine (take_any T W0.heap.size tb n v (by omega) id l vl nl hl hnl w h4.size h1 hv).mono ?_
  rintro e w' ⟨c, ha, hc | hc⟩
  · exact ⟨c, ha, .inl ⟨hc.1, hc.2.1, LS.step h1 h3 h4 hc.2.2 (by omega)⟩⟩
  · exact ⟨c, ha, .inr ⟨hc.1, hc.2.1, LS.grow ⟨v, n, h1, h2, h3, h4⟩ hc.2.2⟩⟩
theorem take_yes {W0 w : World} {tb N : Nat} {T : List Hd} (h : LS W0 tb T N w) (hN : N ≤ 1048576) (id : Int) (l : List Wn) (vl : Value) (nl : Nat) (hl : l.length = nl) (hnl : nl ≤ 1048576) (hv : Reads 2 w vl nl (wcells l)) (hc : ∀ c, IsAsk T id l c → c = []) :
    Calls Try.prog 17 #[.pointer (some ⟨tb, 0, none⟩), .int .i64 id, vl] w fun e w' => e = .returned (.bool true) ∧ LS W0 tb (tookL T id l) (N + nl) w' :=
  (take_ls h hN id l vl nl hl hnl hv).mono fun _ _ ⟨c, ha, hr⟩ => hr.elim (fun hr => hr.2) (fun hr => absurd (hc c ha) hr.1)
theorem take_no {W0 w : World} {tb N : Nat} {T : List Hd} (h : LS W0 tb T N w) (hN : N ≤ 1048576) (id : Int) (l : List Wn) (vl : Value) (nl : Nat) (hl : l.length = nl) (hnl : nl ≤ 1048576) (hv : Reads 2 w vl nl (wcells l)) (hc : ∀ c, IsAsk T id l c → c ≠ []) :
    Calls Try.prog 17 #[.pointer (some ⟨tb, 0, none⟩), .int .i64 id, vl] w fun e w' => e = .returned (.bool false) ∧ LS W0 tb T N w' :=
  (take_ls h hN id l vl nl hl hnl hv).mono fun _ _ ⟨c, ha, hr⟩ => hr.elim (fun hr => absurd hr.1 (hc c ha)) (fun hr => hr.2)
theorem ask_ls {W0 w : World} {tb N : Nat} {T : List Hd} (h : LS W0 tb T N w) (hN : N ≤ 1048576) (id : Int) (l : List Wn) (vl : Value) (nl : Nat) (hl : l.length = nl) (hnl : nl ≤ 1048576) (hv : Reads 2 w vl nl (wcells l)) :
    Calls Try.prog 16 #[.pointer (some ⟨tb, 0, none⟩), .int .i64 id, vl] w fun e w' => ∃ (c : List Int) (ao : Option Addr) (m cp : Nat), e = .returned (.slice ao m cp) ∧ IsAsk T id l c ∧ c.length = m ∧ m ≤ 1099511627776 ∧ Reads 1 w' (.slice ao m cp) m (c.map (Value.int .i64)) ∧ LS W0 tb T N w' ∧ Below w.heap.size w w' := by
  obtain ⟨v, n, h1, h2, h3, h4⟩ := h
  obtain ⟨ao, c0, rfl, hr⟩ := h1.read
  refine (ask_any T tb n c0 ao (by omega) id l vl nl hl hnl w hr hv).mono ?_
  rintro e w' ⟨c, v', m, rfl, g1, g2, g3, g4, g5⟩
  obtain ⟨a, cp, rfl⟩ := g4.shape
  exact ⟨c, a, m, cp, rfl, g1, g2, g3, g4, LS.grow ⟨_, n, h1, h2, h3, h4⟩ g5, g5⟩
theorem ask_zero {W0 w : World} {tb N : Nat} {T : List Hd} (h : LS W0 tb T N w) (hN : N ≤ 1048576) (id : Int) (l : List Wn) (vl : Value) (nl : Nat) (hl : l.length = nl) (hnl : nl ≤ 1048576) (hv : Reads 2 w vl nl (wcells l)) (hc : ∀ c, IsAsk T id l c → c = []) :
    Calls Try.prog 16 #[.pointer (some ⟨tb, 0, none⟩), .int .i64 id, vl] w fun e w' => ∃ (ao : Option Addr) (cp : Nat), e = .returned (.slice ao 0 cp) ∧ LS W0 tb T N w' :=
  (ask_ls h hN id l vl nl hl hnl hv).mono fun _ _ ⟨c, ao, m, cp, h1, h2, h3, h4, _, h5, _⟩ => by
    obtain rfl := hc c h2
    obtain rfl : m = 0 := h3.symm
    exact ⟨ao, cp, h1, h5⟩
theorem held_ls {W0 w : World} {tb N : Nat} {T : List Hd} (h : LS W0 tb T N w) (hN : N ≤ 1048576) (id : Int) :
    Calls Try.prog 15 #[.pointer (some ⟨tb, 0, none⟩), .int .i64 id] w fun e w' => ∃ (c : List Wn) (ao : Option Addr) (m cp : Nat), e = .returned (.slice ao m cp) ∧ IsHeld T id c ∧ c.length = m ∧ m ≤ N ∧ Reads 2 w' (.slice ao m cp) m (wcells c) ∧ LS W0 tb T N w' ∧ Below w.heap.size w w' := by
  obtain ⟨v, n, h1, h2, h3, h4⟩ := h
  obtain ⟨ao, c0, rfl, hr⟩ := h1.read
  refine (held_any T tb n c0 ao (by omega) id w hr).mono ?_
  rintro e w' ⟨c, v', m, rfl, g1, g2, g3, g4, g5⟩
  obtain ⟨a, cp, rfl⟩ := g4.shape
  exact ⟨c, a, m, cp, rfl, g1, g2, by omega, g4, LS.grow ⟨_, n, h1, h2, h3, h4⟩ g5, g5⟩
theorem held_len {W0 w : World} {tb N : Nat} {T : List Hd} (h : LS W0 tb T N w) (hN : N ≤ 1048576) (id : Int) (m : Nat) (hm : (heldRaw id T).length = m) :
    Calls Try.prog 15 #[.pointer (some ⟨tb, 0, none⟩), .int .i64 id] w fun e w' => ∃ (ao : Option Addr) (cp : Nat), e = .returned (.slice ao m cp) ∧ LS W0 tb T N w' :=
  (held_ls h hN id).mono fun _ _ ⟨c, ao, k, cp, h1, h2, h3, _, _, h5, _⟩ => by
    have : k = m := by rw [← h3, h2.perm.length_eq, hm]
    subst this
    exact ⟨ao, cp, h1, h5⟩
theorem holders_ls {W0 w : World} {tb N : Nat} {T : List Hd} (h : LS W0 tb T N w) (hN : N ≤ 1048576) (nm : ByteArray) :
    Calls Try.prog 19 #[.pointer (some ⟨tb, 0, none⟩), .string nm] w fun e w' => ∃ (c : List Int) (ao : Option Addr) (m cp : Nat), e = .returned (.slice ao m cp) ∧ IsHold T nm c ∧ c.length = m ∧ m ≤ N ∧ Reads 1 w' (.slice ao m cp) m (c.map (Value.int .i64)) ∧ LS W0 tb T N w' ∧ Below w.heap.size w w' := by
  obtain ⟨v, n, h1, h2, h3, h4⟩ := h
  obtain ⟨ao, c0, rfl, hr⟩ := h1.read
  refine (holders_any T tb n c0 ao (by omega) nm w hr).mono ?_
  rintro e w' ⟨c, v', m, rfl, g1, g2, g3, g4, g5⟩
  obtain ⟨a, cp, rfl⟩ := g4.shape
  exact ⟨c, a, m, cp, rfl, g1, g2, by omega, g4, LS.grow ⟨_, n, h1, h2, h3, h4⟩ g5, g5⟩
theorem release_ls {W0 w : World} {tb N : Nat} {T : List Hd} (h : LS W0 tb T N w) (hN : N ≤ 1048576) (id : Int) :
    Calls Try.prog 14 #[.pointer (some ⟨tb, 0, none⟩), .int .i64 id] w fun e w' => e = .returned (.tuple #[]) ∧ LS W0 tb (releaseL T id) N w' := by
  obtain ⟨v, n, h1, h2, h3, h4⟩ := h
  exact (release_any T W0.heap.size tb n v (by omega) id w h1).mono fun _ _ ⟨g1, g2⟩ => ⟨g1, LS.step h1 h3 h4 g2 h2⟩

theorem back_ids1 (a : List Wn) : ∀ x ∈ tookL (tookL [] 1 a) 1 a, x.1 = 1 := took_ids (p := fun i => i = 1) (took_ids (p := fun i => i = 1) (fun x hx => by cases hx) rfl a) rfl a
theorem back_len (a : List Wn) : (heldRaw 1 (tookL (tookL [] 1 a) 1 a)).length = (heldRaw 1 (tookL [] 1 a)).length :=
  (heldRaw_perm (perm_of_same (uniq_tookL (uniq_tookL uniq_nil 1 a) 1 a) (uniq_tookL uniq_nil 1 a) (took_again uniq_nil 1 a)) 1).length_eq

set_option maxRecDepth 100000 in
set_option maxHeartbeats 6400000 in
theorem back_any (a b : List Wn) (va vb : Value) (na nb : Nat) (hla : a.length = na) (hlb : b.length = nb) (hnab : na + nb ≤ 349525) (w : World) (hva : Reads 2 w va na (wcells a)) (hvb : Reads 2 w vb nb (wcells b)) :
    Calls Try.prog 6 #[va, vb] w (True2 w) := by
  have HA := Lib.hid hla
  have HB := Lib.hid hlb
  have HVA := Lib.hid hva
  have HVB := Lib.hid hvb
  clear hla hlb hva hvb
  have RA : Hid (∀ w', Below w.heap.size w w' → Reads 2 w' va na (wcells a)) := Lib.hid (fun w' hb => HVA.out.below hb (Nat.le_refl _))
  have RB : Hid (∀ w', Below w.heap.size w w' → Reads 2 w' vb nb (wcells b)) := Lib.hid (fun w' hb => HVB.out.below hb (Nat.le_refl _))
  clear HVA HVB
  go_enter Try.func6, Try.ntmps6
  go_wp2_with fail
  refine (new_ls w w (Below.refl _ _)).mono ?_
  rintro e w1 ⟨tb, rfl, h1⟩
  have H := Lib.hid h1
  clear h1
  go_wp2_with fail
  refine (take_yes H.out (by omega) 1 a va na HA.out (by omega) (RA.out _ H.out.bel) (fun c hc => ask_own hc (fun x hx => by cases hx))).mono ?_
  rintro e w2 ⟨rfl, h2⟩
  clear H
  have H := Lib.hid h2
  clear h2
  go_wp2_with fail
  obtain ⟨k1, hk1⟩ : ∃ k, (heldRaw 1 (tookL [] 1 a)).length = k := ⟨_, rfl⟩
  have HK1 := Lib.hid hk1
  clear hk1
  refine (held_len H.out (by omega) 1 k1 HK1.out).mono ?_
  rintro e w3 ⟨a3, c3, rfl, h3⟩
  clear H
  have H := Lib.hid h3
  clear h3
  go_wp2_with fail
  refine (take_yes H.out (by omega) 1 a va na HA.out (by omega) (RA.out _ H.out.bel) (fun c hc => ask_own hc (took_ids (p := fun i => i = 1) (fun x hx => by cases hx) rfl a))).mono ?_
  rintro e w4 ⟨rfl, h4⟩
  clear H
  have H := Lib.hid h4
  have HIDS := Lib.hid (back_ids1 a)
  have HLN := Lib.hid (back_len a)
  have HU := Lib.hid (uniq_tookL (uniq_tookL uniq_nil 1 a) 1 a)
  clear h4
  generalize tookL (tookL [] 1 a) 1 a = T at *
  go_wp2_with fail
  refine (held_len H.out (by omega) 1 k1 (HLN.out.trans HK1.out)).mono ?_
  rintro e w5 ⟨a5, c5, rfl, h5⟩
  clear H
  have H := Lib.hid h5
  clear h5
  have hkk : ((k1 : Int) != (k1 : Int)) = false := by simp
  go_wp2_with fail
  refine (ask_zero H.out (by omega) 1 b vb nb HB.out (by omega) (RB.out _ H.out.bel) (fun c hc => ask_own hc HIDS.out)).mono ?_
  rintro e w6 ⟨a6, c6, rfl, h6⟩
  clear H
  have H := Lib.hid h6
  clear h6
  go_wp2_with fail
  refine (ask_ls H.out (by omega) 2 b vb nb HB.out (by omega) (RB.out _ H.out.bel)).mono ?_
  rintro e w7 ⟨c7, a7, m7, p7, rfl, hask, hm7, hmb7, _, h7, _⟩
  have HASK := Lib.hid hask
  have HM7 := Lib.hid hm7
  clear H hask hm7
  have H := Lib.hid h7
  clear h7
  obtain ⟨T2, hT2⟩ : ∃ T2, T2 = (if m7 = 0 then tookL T 2 b else T) := ⟨_, rfl⟩
  obtain ⟨bf, hbf⟩ : ∃ bf : Bool, bf = decide (m7 = 0) := ⟨_, rfl⟩
  have hids2 : ∀ x ∈ T2, x.1 = 1 ∨ x.1 = 2 := by
    rw [hT2]
    split
    · exact took_ids (p := fun i => i = 1 ∨ i = 2) (fun x hx => .inl (HIDS.out x hx)) (.inr rfl) b
    · exact fun x hx => .inl (HIDS.out x hx)
  have hu2 : Uniq T2 := by
    rw [hT2]
    split
    · exact uniq_tookL HU.out 2 b
    · exact HU.out
  have HI2 := Lib.hid hids2
  have HU2 := Lib.hid hu2
  have HNEXT : Hid (∀ W, LS w tb T (0 + na + na) W → Calls Try.prog 17 #[.pointer (some ⟨tb, 0, none⟩), .int .i64 2, vb] W fun e w' => e = .returned (.bool bf) ∧ LS w tb T2 (0 + na + na + nb) w') := Lib.hid (by
    intro W hW
    by_cases h0 : m7 = 0
    · have hc7 : c7 = [] := List.eq_nil_of_length_eq_zero (by rw [HM7.out, h0])
      have e1 : T2 = tookL T 2 b := by rw [hT2, if_pos h0]
      have e2 : bf = true := by rw [hbf]; simpa using h0
      rw [e1, e2]
      exact take_yes hW (by omega) 2 b vb nb HB.out (by omega) (RB.out _ hW.bel) (fun c hc => by rw [hc.eq HU.out HU.out (fun _ => Iff.rfl) HASK.out, hc7])
    · have hc7 : c7 ≠ [] := fun e => h0 (by rw [← HM7.out, e]; rfl)
      have e1 : T2 = T := by rw [hT2, if_neg h0]
      have e2 : bf = false := by rw [hbf]; simpa using h0
      rw [e1, e2]
      exact (take_no hW (by omega) 2 b vb nb HB.out (by omega) (RB.out _ hW.bel) (fun c hc => by rw [hc.eq HU.out HU.out (fun _ => Iff.rfl) HASK.out]; exact hc7)).mono fun _ _ ⟨h1, v, n, h2, h3, h4, h5⟩ => ⟨h1, v, n, h2, by omega, h4, h5⟩)
  have HBF : Hid (((m7 : Int) == 0) = bf) := Lib.hid (by rw [hbf, Bool.eq_iff_iff]; simp)
  clear hT2 hids2 hu2 hbf HIDS HLN HU HASK HK1
  have hxx : (((m7 : Int) == 0) != ((m7 : Int) == 0)) = false := by simp
  go_wp2_with fail
  refine (HNEXT.out w7 H.out).mono ?_
  rintro e w8 ⟨rfl, h8⟩
  rw [← HBF.out]
  clear H HNEXT
  have H := Lib.hid h8
  clear h8
  go_wp2_with fail
  refine (release_ls H.out (by omega) 1).mono ?_
  rintro e w9 ⟨rfl, h9⟩
  clear H
  have H := Lib.hid h9
  clear h9
  have HI3 : Hid (∀ x ∈ releaseL T2 1, x.1 = 2) := Lib.hid (fun x hx => by
    obtain ⟨h1, h2⟩ := mem_releaseL.1 hx
    exact (HI2.out x h1).resolve_left h2)
  have HL3 := Lib.hid (heldRaw_release T2 1)
  have HU3 := Lib.hid (uniq_releaseL HU2.out 1)
  clear HI2 HU2 HBF hxx
  generalize releaseL T2 1 = T3 at *
  go_wp2_with fail
  refine (held_len H.out (by omega) 1 0 (by rw [HL3.out]; rfl)).mono ?_
  rintro e w10 ⟨a10, c10, rfl, h10⟩
  clear H
  have H := Lib.hid h10
  clear h10
  go_wp2_with fail
  refine (take_yes H.out (by omega) 2 b vb nb HB.out (by omega) (RB.out _ H.out.bel) (fun c hc => ask_own hc HI3.out)).mono ?_
  rintro e w11 ⟨rfl, h11⟩
  clear H
  have H := Lib.hid h11
  clear h11
  have HI4 : Hid (∀ x ∈ tookL T3 2 b, x.1 = 2) := Lib.hid (took_ids (p := fun i => i = 2) HI3.out rfl b)
  generalize tookL T3 2 b = T4 at *
  go_wp2_with fail
  refine (ask_zero H.out (by omega) 1 [] (.slice none 0 0) 0 rfl (by omega) Reads.empty (fun c hc => ask_nothing hc)).mono ?_
  rintro e w12 ⟨a12, c12, rfl, h12⟩
  clear H
  have H := Lib.hid h12
  clear h12
  go_wp2_with fail
  refine (release_ls H.out (by omega) 2).mono ?_
  rintro e w13 ⟨rfl, h13⟩
  clear H
  have HT5 : Hid (releaseL T4 2 = []) := Lib.hid (List.eq_nil_iff_forall_not_mem.2 (fun x hx => by
    obtain ⟨h1, h2⟩ := mem_releaseL.1 hx
    exact h2 (HI4.out x h1)))
  rw [HT5.out] at h13
  have H := Lib.hid h13
  clear h13
  go_wp2_with fail
  have hal : Below w13.heap.size w13 (w13.alloc (.cells #[.string ByteArray.empty, .int .i64 5] 40)) := (Below.refl _ _).alloc (Nat.le_refl _) _
  refine (ask_zero (H.out.grow hal) (by omega) 3 [(ByteArray.empty, 5)] _ 1 rfl (by omega) (reads_new1 w13 ByteArray.empty 5 40) (fun c hc => ask_own hc (fun x hx => by cases hx))).mono ?_
  rintro e w14 ⟨a14, c14, rfl, h14⟩
  clear H hal
  have H := Lib.hid h14
  clear h14
  go_wp2_with fail
  refine (holders_ls H.out (by omega) ByteArray.empty).mono ?_
  rintro e w15 ⟨c15, a15, m15, p15, rfl, hh15, hm15, _, _, h15, _⟩
  obtain rfl : m15 = 0 := by rw [← hm15, hh15.perm.length_eq]; rfl
  clear H hm15
  have H := Lib.hid h15.bel
  clear h15 hh15
  go_wp2_with (go_at_call 12; refine (awake_any _).mono ?_; rintro e wz ⟨rfl, hbz⟩)
  go_ret
  exact ⟨rfl, H.out.trans (hbz.mono H.out.size)⟩
end Go.Proofs.Ytoghmllkaafckaa

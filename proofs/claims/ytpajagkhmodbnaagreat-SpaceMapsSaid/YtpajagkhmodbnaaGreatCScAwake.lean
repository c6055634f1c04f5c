/- The laws of layer 8: awake; SpaceMaps. Conditions: none. -/
import Derived.Test.YtpajagkhmodbnaaGreatCScLaw
namespace Go.Proofs.YtpajagkhmodbnaaGreat
set_option linter.unusedSimpArgs false
set_option linter.unusedVariables false
open Go.RowKit
theorem cf512 : Cf.of 512 = ⟨128, 130, 94⟩ := by kernel_rfl
theorem fmtW0 : fmtW 0 = overB (nz 504) 0 [1] := by unfold fmtW updV; rw [if_pos rfl]
theorem first_free {T : List Bool} {q r : Nat} (h1 : ∀ j, j < q → T[j]? = some true) (h2 : T[q]? = some false) (h3 : ∀ j, j < r → T[j]? = some true) (h4 : T[r]? = some false) : q = r := by
 rcases Nat.lt_trichotomy q r with h | h | h
 ·rw [h3 q h] at h2; cases h2
 ·exact h
 ·rw [h1 r h] at h4; cases h4
theorem updV_at (V : Nat → List UInt8) (q : Nat) (b : List UInt8) : updV V q b q = b := by unfold updV; rw [if_pos rfl]
section
variable {W0 w w' w2 : World} {A : Adr} {c : Cf} {σ : St} {S X : Nat → Prop} {k b : Nat} {W : Nat → List UInt8}
structure At8 (W0 : World) (A : Adr) (k b : Nat) (σ : St) (S : Nat → Prop) (T : List Bool) (n : Nat) (w : World) (W : Nat → List UInt8) : Prop where
 st : Sto W0 A (Cf.of n) k b σ W S w
 so : Solo σ 1
 rel : RelT T (W 0)
 pg : (Cf.of n).pg = T.length
 p1 : 1 ≤ (Cf.of n).pg
theorem take8 {n : Nat} {T : List Bool} (h : At8 W0 A k b σ S T n w W) (hk : k ≤ 800000) (hb : b + 195 + 2048 ≤ ((Cf.of n).n - 1) * 118) (r : Nat) (h3 : ∀ j, j < r → T[j]? = some true) (h4 : T[r]? = some false) :
  Calls Tryz.prog 23 #[.pointer (some ⟨A.sb, 0, none⟩), .int .i64 1] w fun e w' => ∃ σ' S' W', e = .returned (.tuple #[.int .i64 (r : Nat), .int .i64 0]) ∧ At8 W0 A (k + 4) (b + 195) σ' S' (T.set r true) n w' W' ∧ Foot S S' w w' := by
 refine (take_solo h.st hk h.so h.rel h.pg h.p1 hb).mono ?_
 rintro e w' ⟨σ', S', h1, h2, h5⟩
 rcases h5 with ⟨q, q1, q2, q3, rfl, q4⟩ | ⟨q1, _, _⟩
 ·obtain rfl := first_free q2 q3 h3 h4
  exact ⟨σ', S', _, rfl, ⟨q4, h2, by rw [updV_at]; exact h.rel.set q true, by rw [List.length_set]; exact h.pg, h.p1⟩, h1⟩
 ·have hl := (List.getElem?_eq_some_iff.1 h4).1
  rw [q1 r hl] at h4; cases h4
theorem take8_full {n : Nat} {T : List Bool} (h : At8 W0 A k b σ S T n w W) (hk : k ≤ 800000) (hb : b + 195 + 2048 ≤ ((Cf.of n).n - 1) * 118) (h3 : ∀ j, j < T.length → T[j]? = some true) :
  Calls Tryz.prog 23 #[.pointer (some ⟨A.sb, 0, none⟩), .int .i64 1] w fun e w' => ∃ σ' S', e = .returned (.tuple #[.int .i64 0, .int .i64 60]) ∧ At8 W0 A (k + 4) (b + 195) σ' S' T n w' W ∧ Foot S S' w w' := by
 refine (take_solo h.st hk h.so h.rel h.pg h.p1 hb).mono ?_
 rintro e w' ⟨σ', S', h1, h2, h5⟩
 rcases h5 with ⟨q, q1, q2, q3, rfl, q4⟩ | ⟨q1, rfl, q4⟩
 ·rw [h3 q q1] at q3; cases q3
 ·exact ⟨σ', S', rfl, ⟨q4, h2, h.rel, h.pg, h.p1⟩, h1⟩
theorem count8 {n : Nat} {T : List Bool} (h : At8 W0 A k b σ S T n w W) (hk : k ≤ 800000) :
  Calls Tryz.prog 26 #[.pointer (some ⟨A.sb, 0, none⟩)] w fun e w' => ∃ σ' S', e = .returned (.tuple #[.int .i64 (T.countP id : Nat), .int .i64 0]) ∧ At8 W0 A (k + 4) b σ' S' T n w' W ∧ Foot S S' w w' := by
 have hc := h.rel.cnt
 rw [← h.pg] at hc
 refine (count_st h.st (by omega) h.p1 (by rw [h.pg]; exact h.rel.le)).mono ?_
 rintro e w' ⟨σ', S', rfl, h1, h2, h3⟩
 rw [hc]
 exact ⟨σ', S', rfl, ⟨h1.more _ (by omega), h.so.like h3, h.rel, h.pg, h.p1⟩, h2⟩
theorem give8 {n : Nat} {T : List Bool} (h : At8 W0 A k b σ S T n w W) (hk : k ≤ 800000) (hb : b + 195 + 2048 ≤ ((Cf.of n).n - 1) * 118) (p : Int) (hi1 : -9223372036854775808 ≤ p) (hi2 : p ≤ 9223372036854775807) :
  Calls Tryz.prog 24 #[.pointer (some ⟨A.sb, 0, none⟩), .int .i64 1, .int .i64 p] w fun e w' => ∃ σ' S' W', e = .returned (.int .i64 (if (decide (1 ≤ p ∧ p < (T.length : Int)) && T.getD p.toNat false) = true then 0 else 1)) ∧
   At8 W0 A (k + 4) (b + 195) σ' S' (if (decide (1 ≤ p ∧ p < (T.length : Int)) && T.getD p.toNat false) = true then T.set p.toNat false else T) n w' W' ∧ Foot S S' w w' := by
 have hg := h.rel.giveB p
 rw [← h.pg] at hg
 refine (give_solo h.st hk h.so h.rel h.pg h.p1 hb p hi1 hi2).mono ?_
 rintro e w' ⟨σ', S', h1, h2, h5⟩
 rcases h5 with ⟨q1, rfl, q4⟩ | ⟨q1, rfl, q4⟩
 ·rw [q1] at hg
  rw [← h.pg, ← hg, if_pos rfl, if_pos rfl]
  exact ⟨σ', S', _, rfl, ⟨q4, h2, by rw [updV_at]; exact h.rel.set _ false, by rw [List.length_set]; exact h.pg, h.p1⟩, h1⟩
 ·rw [q1] at hg
  rw [← h.pg, ← hg]
  exact ⟨σ', S', W, rfl, ⟨q4, h2, h.rel, h.pg, h.p1⟩, h1⟩
theorem taken8 {n : Nat} {T : List Bool} (h : At8 W0 A k b σ S T n w W) (hk : k ≤ 800000) (p : Int) (hi1 : -9223372036854775808 ≤ p) (hi2 : p ≤ 9223372036854775807) :
  Calls Tryz.prog 25 #[.pointer (some ⟨A.sb, 0, none⟩), .int .i64 p] w fun e w' => ∃ σ' S', e = .returned (.tuple #[.bool (if p < 0 ∨ (T.length : Int) ≤ p then (false, 1) else (T.getD p.toNat false, 0) : Bool × Int).1, .int .i64 (if p < 0 ∨ (T.length : Int) ≤ p then (false, 1) else (T.getD p.toNat false, 0) : Bool × Int).2]) ∧ At8 W0 A (k + 4) b σ' S' T n w' W ∧ Foot S S' w w' := by
 have hc := h.rel.takenI p
 rw [← h.pg] at hc
 refine (taken_st h.st (by omega) h.p1 (by rw [h.pg]; exact h.rel.le) p hi1 hi2).mono ?_
 rintro e w' ⟨σ', S', rfl, h1, h2, h3⟩
 rw [hc, ← h.pg]
 exact ⟨σ', S', rfl, ⟨h1.more _ (by omega), h.so.like h3, h.rel, h.pg, h.p1⟩, h2⟩
end
theorem formatted8 (w : World) (n nf : Nat) (h1 : 128 ≤ n) (h2 : n ≤ 8192) (h3 : 1 ≤ nf) (h4 : nf ≤ 64) (hp1 : 1 ≤ (Cf.of n).pg) (hp2 : (Cf.of n).pg ≤ 504) :
  Calls Tryz.prog 21 #[.int .i64 (n : Nat), .int .i64 (nf : Nat)] w fun e w' => ∃ (A : Adr) (σ : St) (S : Nat → Prop), e = .returned (.tuple #[.pointer (some ⟨A.sb, 0, none⟩), .int .i64 1]) ∧
   At8 w A 4 483 σ S (newT (Cf.of n).pg) n w' fmtW ∧ (∀ k, S k → w.heap.size ≤ k) ∧ Below w.heap.size w w' := by
 refine (formatted_any w n nf h1 h2 h3 h4 hp1 hp2).mono ?_
 rintro e w' ⟨A, σ, S, rfl, _, hst, hso, _, hS, hbl⟩
 exact ⟨A, σ, S, rfl, ⟨hst, hso, by rw [fmtW0]; exact newT_rel hp1 hp2, (newT_len hp1).symm, hp1⟩, hS, hbl⟩
set_option maxRecDepth 100000 in
set_option maxHeartbeats 6400000 in
theorem awake8_any (w : World) : Calls Tryz.prog 20 #[] w fun e w' => e = .returned (.bool true) ∧ Below w.heap.size w w' := by
 have hpg : (Cf.of 512).pg = 94 := by rw [cf512]
 have hcn : ((Cf.of 512).n - 1) * 118 = 14986 := by rw [cf512]; rfl
 have HO := Lib.hid (formatted8 w 512 16 (by decide) (by decide) (by decide) (by decide) (by rw [hpg]; decide) (by rw [hpg]; decide))
 rw [hpg] at HO
 go_enter Tryz.func20, Tryz.ntmps20
 go_wp2_with fail
 refine HO.out.mono ?_
 rintro e y1 ⟨A, σ1, S1, rfl, h1, _, _⟩
 have H1 := Lib.hid (take8 h1 (by decide) (by rw [hcn]; decide) 1 (fun j hj => by obtain rfl : j = 0 := (by omega); rfl) rfl)
 have B0 := Lib.hid h1.st.bel
 clear h1 HO
 go_wp2_with fail
 refine H1.out.mono ?_
 rintro e y2 ⟨σ2, S2, W2, rfl, h2, _⟩
 have H2 := Lib.hid (take8 h2 (by decide) (by rw [hcn]; decide) 2 (fun j hj => by rcases (by omega : j = 0 ∨ j = 1) with rfl | rfl <;> rfl) rfl)
 clear h2 H1
 go_wp2_with fail
 refine H2.out.mono ?_
 rintro e y3 ⟨σ3, S3, W3, rfl, h3, _⟩
 have H3 := Lib.hid (count8 h3 (by decide))
 have e3 : (((newT 94).set 1 true).set 2 true).countP id = 3 := by decide
 rw [e3] at H3
 clear h3 H2 e3
 go_wp2_with fail
 refine H3.out.mono ?_
 rintro e y4 ⟨σ4, S4, rfl, h4, _⟩
 have H4 : Hid _ := Lib.hid (give8 h4 (by decide) (by rw [hcn]; decide) 1 (by decide) (by decide))
 clear h4 H3
 go_wp2_with fail
 refine H4.out.mono ?_
 rintro e y5 ⟨σ5, S5, W5, rfl, h5, _⟩
 have e5 : (decide ((1 : Int) ≤ 1 ∧ (1 : Int) < ((((newT 94).set 1 true).set 2 true).length : Int)) && (((newT 94).set 1 true).set 2 true).getD (1 : Int).toNat false) = true := by decide
 rw [if_pos e5] at h5
 rw [if_pos e5]
 have H5 : Hid _ := Lib.hid (give8 h5 (by decide) (by rw [hcn]; decide) 1 (by decide) (by decide))
 clear h5 H4 e5
 go_wp2_with fail
 refine H5.out.mono ?_
 rintro e y6 ⟨σ6, S6, W6, rfl, h6, _⟩
 have e6 : ¬ (decide ((1 : Int) ≤ 1 ∧ (1 : Int) < (((((newT 94).set 1 true).set 2 true).set (1 : Int).toNat false).length : Int)) && ((((newT 94).set 1 true).set 2 true).set (1 : Int).toNat false).getD (1 : Int).toNat false) = true := by decide
 rw [if_neg e6] at h6
 rw [if_neg e6]
 have H6 : Hid _ := Lib.hid (give8 h6 (by decide) (by rw [hcn]; decide) 0 (by decide) (by decide))
 clear h6 H5 e6
 go_wp2_with fail
 refine H6.out.mono ?_
 rintro e y7 ⟨σ7, S7, W7, rfl, h7, _⟩
 have e7 : ¬ (decide ((1 : Int) ≤ 0 ∧ (0 : Int) < (((((newT 94).set 1 true).set 2 true).set (1 : Int).toNat false).length : Int)) && ((((newT 94).set 1 true).set 2 true).set (1 : Int).toNat false).getD (0 : Int).toNat false) = true := by decide
 rw [if_neg e7]
 have B7 := Lib.hid h7.st.bel
 clear h7 H6 e7
 go_wp2_with fail
 refine (maps_any _ 505 (by decide) (by decide)).mono ?_
 rintro e y8 ⟨rfl, rfl⟩
 rw [show mapsI 505 = 2 from rfl]
 go_wp2_with fail
 go_ret
 exact ⟨rfl, B7.out⟩
set_option maxRecDepth 100000 in
set_option maxHeartbeats 3200000 in
theorem maps_law (w : World) (n : Int) (h1 : -9223372036854775808 ≤ n) (h2 : n ≤ 9223372036854775807) :
  Calls Tryz.prog 4 #[.int .i64 n] w fun e w' => e = .returned (.bool true) ∧ Below w.heap.size w w' := by
 have HM := Lib.hid (maps_any w n h1 h2)
 have HW := Lib.hid (awake8_any w)
 by_cases h : 1 ≤ n
 ·have hE := show mapsI n = (n - 1) / 504 + 1 by unfold mapsI; rw [if_neg (by omega)]
  rw [hE] at HM
  have hb : decide (n ≥ 1) = true := by simpa using h
  have hb2 : decide (1 ≤ n) = true := by simpa using h
  clear hE
  go_enter Tryz.func4, Tryz.ntmps4
  go_wp2_with fail
  refine HM.out.mono ?_
  rintro e y ⟨rfl, rfl⟩
  go_wp2_with fail
  refine HW.out.mono ?_
  rintro e y2 ⟨rfl, hbl⟩
  have HBL := Lib.hid hbl
  clear hbl
  go_wp2_with fail
  go_ret
  exact ⟨rfl, HBL.out⟩
 ·have hE := show mapsI n = 0 by unfold mapsI; rw [if_pos (by omega)]
  rw [hE] at HM
  have hb : decide (n ≥ 1) = false := by simpa using h
  have hb2 : decide (1 ≤ n) = false := by simpa using h
  clear hE
  go_enter Tryz.func4, Tryz.ntmps4
  go_wp2_with fail
  refine HM.out.mono ?_
  rintro e y ⟨rfl, rfl⟩
  go_wp2_with fail
  refine HW.out.mono ?_
  rintro e y2 ⟨rfl, hbl⟩
  have HBL := Lib.hid hbl
  clear hbl
  go_wp2_with fail
  go_ret
  exact ⟨rfl, HBL.out⟩
end Go.Proofs.YtpajagkhmodbnaaGreat

/- The store: Write of no bytes, wherever the slice lies. Conditions: the device does not fail. -/
import Derived.Test.YtpajagkhmodbnaaGreatCSvArea
namespace Go.Proofs.YtpajagkhmodbnaaGreat
set_option linter.unusedSimpArgs false
set_option linter.unusedVariables false
open Go.RowKit
theorem busy_zero (σ : St) (t : Int) (p off : Nat) : σ.busy t p off 0 = false := by
 unfold St.busy
 rw [List.any_eq_false]
 intro x _
 simp [hits]
section
variable {W0 w w' : World} {A : Adr} {c : Cf} {σ : St} {S : Nat → Prop} {vl vo : Value} {EL : List Le} {EO : List Te} {K S1 : Nat → Prop} {X : Nat → Prop}
set_option maxRecDepth 100000 in
set_option maxHeartbeats 6400000 in
theorem write0_at (h : SvAt W0 w A c σ vl vo EL EO K S1) (hn : EO.length ≤ 1000000) (hr : resA EO ≤ 1099511627776) (hu : TxB EO) (i : Nat) (e : Te) (hof : σ.of (e.x.id : Int) = some i) (hei : EO[i]? = some e)
  (p off : Nat) (ab : Option Addr) (cb : Nat) (hpg : p < c.pg) (hoff : off ≤ 504) (hid : e.x.id ≤ 1099511627776) (hla : e.x.last ≤ 1099511627776) (hpp : c.pg ≤ 1099511627776)
  (hwr : σ.p.wr + 2 ≤ 1000000000) :
  Calls Tryz.prog 31 #[.pointer (some ⟨A.sb, 0, none⟩), .int .i64 (e.x.id : Nat), .int .i64 (p : Nat), .int .i64 (off : Nat), .slice ab 0 cb] w fun er w' => ∃ S', er = .returned (.int .i64 0) ∧ SV W0 A c (σ.write c i e.x p off []).2 S' w' ∧ Foot (sfoot S1 vl vo EO K) S' w w' := by
 have HN := Lib.hid hn
 have HR := Lib.hid hr
 have HU := Lib.hid hu
 have HEI := Lib.hid hei
 have HPG := Lib.hid hpg
 have HPP := Lib.hid hpp
 have HWR := Lib.hid hwr
 have HS := Lib.hid h
 have HOFF := Lib.hid hoff
 have c9 := h.sbx.cell 9 _ rfl
 have clt := h.sbx.lt
 have hcall := of_at h (e.x.id : Int) (Nat.le_trans hn (by decide))
 have HOF := Lib.hid hcall
 have HO1 := Lib.hid hof
 have hcall2 := within_at h (p : Int) (off : Int) ((0 : Nat) : Int)
 rw [decide_eq_true (show _ from ⟨by omega, by omega, by omega, by omega, by omega, by omega⟩)] at hcall2
 have HWI := Lib.hid hcall2
 have hcall3 := busy_at h (Nat.le_trans hn (by decide)) (fun e he => ⟨Nat.le_trans (hu e he).1 (by decide), fun u hq => Nat.le_trans ((hu e he).2 u hq) (by decide)⟩) (e.x.id : Int) p off 0 (by omega) (by omega)
 rw [busy_zero] at hcall3
 have HBU := Lib.hid hcall3
 obtain ⟨id, hidd⟩ : ∃ x, e.x.id = x := ⟨_, rfl⟩
 rw [hidd] at HOF HO1 HBU hid ⊢
 have HID := Lib.hid hidd
 clear h hn hr hu hei hpg hpp hwr hof hcall hcall2 hcall3 hidd
 go_enter Tryz.func31, Tryz.ntmps31
 go_wp2_with fail
 refine HOF.out.mono ?_
 rintro er y0 ⟨⟨v, rfl, hof⟩, hy⟩
 obtain rfl : w = y0 := hy.symm
 obtain rfl : v = ptrT e := by
  rcases hof with ⟨i', e', h1, h2, h3⟩ | ⟨h1, _⟩
  ·have h0 := HO1.out
   rw [h1] at h0
   obtain rfl := Option.some.inj h0
   have h4 := HEI.out
   rw [h2] at h4
   obtain rfl := Option.some.inj h4
   exact h3
  ·have h0 := HO1.out
   rw [h1] at h0; cases h0
 clear hof HOF
 simp only [ptrT]
 go_wp2_with fail
 refine HWI.out.mono ?_
 rintro er y0 ⟨rfl, hy⟩
 obtain rfl : w = y0 := hy.symm
 clear HWI
 go_wp2_with fail
 refine HBU.out.mono ?_
 rintro er y1 ⟨rfl, hb1⟩
 have HB1 := Lib.hid hb1
 have hs1 := HS.out.below hb1
 have HS1 := Lib.hid hs1
 have c3 := hs1.sbx.cell 3 _ rfl
 have clt1 := hs1.sbx.lt
 have hget := sget_ok hs1 p HPG.out (by have := HWR.out; omega)
 have HG := Lib.hid hget
 clear hb1 hs1 hget c9 clt HBU
 go_wp2_with fail
 refine HG.out.mono ?_
 rintro er y2 ⟨g, k, S2, rfl, hrow, hgg, hkk, hng, hs2, hf2⟩
 obtain ⟨pgb, hpgb⟩ : ∃ x, (σ.get c p).2.1 = x := ⟨_, rfl⟩
 rw [hpgb] at hrow
 have HPB := Lib.hid hpgb
 have HROW := Lib.hid hrow
 have HGG := Lib.hid hgg
 have HKK := Lib.hid hkk
 have HNG := Lib.hid hng
 have HS2 := Lib.hid hs2
 have HF2 := Lib.hid hf2
 have hz0 : Reads 1 y2 (.slice ab 0 cb) 0 (([] : List UInt8).map B) := ⟨_, _, rfl, rfl, Nat.zero_le _, fun h => absurd h (by omega)⟩
 have HB2 := Lib.hid hf2
 clear hrow hgg hng hs2 hf2 hpgb c3 clt1 HG
 have hrd2 := run_str_reads Tryz.underlying48 Tryz.underlying5 Tryz.underlying9 [] hz0
 have fin : SV W0 A c (σ.write c i e.x p off []).2 (sfoot S2 vl vo EO K) y2 ∧ Foot (sfoot S1 vl vo EO K) (sfoot S2 vl vo EO K) w y2 := by
  refine ⟨⟨vl, vo, EL, EO, K, S2, ?_, rfl⟩, (Foot.below (grow_below HB1.out)).trans (sfoot_of HF2.out)⟩
  have e0 : (σ.get c p).1 = 0 := (σ.get_ok c p HPG.out).1
  have e1 : (σ.write c i e.x p off []).2 = (σ.get c p).2.2 := by
   unfold St.write
   simp only []
   rw [if_neg (by rw [e0]; simp), if_pos (by simp)]
  rw [e1]
  exact HS2.out
 have FIN := Lib.hid fin
 clear fin
 have hz1 : Reads 1 y2 (.slice (some ⟨g, 0, none⟩) 0 0) 0 (([] : List UInt8).map B) := ⟨_, _, rfl, rfl, Nat.le_refl _, fun h => absurd h (by omega)⟩
 have hz2 : Reads 1 y2 (.slice (some ⟨g, 8 + off, none⟩) 0 (k - (8 + off))) 0 (([] : List UInt8).map B) := ⟨_, _, rfl, rfl, Nat.zero_le _, fun h => absurd h (by omega)⟩
 have hrd0 := run_str_reads Tryz.underlying48 Tryz.underlying5 Tryz.underlying9 [] hz1
 have hrd1 := run_str_reads Tryz.underlying48 Tryz.underlying5 Tryz.underlying9 [] hz2
 have hss := str_self []
 clear hz1 hz2 hz0
 go_wp2_with fail
 all_goals (go_wp2_with fail; go_ret; first | exact ⟨rfl, _, FIN.out.1, FIN.out.2⟩ | exact ⟨_, rfl, FIN.out.1, FIN.out.2⟩)
end
section
variable {W0 w w' : World} {A : Adr} {c : Cf} {σ : St} {S X : Nat → Prop} {k b : Nat} {W : Nat → List UInt8}
theorem write0_st (h : Sto W0 A c k b σ W S w) (hk : k ≤ 900000) {i : Nat} {x : Tx} (hx : σ.opn[i]? = some x) (p off : Nat) (ab : Option Addr) (cb : Nat) (hpg : p < c.pg) (hoff : off ≤ 504) :
  Calls Tryz.prog 31 #[.pointer (some ⟨A.sb, 0, none⟩), .int .i64 (x.id : Nat), .int .i64 (p : Nat), .int .i64 (off : Nat), .slice ab 0 cb] w fun er w' => ∃ σ' S', er = .returned (.int .i64 0) ∧ Sto W0 A c (k + 3) b σ' W S' w' ∧ Foot S S' w w' ∧ Like σ σ' := by
 have hwr := h.fine.wr
 have hcs := h.fine.cost
 have htp := h.fine.top
 have hrm := h.fine.room
 obtain ⟨a1, a2, a3⟩ := h.std.write h.ok i x p off [] hpg (by simpa using hoff) (by simp only [List.length_nil]; omega)
 have e0 : overB (W p) off [] = W p := by
  have := overB_same (W p) off 0 (by rw [h.std.len hpg]; omega)
  simpa using this
 rw [e0, updV_self] at a2
 have hs : SSame σ (σ.write c i x p off []).2 1 := by
  rcases a3 with ⟨_, hs⟩ | ⟨hne, _⟩
  ·exact hs
  ·exact absurd (by simp) hne
 obtain ⟨vl, vo, EL, EO, K, S1, h1, rfl⟩ := h.sv
 obtain ⟨b1, b2, b3, b4, b5, b6, b7, b8⟩ := h1.say h.fine (by omega)
 obtain ⟨e, he, rfl⟩ := h1.eat hx
 obtain ⟨c1, c2, c3, c4, c5, c6⟩ := b8 e (List.mem_of_getElem? he)
 refine (write0_at h1 b1 (by omega) b7 i e (h.fine.of hx) he p off ab cb hpg hoff (by omega) (by omega) (by omega) (by omega)).mono ?_
 rintro er w' ⟨S', rfl, g1, g2⟩
 exact ⟨_, S', rfl, ⟨g1, (h.fine.same hs).more _ (by omega), a2, h.ok⟩, g2, ⟨hs.opn, hs.next, hs.lines, hs.R.tail⟩⟩
end
end Go.Proofs.YtpajagkhmodbnaaGreat

/- space: Take over a store of at most 504 pages. Conditions: the device does not fail. -/
import Derived.Test.YtpajagkhmodbnaaGreatCScCount
namespace Go.Proofs.YtpajagkhmodbnaaGreat
set_option linter.unusedSimpArgs false
set_option linter.unusedVariables false
open Go.RowKit
def freeP (σ : St) (l : List UInt8) (id : Nat) (j : Nat) : Bool := decide (l[j]? = some 0) && !(σ.busy (id : Int) 0 j 1)
def takeJ (σ : St) (l : List UInt8) (id pg : Nat) : Option Nat := (List.range pg).find? (freeP σ l id)
theorem find_skip {p : Nat → Bool} {n : Nat} : ∀ (q : Nat), q ≤ n → (∀ j, j < q → p j = false) → (List.range n).find? p = ((List.range n).drop q).find? p
  | 0, _, _ => rfl
  | q + 1, hq, h => by
    rw [find_skip q (by omega) (fun j hj => h j (by omega))]
    have hl : q < (List.range n).length := by simp; omega
    rw [List.drop_eq_getElem_cons hl, List.find?_cons, List.getElem_range, h q (by omega)]
theorem take_hit {σ : St} {l : List UInt8} {id pg q : Nat} (hq : q < pg) (h : ∀ j, j < q → freeP σ l id j = false) (hf : freeP σ l id q = true) : takeJ σ l id pg = some q := by
  unfold takeJ
  rw [find_skip q (by omega) h]
  have hl : q < (List.range pg).length := by simp; omega
  rw [List.drop_eq_getElem_cons hl, List.find?_cons, List.getElem_range, hf]
theorem take_miss {σ : St} {l : List UInt8} {id pg : Nat} (h : ∀ j, j < pg → freeP σ l id j = false) : takeJ σ l id pg = none := by
  unfold takeJ
  rw [List.find?_eq_none]
  intro j hj
  rw [h j (by simpa using hj)]
  simp
section
variable {W0 w w' w2 : World} {A : Adr} {c : Cf} {σ : St} {S X : Nat → Prop} {k b : Nat} {W : Nat → List UInt8}
def TakeEnd (W0 w : World) (A : Adr) (c : Cf) (k b : Nat) (σ : St) (W : Nat → List UInt8) (S : Nat → Prop) (i : Nat) (x : Tx) (e : Ending) (w' : World) : Prop :=
  ∃ σ' S', Foot S S' w w' ∧ ((∃ q, q < c.pg ∧ takeJ σ (W 0) x.id c.pg = some q ∧ e = .returned (.tuple #[.int .i64 (q : Nat), .int .i64 0]) ∧ Sto W0 A c (k + 4) (b + 195) σ' (updV W 0 (overB (W 0) q [1])) S' w' ∧ Wrote σ σ' i x W 0 q [1]) ∨
    (takeJ σ (W 0) x.id c.pg = none ∧ e = .returned (.tuple #[.int .i64 0, .int .i64 60]) ∧ Sto W0 A c (k + 4) (b + 195) σ' W S' w' ∧ Like σ σ'))
set_option maxRecDepth 100000 in
set_option maxHeartbeats 6400000 in
theorem take_st (h : Sto W0 A c k b σ W S w) (hk : k ≤ 800000) {i : Nat} {x : Tx} (hx : σ.opn[i]? = some x) (hp1 : 1 ≤ c.pg) (hp2 : c.pg ≤ 504) (hb : b + 195 + 2048 ≤ (c.n - 1) * 118) :
    Calls Tryz.prog 23 #[.pointer (some ⟨A.sb, 0, none⟩), .int .i64 (x.id : Nat)] w (TakeEnd W0 w A c k b σ W S i x) := by
  have hwl := h.std.len (show 0 < c.pg by omega)
  have HP := Lib.hid (pages_st h)
  have HM := Lib.hid (maps_one w c.pg hp1 hp2)
  have hrd := read_st h 0 0 c.pg (by omega) (by omega) (by omega)
  simp only [List.drop_zero] at hrd
  have hlt : ∀ j a, ((W 0).take c.pg)[j]? = some a → j < c.pg → (W 0)[j]? = some a := fun j a h1 h2 => by rw [List.getElem?_take, if_pos h2] at h1; exact h1
  have HLT := Lib.hid hlt
  obtain ⟨l, hl⟩ : ∃ l, (W 0).take c.pg = l := ⟨_, rfl⟩
  rw [hl] at hrd HLT
  obtain ⟨pg, hpg⟩ : ∃ x, c.pg = x := ⟨_, rfl⟩
  have HPG := Lib.hid hpg
  rw [hpg] at hrd HP HM hp1 hp2 HLT
  have HR := Lib.hid hrd
  have hmin : min (504 : Int) ((pg : Nat) : Int) = (pg : Int) := by omega
  have HWR := Lib.hid (fun (σ1 : St) (S1 : Nat → Prop) (w1 : World) (h1 : Sto W0 A c (k + 1) b σ1 W S1 w1) (hl : Like σ σ1) (q : Nat) (hq : q < pg) (hbu : σ.busy (x.id : Int) 0 q 1 = false) => write1_st (h1.below ((Below.refl w1.heap.size w1).alloc (Nat.le_refl _) (.cells #[B 1] 5))) (by omega) (i := i) (x := x) (by rw [hl.opn]; exact hx) 0 q 1 w1.heap.size (Box.new w1 #[B 1] 5 rfl) (by omega) (by omega)
    (by unfold St.busy; rw [hl.opn]; exact hbu) (fun hs => by have := (h1.lt _ hs).2; omega) hb)
  have HBU := Lib.hid (fun (σ1 : St) (S1 : Nat → Prop) (w1 : World) (h1 : Sto W0 A c (k + 1) b σ1 W S1 w1) (hl : Like σ σ1) (q : Nat) (hq : q < pg) (hbu : σ.busy (x.id : Int) 0 q 1 = true) => busy_st (h1.below ((Below.refl w1.heap.size w1).alloc (Nat.le_refl _) (.cells #[B 1] 5))) (by omega) (i := i) (x := x) (by rw [hl.opn]; exact hx) 0 q (some ⟨w1.heap.size, 0, none⟩) 1 1 (by omega) (by omega)
    (by unfold St.busy; rw [hl.opn]; exact hbu))
  have HB5 := Lib.hid hb
  obtain ⟨t, ht⟩ : ∃ t : Nat, x.id = t := ⟨_, rfl⟩
  have HT := Lib.hid ht
  rw [ht] at HWR HBU ⊢
  clear h hrd hl hlt hx hb hpg ht hwl
  go_enter Tryz.func23, Tryz.ntmps23
  go_wp2_with fail
  refine HP.out.mono ?_
  rintro e y ⟨rfl, rfl⟩
  go_wp2_with fail
  refine HM.out.mono ?_
  rintro e y ⟨rfl, rfl⟩
  go_wp2_with fail
  go_loopw [6, 7, 8, 9, 10, 11, 15] (fun z6 z7 z8 z9 z10 z11 j wr => (j = .int .i64 0 ∧ wr = y) ∨ (j = .int .i64 1 ∧ (∀ j, j < pg → freeP σ (W 0) t j = false) ∧ ∃ σ' S', Sto W0 A c (k + 1) b σ' W S' wr ∧ Foot S S' y wr ∧ Like σ σ')) (fun _ _ _ _ _ _ j _ => 1 - (intOf j).toNat)
  case atStart => exact .inl ⟨rfl, rfl⟩
  case round =>
    rcases hrel with ⟨rfl, rfl⟩ | ⟨rfl, hno, σ', S', h1, h2, h3⟩
    · go_wp2_with fail
      refine HP.out.mono ?_
      rintro e y2 ⟨rfl, rfl⟩
      go_wp2_with fail
      refine HR.out.mono ?_
      rintro e y3 ⟨v, σ', S', rfl, hrow, hlen, hns, hst, hft, hlk⟩
      obtain ⟨g, cap, rfl, hgb, hcap⟩ := own_slice hrow (by omega)
      have HROW := Lib.hid hrow
      have HST := Lib.hid hst
      have HFT := Lib.hid hft
      have HLK := Lib.hid hlk
      have HLEN := Lib.hid hlen
      have HNS := Lib.hid hns
      clear hrow hst hft hlk hns hlen HR
      go_wp2_with fail
      go_loopw [9, 10, 11, 35] (fun z9 z10 z11 j wq => ∃ q : Nat, q ≤ pg ∧ j = .int .i64 (q : Nat) ∧ (∀ j, j < q → freeP σ (W 0) t j = false) ∧ Sto W0 A c (k + 1) b σ' W S' wq ∧ wq.ownsRow y2.heap.size 5 1 (.slice (some ⟨g, 0, none⟩) pg cap) pg (l.map B) ∧ Foot S S' y2 wq) (fun _ _ _ j _ => pg - (intOf j).toNat)
      case atStart => exact ⟨0, Nat.zero_le _, rfl, fun j hj => absurd hj (Nat.not_lt_zero _), HST.out, HROW.out, HFT.out⟩
      case round =>
        obtain ⟨q, hq, rfl, hno, hst, hrow, hft⟩ := hrel
        have HNO := Lib.hid hno
        have HST := Lib.hid hst
        have HFT := Lib.hid hft
        have HROW := Lib.hid hrow
        clear hno hst hft hrow
        by_cases hqn : q < pg
        · obtain ⟨a, ha⟩ : ∃ a, l[q]? = some a := ⟨_, List.getElem?_eq_getElem (by rw [HLEN.out]; exact hqn)⟩
          have hw := HLT.out q a ha hqn
          have hc0 : World.cell? _ ⟨g, q, none⟩ = some (Value.int .u8 (a.toNat : Int)) := own_at HROW.out q (B a) (by rw [List.getElem?_map, ha]; rfl)
          have hlg := (HROW.out.lt g rfl).2
          have HHW := Lib.hid hw
          clear ha hw
          by_cases h0 : a = 0
          · subst h0
            replace hc0 : World.cell? _ ⟨g, q, none⟩ = some (Value.int .u8 0) := hc0
            cases hbu : σ.busy (t : Int) 0 q 1 with
            | true =>
              have HW2 := Lib.hid (HBU.out _ _ _ HST.out HLK.out q hqn hbu)
              have HF := Lib.hid (show freeP σ (W 0) t q = false by unfold freeP; rw [hbu]; simp)
              clear hbu
              go_wp2_with fail
              refine HW2.out.mono ?_
              rintro e y4 ⟨rfl, h1, h2⟩
              have H1 := Lib.hid h1
              have H2 := Lib.hid h2
              clear h1 h2 HW2 hc0 hlg
              go_wp2_with fail
              go_roundw
              · have hbel := below_then (Below.refl _ _) H2.out
                exact ⟨q + 1, by omega, by go_num, fun j hj => (by rcases Nat.lt_succ_iff_lt_or_eq.1 hj with h | rfl <;> first | exact HNO.out _ h | exact HF.out), H1.out, own_growx HROW.out (grow_below hbel) (fun _ _ h => h), HFT.out.trans (Foot.below (grow_below hbel))⟩
              · simp [intOf]; omega
            | false =>
              have HW2 := Lib.hid (HWR.out _ _ _ HST.out HLK.out q hqn hbu)
              have HF := Lib.hid (show freeP σ (W 0) t q = true by unfold freeP; rw [hbu, HHW.out]; rfl)
              clear hbu
              go_wp2_with fail
              refine HW2.out.mono ?_
              rintro e y4 ⟨σ2, S2, rfl, h1, h2, h3⟩
              have H1 := Lib.hid h1
              have H2 := Lib.hid h2
              have H3 := Lib.hid h3
              clear h1 h2 h3 HW2 hc0 hlg
              go_wp2_with fail
              go_ret2
              refine ⟨σ2, S2, ?_, .inl ⟨q, by rw [HPG.out]; exact hqn, ?_, rfl, H1.out, H3.out.like HLK.out⟩⟩
              · exact HFT.out.trans (Foot.step_below ((Below.refl _ _).alloc (Nat.le_refl _) _) H2.out)
              · rw [HPG.out, HT.out]
                exact take_hit hqn HNO.out HF.out
          · have hbn := byte_bne h0 (show ((0 : UInt8).toNat : Int) = 0 by decide)
            have hbm := byte_ne h0 (show ((0 : UInt8).toNat : Int) = 0 by decide)
            have hd : decide ((a.toNat : Int) = 0) = false := by simpa using hbm
            have HF := Lib.hid (show freeP σ (W 0) t q = false by unfold freeP; rw [HHW.out]; simp [h0])
            go_wp2_with fail
            go_roundw
            · exact ⟨q + 1, by omega, by go_num, fun j hj => (by rcases Nat.lt_succ_iff_lt_or_eq.1 hj with h | rfl <;> first | exact HNO.out _ h | exact HF.out), HST.out, HROW.out, HFT.out⟩
            · simp [intOf]; omega
        · obtain rfl : q = pg := by omega
          go_wp2_with fail
          go_roundw
          · exact .inr ⟨by rfl, HNO.out, σ', S', HST.out, HFT.out, HLK.out⟩
          · simp [intOf]
    · have H1 := Lib.hid h1
      have H2 := Lib.hid h2
      have H3 := Lib.hid h3
      have HNO := Lib.hid hno
      clear h1 h2 h3 hno
      go_wp2_with fail
      go_ret2
      refine ⟨σ', S', H2.out, .inr ⟨?_, rfl, ?_, H3.out⟩⟩
      · rw [HPG.out, HT.out]
        exact take_miss HNO.out
      · have := H1.out.fine.top
        exact H1.out.le (by omega) (by omega) HB5.out
end
end Go.Proofs.YtpajagkhmodbnaaGreat

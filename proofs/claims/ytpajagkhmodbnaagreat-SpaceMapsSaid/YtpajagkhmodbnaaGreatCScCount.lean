/- space: Count, Taken, Give over a store of at most 504 pages. Conditions: the device does not fail. -/
import Derived.Test.YtpajagkhmodbnaaGreatCScMaps
namespace Go.Proofs.YtpajagkhmodbnaaGreat
set_option linter.unusedSimpArgs false
set_option linter.unusedVariables false
open Go.RowKit
def cntB (l : List UInt8) : Nat := l.countP (fun b => decide (b ≠ 0))
theorem cntB_succ (l : List UInt8) (q : Nat) (a : UInt8) (h : l[q]? = some a) : cntB (l.take (q + 1)) = cntB (l.take q) + if a = 0 then 0 else 1 := by
  unfold cntB
  rw [List.take_add_one, h, List.countP_append]
  by_cases e : a = 0
  · subst e; simp
  · simp [e]
theorem cntB_le (l : List UInt8) : cntB l ≤ l.length := List.countP_le_length
section
variable {W0 w w' w2 : World} {A : Adr} {c : Cf} {σ : St} {S X : Nat → Prop} {k b : Nat} {W : Nat → List UInt8}
set_option maxRecDepth 100000 in
set_option maxHeartbeats 3200000 in
theorem count_st (h : Sto W0 A c k b σ W S w) (hk : k ≤ 900000) (hp1 : 1 ≤ c.pg) (hp2 : c.pg ≤ 504) :
    Calls Tryz.prog 26 #[.pointer (some ⟨A.sb, 0, none⟩)] w fun er w' => ∃ σ' S', er = .returned (.tuple #[.int .i64 (cntB ((W 0).take c.pg) : Nat), .int .i64 0]) ∧ Sto W0 A c (k + 1) b σ' W S' w' ∧ Foot S S' w w' ∧ Like σ σ' := by
  have HP := Lib.hid (pages_st h)
  have HM := Lib.hid (maps_one w c.pg hp1 hp2)
  have hrd := read_st h 0 0 c.pg (by omega) (by omega) hk
  simp only [List.drop_zero] at hrd
  obtain ⟨l, hl⟩ : ∃ l, (W 0).take c.pg = l := ⟨_, rfl⟩
  rw [hl] at hrd ⊢
  obtain ⟨pg, hpg⟩ : ∃ x, c.pg = x := ⟨_, rfl⟩
  rw [hpg] at hrd HP HM hp1 hp2
  have HR := Lib.hid hrd
  have hmin : min (504 : Int) ((pg : Nat) : Int) = (pg : Int) := by omega
  clear h hrd hl hpg
  go_enter Tryz.func26, Tryz.ntmps26
  go_wp2_with fail
  refine HP.out.mono ?_
  rintro e y ⟨rfl, rfl⟩
  go_wp2_with fail
  refine HM.out.mono ?_
  rintro e y ⟨rfl, rfl⟩
  go_wp2_with fail
  go_loopw [4, 5, 6, 7, 9, 13] (fun z4 z5 z6 z7 z9 j wr => (j = .int .i64 0 ∧ z4 = .int .i64 0 ∧ wr = y) ∨ (j = .int .i64 1 ∧ z4 = .int .i64 (cntB l : Nat) ∧ ∃ σ' S', Sto W0 A c (k + 1) b σ' W S' wr ∧ Foot S S' y wr ∧ Like σ σ')) (fun _ _ _ _ _ j _ => 1 - (intOf j).toNat)
  case atStart => exact .inl ⟨rfl, rfl, rfl⟩
  case round =>
    rcases hrel with ⟨rfl, rfl, rfl⟩ | ⟨rfl, rfl, σ', S', h1, h2, h3⟩
    · go_wp2_with fail
      refine HP.out.mono ?_
      rintro e y2 ⟨rfl, rfl⟩
      go_wp2_with fail
      refine HR.out.mono ?_
      rintro e y3 ⟨v, σ', S', rfl, hrow, hlen, hns, hst, hft, hlk⟩
      obtain ⟨g, cap, rfl, _, hcap⟩ := own_slice hrow (by omega)
      have HROW := Lib.hid hrow
      have HST := Lib.hid hst
      have HFT := Lib.hid hft
      have HLK := Lib.hid hlk
      have HLEN := Lib.hid hlen
      clear hrow hst hft hlk hns hlen HR
      go_wp2_with fail
      go_loopw [4, 9, 33] (fun z4 z9 j wq => ∃ q : Nat, q ≤ pg ∧ j = .int .i64 (q : Nat) ∧ z4 = .int .i64 (cntB (l.take q) : Nat) ∧ wq = y3) (fun _ _ j _ => pg - (intOf j).toNat)
      case atStart => exact ⟨0, Nat.zero_le _, rfl, rfl, rfl⟩
      case round =>
        obtain ⟨q, hq, rfl, rfl, rfl⟩ := hrel
        have hcq : cntB (l.take q) ≤ 504 := by have h1 := cntB_le (l.take q); rw [List.length_take] at h1; omega
        by_cases hqn : q < pg
        · obtain ⟨a, ha⟩ : ∃ a, l[q]? = some a := ⟨_, List.getElem?_eq_getElem (by rw [HLEN.out]; exact hqn)⟩
          have hc0 : World.cell? _ ⟨g, q, none⟩ = some (Value.int .u8 (a.toNat : Int)) := own_at HROW.out q (B a) (by rw [List.getElem?_map, ha]; rfl)
          have hlg := (HROW.out.lt g rfl).2
          have hsc := cntB_succ l q a ha
          by_cases h0 : a = 0
          · subst h0
            replace hc0 : World.cell? _ ⟨g, q, none⟩ = some (Value.int .u8 0) := hc0
            rw [if_pos rfl, Nat.add_zero] at hsc
            have HSC := Lib.hid hsc
            clear hsc ha
            go_wp2_with fail
            go_roundw
            · exact ⟨q + 1, by omega, by go_num, by rw [HSC.out]; rfl, trivial⟩
            · simp [intOf]; omega
          · rw [if_neg h0] at hsc
            have hbn := byte_bne h0 (show ((0 : UInt8).toNat : Int) = 0 by decide)
            have hbm := byte_ne h0 (show ((0 : UInt8).toNat : Int) = 0 by decide)
            have HSC := Lib.hid hsc
            have hd : decide ((a.toNat : Int) = 0) = false := by simpa using hbm
            clear hsc ha
            go_wp2_with fail
            go_roundw
            · exact ⟨q + 1, by omega, by go_num, by rw [HSC.out]; go_num, trivial⟩
            · simp [intOf]; omega
        · obtain rfl : q = pg := by omega
          have htk : l.take q = l := List.take_of_length_le (by rw [HLEN.out]; exact Nat.le_refl _)
          rw [htk]
          go_wp2_with fail
          go_roundw
          · exact .inr ⟨by rfl, rfl, σ', S', HST.out, HFT.out, HLK.out⟩
          · simp [intOf]
    · have H1 := Lib.hid h1
      have H2 := Lib.hid h2
      have H3 := Lib.hid h3
      clear h1 h2 h3
      go_wp2_with fail
      go_ret2
      exact ⟨σ', S', rfl, H1.out, H2.out, H3.out⟩
def takenI (l : List UInt8) (pg : Nat) (p : Int) : Bool × Int := if p < 0 ∨ (pg : Int) ≤ p then (false, 1) else (decide (l.getD p.toNat 0 ≠ 0), 0)
set_option maxRecDepth 100000 in
set_option maxHeartbeats 3200000 in
theorem taken_st (h : Sto W0 A c k b σ W S w) (hk : k ≤ 900000) (hp1 : 1 ≤ c.pg) (hp2 : c.pg ≤ 504) (p : Int) (hi1 : -9223372036854775808 ≤ p) (hi2 : p ≤ 9223372036854775807) :
    Calls Tryz.prog 25 #[.pointer (some ⟨A.sb, 0, none⟩), .int .i64 p] w fun er w' => ∃ σ' S', er = .returned (.tuple #[.bool (takenI (W 0) c.pg p).1, .int .i64 (takenI (W 0) c.pg p).2]) ∧ Sto W0 A c (k + 1) b σ' W S' w' ∧ Foot S S' w w' ∧ Like σ σ' := by
  have HP := Lib.hid (pages_st h)
  have H0 := Lib.hid (h.more (k + 1) (by omega))
  by_cases hn : p < 0
  · have hE := Lib.hid (show takenI (W 0) c.pg p = (false, 1) by unfold takenI; rw [if_pos (.inl hn)])
    have hb1 : decide (p < 0) = true := by simpa using hn
    rw [hE.out]
    clear h
    go_enter Tryz.func25, Tryz.ntmps25
    go_wp2_with fail
    go_ret2
    exact ⟨σ, S, rfl, H0.out, Foot.below (GrowX.refl _), Like.refl _⟩
  · have hb1 : decide (p < 0) = false := by simpa using hn
    by_cases hq : (c.pg : Int) ≤ p
    · have hE := Lib.hid (show takenI (W 0) c.pg p = (false, 1) by unfold takenI; rw [if_pos (.inr hq)])
      have hb2 : decide ((c.pg : Int) ≤ p) = true := by simpa using hq
      have hb3 : decide (p ≥ (c.pg : Int)) = true := by simpa using hq
      rw [hE.out]
      clear h
      go_enter Tryz.func25, Tryz.ntmps25
      go_wp2_with fail
      refine HP.out.mono ?_
      rintro e y ⟨rfl, rfl⟩
      go_wp2_with fail
      go_ret2
      exact ⟨σ, S, rfl, H0.out, Foot.below (GrowX.refl _), Like.refl _⟩
    · obtain ⟨q, rfl⟩ : ∃ q : Nat, p = (q : Int) := ⟨p.toNat, by omega⟩
      have hq2 : q < c.pg := by omega
      have hb2 : decide ((c.pg : Int) ≤ (q : Int)) = false := by simp; omega
      have hb4 : decide (c.pg ≤ q) = false := by simp; omega
      have hwl := h.std.len (show 0 < c.pg by omega)
      obtain ⟨a, ha⟩ : ∃ a, (W 0)[q]? = some a := ⟨_, List.getElem?_eq_getElem (by omega)⟩
      obtain ⟨bo, hbo⟩ : ∃ bo, decide (a ≠ 0) = bo := ⟨_, rfl⟩
      have hE := Lib.hid (show takenI (W 0) c.pg (q : Int) = (bo, 0) by unfold takenI; rw [if_neg (by omega), Int.toNat_natCast, List.getD_eq_getElem?_getD, ha, ← hbo]; rfl)
      have hrd := read_st h 0 q 1 (by omega) (by omega) hk
      have h1 : ((W 0).drop q).take 1 = [a] := by
        obtain ⟨hi, he⟩ := List.getElem?_eq_some_iff.1 ha
        rw [List.drop_eq_getElem_cons hi, he]; rfl
      rw [h1] at hrd
      have HR := Lib.hid hrd
      have hdv : (q : Int) / 504 = 0 := by omega
      have hmd : (q : Int) % 504 = (q : Int) := by omega
      have hdv2 : Int.tdiv (q : Int) 504 = 0 := by rw [Int.tdiv_eq_ediv_of_nonneg (by omega)]; exact hdv
      have hmd2 : Int.tmod (q : Int) 504 = (q : Int) := by rw [Int.tmod_eq_emod_of_nonneg (by omega)]; exact hmd
      rw [hE.out]
      clear h hrd h1
      go_enter Tryz.func25, Tryz.ntmps25
      go_wp2_with fail
      refine HP.out.mono ?_
      rintro e y ⟨rfl, rfl⟩
      go_wp2_with fail
      refine HR.out.mono ?_
      rintro e y3 ⟨v, σ', S', rfl, hrow, hlen, hns, hst, hft, hlk⟩
      obtain ⟨g, cap, rfl, _, hcap⟩ := own_slice hrow (by decide)
      have hc0 : World.cell? _ ⟨g, 0, none⟩ = some (Value.int .u8 (a.toNat : Int)) := own_at hrow 0 (B a) rfl
      have hlg := (hrow.lt g rfl).2
      have HST := Lib.hid hst
      have HFT := Lib.hid hft
      have HLK := Lib.hid hlk
      clear hrow hst hft hlk hns hlen HR HP
      by_cases h0 : a = 0
      · subst h0
        replace hc0 : World.cell? _ ⟨g, 0, none⟩ = some (Value.int .u8 0) := hc0
        obtain rfl : bo = false := by rw [← hbo]; simp
        clear hbo
        go_wp2_with fail
        go_ret2
        exact ⟨σ', S', rfl, HST.out, HFT.out, HLK.out⟩
      · have hbn := byte_bne h0 (show ((0 : UInt8).toNat : Int) = 0 by decide)
        have hbm := byte_ne h0 (show ((0 : UInt8).toNat : Int) = 0 by decide)
        have hd : decide ((a.toNat : Int) = 0) = false := by simpa using hbm
        obtain rfl : bo = true := by rw [← hbo]; simpa using h0
        clear hbo
        go_wp2_with fail
        go_ret2
        exact ⟨σ', S', rfl, HST.out, HFT.out, HLK.out⟩
def giveB (l : List UInt8) (pg : Nat) (p : Int) : Bool := (takenI l pg p).1 && decide (1 ≤ p)
set_option maxRecDepth 100000 in
set_option maxHeartbeats 3200000 in
theorem give_no (h : Sto W0 A c k b σ W S w) (hk : k ≤ 900000) (hp1 : 1 ≤ c.pg) (hp2 : c.pg ≤ 504) (t : Nat) (p : Int) (hi1 : -9223372036854775808 ≤ p) (hi2 : p ≤ 9223372036854775807) (hg : giveB (W 0) c.pg p = false) :
    Calls Tryz.prog 24 #[.pointer (some ⟨A.sb, 0, none⟩), .int .i64 (t : Nat), .int .i64 p] w fun er w' => ∃ σ' S', er = .returned (.int .i64 1) ∧ Sto W0 A c (k + 1) b σ' W S' w' ∧ Foot S S' w w' ∧ Like σ σ' := by
  have hT := taken_st h hk hp1 hp2 p hi1 hi2
  have hcase : (takenI (W 0) c.pg p).2 = 1 ∧ (takenI (W 0) c.pg p).1 = false ∨ (takenI (W 0) c.pg p).2 = 0 := by
    unfold takenI
    split
    · exact .inl ⟨rfl, rfl⟩
    · exact .inr rfl
  have HM := Lib.hid (fun w' => maps_one w' c.pg hp1 hp2)
  have HPG := Lib.hid (fun (σ' : St) (S' : Nat → Prop) (w' : World) (hs : Sto W0 A c (k + 1) b σ' W S' w') => pages_st hs)
  rcases hcase with ⟨h1, h2⟩ | h1
  · rw [h1, h2] at hT
    have HT := Lib.hid hT
    clear h hT hg h1 h2
    go_enter Tryz.func24, Tryz.ntmps24
    go_wp2_with fail
    refine HT.out.mono ?_
    rintro e y ⟨σ', S', rfl, hst, hft, hlk⟩
    have HST := Lib.hid hst
    have HFT := Lib.hid hft
    have HLK := Lib.hid hlk
    clear hst hft hlk
    go_wp2_with fail
    go_ret
    exact ⟨σ', S', rfl, HST.out, HFT.out, HLK.out⟩
  · rw [h1] at hT
    unfold giveB at hg
    cases hx : (takenI (W 0) c.pg p).1 with
    | false =>
      rw [hx] at hT
      have HT := Lib.hid hT
      clear h hT hg h1 hx
      go_enter Tryz.func24, Tryz.ntmps24
      go_wp2_with fail
      refine HT.out.mono ?_
      rintro e y ⟨σ', S', rfl, hst, hft, hlk⟩
      have HST := Lib.hid hst
      have HFT := Lib.hid hft
      have HLK := Lib.hid hlk
      clear hst hft hlk
      go_wp2_with fail
      go_ret
      exact ⟨σ', S', rfl, HST.out, HFT.out, HLK.out⟩
    | true =>
      rw [hx] at hT hg
      have hp0 : p < 1 := by simp at hg; omega
      have hb : decide (p < 1) = true := by simpa using hp0
      have HT := Lib.hid hT
      clear h hT hg h1 hx hp0
      go_enter Tryz.func24, Tryz.ntmps24
      go_wp2_with fail
      refine HT.out.mono ?_
      rintro e y ⟨σ', S', rfl, hst, hft, hlk⟩
      have HST := Lib.hid hst
      have HFT := Lib.hid hft
      have HLK := Lib.hid hlk
      clear hst hft hlk
      go_wp2_with fail
      refine (HPG.out _ _ _ HST.out).mono ?_
      rintro e y2 ⟨rfl, rfl⟩
      go_wp2_with fail
      refine (HM.out _).mono ?_
      rintro e y2 ⟨rfl, rfl⟩
      go_wp2_with fail
      go_ret
      exact ⟨σ', S', rfl, HST.out, HFT.out, HLK.out⟩
set_option maxRecDepth 100000 in
set_option maxHeartbeats 3200000 in
theorem give_yes (h : Sto W0 A c k b σ W S w) (hk : k ≤ 800000) {i : Nat} {x : Tx} (hx : σ.opn[i]? = some x) (hp1 : 1 ≤ c.pg) (hp2 : c.pg ≤ 504) (p : Nat) (hg : giveB (W 0) c.pg (p : Int) = true) (hbusy : σ.busy (x.id : Int) 0 p 1 = false) (hb : b + 195 + 2048 ≤ (c.n - 1) * 118) :
    Calls Tryz.prog 24 #[.pointer (some ⟨A.sb, 0, none⟩), .int .i64 (x.id : Nat), .int .i64 (p : Nat)] w fun er w' => ∃ σ' S', er = .returned (.int .i64 0) ∧ Sto W0 A c (k + 4) (b + 195) σ' (updV W 0 (overB (W 0) p [0])) S' w' ∧ Foot S S' w w' ∧ Wrote σ σ' i x W 0 p [0] := by
  have hpp : 1 ≤ p ∧ p < c.pg ∧ takenI (W 0) c.pg (p : Int) = (true, 0) := by
    unfold giveB at hg
    rw [Bool.and_eq_true, decide_eq_true_eq] at hg
    obtain ⟨h1, h2⟩ := hg
    unfold takenI at h1 ⊢
    by_cases hc : (p : Int) < 0 ∨ (c.pg : Int) ≤ (p : Int)
    · rw [if_pos hc] at h1; cases h1
    · rw [if_neg hc] at h1 ⊢
      refine ⟨by omega, by omega, ?_⟩
      rw [Prod.mk.injEq]
      exact ⟨h1, rfl⟩
  obtain ⟨hp3, hp4, ht⟩ := hpp
  have hT := taken_st h (by omega) hp1 hp2 (p : Int) (by omega) (by omega)
  rw [ht] at hT
  have HT := Lib.hid hT
  have HM := Lib.hid (fun w' => maps_one w' c.pg hp1 hp2)
  have HPG := Lib.hid (fun (σ' : St) (S' : Nat → Prop) (w' : World) (hs : Sto W0 A c (k + 1) b σ' W S' w') => pages_st hs)
  have HW := Lib.hid (fun (σ1 : St) (S1 : Nat → Prop) (w1 : World) (h1 : Sto W0 A c (k + 1) b σ1 W S1 w1) (hl : Like σ σ1) => write1_st (h1.below ((Below.refl w1.heap.size w1).alloc (Nat.le_refl _) (.cells #[B 0] 5))) (by omega) (i := i) (x := x) (by rw [hl.opn]; exact hx) 0 p 0 w1.heap.size (Box.new w1 #[B 0] 5 rfl) (by omega) (by omega)
    (by unfold St.busy; rw [hl.opn]; exact hbusy) (fun hs => by have := (h1.lt _ hs).2; omega) hb)
  have hdv : (p : Int) / 504 = 0 := by omega
  have hmd : (p : Int) % 504 = (p : Int) := by omega
  have hdv2 : Int.tdiv (p : Int) 504 = 0 := by rw [Int.tdiv_eq_ediv_of_nonneg (by omega)]; exact hdv
  have hmd2 : Int.tmod (p : Int) 504 = (p : Int) := by rw [Int.tmod_eq_emod_of_nonneg (by omega)]; exact hmd
  have hb1 : decide ((p : Int) < 1) = false := by simp; omega
  have hb2 : decide (p < 1) = false := by simp; omega
  obtain ⟨t, htt⟩ : ∃ t : Nat, x.id = t := ⟨_, rfl⟩
  rw [htt] at HW ⊢
  clear h hT hg hx hbusy ht hb htt
  go_enter Tryz.func24, Tryz.ntmps24
  go_wp2_with fail
  refine HT.out.mono ?_
  rintro e y ⟨σ', S', rfl, hst, hft, hlk⟩
  have HST := Lib.hid hst
  have HFT := Lib.hid hft
  have HLK := Lib.hid hlk
  clear hst hft hlk HT
  go_wp2_with fail
  refine (HPG.out _ _ _ HST.out).mono ?_
  rintro e y2 ⟨rfl, rfl⟩
  go_wp2_with fail
  refine (HM.out _).mono ?_
  rintro e y2 ⟨rfl, rfl⟩
  go_wp2_with fail
  refine (HW.out _ _ _ HST.out HLK.out).mono ?_
  rintro e y3 ⟨σ2, S2, rfl, h1, h2, h3⟩
  have H1 := Lib.hid h1
  have H2 := Lib.hid h2
  have H3 := Lib.hid h3
  clear h1 h2 h3 HW
  go_wp2_with fail
  go_ret
  exact ⟨σ2, S2, rfl, H1.out, HFT.out.trans (Foot.step_below ((Below.refl y2.heap.size y2).alloc (Nat.le_refl _) _) H2.out), H3.out.like HLK.out⟩
end
end Go.Proofs.YtpajagkhmodbnaaGreat

/- The document's pool: Put. Conditions: the force's error is no OK. -/
import Derived.Test.YtdnjjdpenfhpeaaPlRefG
namespace Go.Proofs.Ytdnjjdpenfhpeaa
set_option linter.unusedSimpArgs false
set_option linter.unusedVariables false
open Go.RowKit
section
variable {W0 w : World} {r n pg : Nat} {bad er : Int} {p : Pl} {fo : List Int} {S : Nat → Prop}
set_option maxRecDepth 100000 in
set_option maxHeartbeats 3200000 in
theorem rput_good (her : ¬ er = 0) (h : RV W0 r n pg bad er p fo S w) (m : Int) (hm : 0 ≤ m ∧ m < (pg : Int)) (b : List UInt8) (hbl : b.length = 512) (l : Int) (hl : 1 ≤ l) (hwr : p.wr + 1 ≤ 1000000000) (hfo : fo.length + 1 ≤ 1000000) :
    Calls Try.prog 21 #[.pointer (some ⟨r, 0, none⟩), .int .i64 m, .string ⟨b.toArray⟩, .int .i64 l] w fun e w' => ∃ S', e = .returned (.int .i64 (p.put pg (stepP bad er) fo m b l).1) ∧ RV W0 r n pg bad er (p.put pg (stepP bad er) fo m b l).2.1 (p.put pg (stepP bad er) fo m b l).2.2 S' w' ∧ Foot S S' w w' := by
  have hcall := rfind_rv h m
  rw [rfindL_eq _ hm.1] at hcall
  have HC := Lib.hid hcall
  have H := Lib.hid h
  have H6 := Lib.hid h.ok
  have HBL := Lib.hid hbl
  have HPG := Lib.hid hm
  obtain ⟨db0, cd0, c0, hlt0⟩ : ∃ db0 cd0, w.cell? ⟨r, 0, none⟩ = some (.slice (some ⟨db0, 0, none⟩) pg cd0) ∧ r < w.heap.size := by
    obtain ⟨db, cd, fb, cf, vo, h1, _⟩ := h
    exact ⟨db, cd, h1.box.cell 0 _ rfl, h1.box.lt⟩
  have hb1 : decide (m < 0) = false := by simp; omega
  have hb2 : decide (m ≥ (pg : Int)) = false := by simp; omega
  have hb3 : decide ((pg : Int) ≤ m) = false := by simp; omega
  have hb4 : decide (l < 1) = false := by simp; omega
  have hsz : (⟨b.toArray⟩ : ByteArray).size = 512 := by show b.toArray.size = 512; simpa using hbl
  have hcond : 0 ≤ m ∧ m < (pg : Int) ∧ b.length = 512 ∧ 1 ≤ l := ⟨hm.1, hm.2, hbl, hl⟩
  cases hfl : findL p.F m with
  | some ix =>
    rw [hfl] at HC
    have hin : ix < n := by have := findL_lt hfl; rw [H6.out.len] at this; exact this
    obtain ⟨x, hx, hxp, _⟩ := findL_some hfl
    have HE : Hid (p.put pg (stepP bad er) fo m b l = (0, { p with F := p.F.set ix ⟨x.page, b, true, true, if x.dirty = true then x.rc else l, l⟩ }, fo)) := Lib.hid (by
      unfold Pl.put
      rw [if_pos hcond, hfl]
      simp only [Pl.putAt, getD_at hx, hxp, true_and])
    have HPX := Lib.hid hxp
    have HX := Lib.hid hx
    have hib : decide ((ix : Int) < 0) = false := by simp
    clear hfl hx hm hcall h hbl hcond hl hxp
    simp only [atI] at HC
    go_enter Try.func21, Try.ntmps21
    go_wp2_with fail
    refine HC.out.mono ?_
    rintro e y ⟨rfl, rfl⟩
    have hpv := H.out
    have HLOW := Lib.hid (ownR_low H.out)
    clear c0 hlt0 hsz
    obtain ⟨db, cd, fb, cf, vo, h1, h2, h3, h4, h5, rfl⟩ := hpv
    have hn64 := h4.n64
    have HRB := Lib.hid h1
    have I2 := Lib.hid h2
    have I3 := Lib.hid h3
    have I4 := Lib.hid h4
    have I5 := Lib.hid h5
    clear h1 h2 h3 h4 h5
    obtain ⟨pgx, bx, di, ma, rc, ls⟩ := x
    simp only at HPX
    rw [← HPX.out] at HPG
    have HIXL : Hid (ix < p.F.length) := Lib.hid (List.getElem?_eq_some_iff.1 HX.out).1
    go_upto_region 10 with (fail)
    have ge1 := HRB.out.box.cell 1 _ rfl
    have gelt := HRB.out.box.lt
    have lefz := HRB.out.ffz
    have lelt := HRB.out.fl.2
    have hgl := HRB.out.rf
    have x0 := HRB.out.cell (by omega) ix _ HX.out 0 _ rfl
    have x1 := HRB.out.cell (by omega) ix _ HX.out 1 _ rfl
    have x2 := HRB.out.cell (by omega) ix _ HX.out 2 _ rfl
    have x3 := HRB.out.cell (by omega) ix _ HX.out 3 _ rfl
    have x4 := HRB.out.cell (by omega) ix _ HX.out 4 _ rfl
    have x5 := HRB.out.cell (by omega) ix _ HX.out 5 _ rfl
    rw [Nat.add_zero] at x0
    simp only [S8] at x0 x1 x2 x3 x4 x5
    cases di with
    | true =>
      obtain ⟨a2, g2⟩ := HRB.out.setF I4.out.len ix _ ⟨pgx, b, true, ma, rc, ls⟩ HX.out 1 (by omega) (S8 b) rfl
      obtain ⟨a3, g3⟩ := a2.setF (by first | exact I4.out.len | (simp only [List.length_set]; exact I4.out.len)) ix _ ⟨pgx, b, true, ma, rc, l⟩ (List.getElem?_set_self (by first | exact HIXL.out | (simp only [List.length_set]; exact HIXL.out))) 4 (by omega) (.int .i64 l) rfl
      simp only [List.set_set] at a3
      obtain ⟨a4, g4⟩ := a3.setF (by first | exact I4.out.len | (simp only [List.length_set]; exact I4.out.len)) ix _ ⟨pgx, b, true, ma, rc, l⟩ (List.getElem?_set_self (by first | exact HIXL.out | (simp only [List.length_set]; exact HIXL.out))) 2 (by omega) (.bool true) rfl
      simp only [List.set_set] at a4
      obtain ⟨a5, g5⟩ := a4.setF (by first | exact I4.out.len | (simp only [List.length_set]; exact I4.out.len)) ix _ ⟨pgx, b, true, true, rc, l⟩ (List.getElem?_set_self (by first | exact HIXL.out | (simp only [List.length_set]; exact HIXL.out))) 3 (by omega) (.bool true) rfl
      simp only [List.set_set] at a5
      have HA5 := Lib.hid a5
      have HG5 := Lib.hid (g2.trans (g3.trans (g4.trans g5)))
      clear a2 a3 a4 a5 g2 g3 g4 g5
      simp only [S8] at HA5 HG5
      go_wp2_with fail
      go_ret
      rw [HE.out]
      simp only [if_true]
      obtain ⟨z1, z2⟩ := RV.again HA5.out I2.out HLOW.out I3.out (HG5.out.mono (Y := ownR r db fb vo) (fun k e => .inr (.inr (.inl e)))) (fun k h => .inl h)
        ⟨by first | exact I4.out.len | (simp only [List.length_set]; exact I4.out.len), I4.out.n1, I4.out.n64, I4.out.hand, I4.out.set ix _ ⟨fun _ => ⟨HPG.out.2, HBL.out⟩, fun _ => HPG.out.1⟩, I4.out.wr⟩ I5.out
      first | exact ⟨_, rfl, z1, z2⟩ | exact ⟨rfl, _, z1, z2⟩
    | false =>
      obtain ⟨a1, g1⟩ := HRB.out.setF I4.out.len ix _ ⟨pgx, bx, false, ma, l, ls⟩ HX.out 5 (by omega) (.int .i64 l) rfl
      obtain ⟨a2, g2⟩ := a1.setF (by first | exact I4.out.len | (simp only [List.length_set]; exact I4.out.len)) ix _ ⟨pgx, b, false, ma, l, ls⟩ (List.getElem?_set_self (by first | exact HIXL.out | (simp only [List.length_set]; exact HIXL.out))) 1 (by omega) (S8 b) rfl
      simp only [List.set_set] at a2
      obtain ⟨a3, g3⟩ := a2.setF (by first | exact I4.out.len | (simp only [List.length_set]; exact I4.out.len)) ix _ ⟨pgx, b, false, ma, l, l⟩ (List.getElem?_set_self (by first | exact HIXL.out | (simp only [List.length_set]; exact HIXL.out))) 4 (by omega) (.int .i64 l) rfl
      simp only [List.set_set] at a3
      obtain ⟨a4, g4⟩ := a3.setF (by first | exact I4.out.len | (simp only [List.length_set]; exact I4.out.len)) ix _ ⟨pgx, b, true, ma, l, l⟩ (List.getElem?_set_self (by first | exact HIXL.out | (simp only [List.length_set]; exact HIXL.out))) 2 (by omega) (.bool true) rfl
      simp only [List.set_set] at a4
      obtain ⟨a5, g5⟩ := a4.setF (by first | exact I4.out.len | (simp only [List.length_set]; exact I4.out.len)) ix _ ⟨pgx, b, true, true, l, l⟩ (List.getElem?_set_self (by first | exact HIXL.out | (simp only [List.length_set]; exact HIXL.out))) 3 (by omega) (.bool true) rfl
      simp only [List.set_set] at a5
      have HA5 := Lib.hid a5
      have HG5 := Lib.hid (g1.trans (g2.trans (g3.trans (g4.trans g5))))
      clear a1 a2 a3 a4 a5 g1 g2 g3 g4 g5
      simp only [S8] at HA5 HG5
      go_wp2_with fail
      go_ret
      rw [HE.out]
      simp only [Bool.false_eq_true, if_false]
      obtain ⟨z1, z2⟩ := RV.again HA5.out I2.out HLOW.out I3.out (HG5.out.mono (Y := ownR r db fb vo) (fun k e => .inr (.inr (.inl e)))) (fun k h => .inl h)
        ⟨by first | exact I4.out.len | (simp only [List.length_set]; exact I4.out.len), I4.out.n1, I4.out.n64, I4.out.hand, I4.out.set ix _ ⟨fun _ => ⟨HPG.out.2, HBL.out⟩, fun _ => HPG.out.1⟩, I4.out.wr⟩ I5.out
      first | exact ⟨_, rfl, z1, z2⟩ | exact ⟨rfl, _, z1, z2⟩
  | none =>
    rw [hfl] at HC
    obtain ⟨e1, e2, e3, e4, e5⟩ := rf_free her (bad := bad) fo H6.out
    have hfc := free_clean (step := stepP bad er) (s := fo) H6.out
    have hlen := (rfree_P (bad := bad) (er := er) fo H6.out (q := m.toNat) (fun z hz => by have := findL_none hfl hm.1 hz; omega)).2
    have hw := rfree_rv H.out hwr hfo
    obtain ⟨c, hc⟩ : ∃ c, p.rfree bad er fo = c := ⟨_, rfl⟩
    rw [hc] at e1 e2 e3 e4 e5 hlen hw
    have HE : Hid (p.put pg (stepP bad er) fo m b l = if c.1 = 0 then (0, { c.2.2.1 with F := c.2.2.1.F.set c.2.1 ⟨m, b, true, true, l, l⟩ }, c.2.2.2) else (c.1, c.2.2.1, c.2.2.2)) := Lib.hid (by
      unfold Pl.put
      rw [if_pos hcond, hfl]
      simp only []
      by_cases h0 : c.1 = 0
      · obtain ⟨f1, f2⟩ := e3 h0
        rw [if_pos (e1.trans h0), if_pos h0, e2]
        unfold Pl.putAt
        rw [if_neg (fun hh => by rw [hfc (e1.trans h0)] at hh; cases hh.2), f1, f2]
      · rw [if_neg (by rw [e1]; exact h0), if_neg h0, e1, e4 h0, e2])
    have HW := Lib.hid hw
    have HLN := Lib.hid hlen
    have HIX := Lib.hid e5
    clear hfl e1 e2 e3 e4 e5 hw hc hm hfc hlen hcall h hbl hcond hl
    simp only [atI] at HC
    go_enter Try.func21, Try.ntmps21
    go_wp2_with fail
    refine HC.out.mono ?_
    rintro e y ⟨rfl, rfl⟩
    obtain ⟨c1, ix, c2, c3⟩ := c
    simp only at HLN HIX
    by_cases hce : c1 = 0
    case neg =>
      have hq1 : (c1 != 0) = true := by simpa using hce
      go_wp2_with fail
      refine HW.out.mono ?_
      rintro e w7 ⟨S', rfl, hpv, hft⟩
      have HP7 := Lib.hid hpv
      have HF7 := Lib.hid hft
      clear hpv hft
      go_wp2_with fail
      go_ret
      rw [HE.out, if_neg hce]
      first | exact ⟨S', rfl, HP7.out, HF7.out⟩ | exact ⟨rfl, S', HP7.out, HF7.out⟩
    subst hce
    clear c0 hlt0 hsz
    go_wp2_with fail
    refine HW.out.mono ?_
    rintro e y3 ⟨S', rfl, hpv, hft⟩
    have HFY := Lib.hid hft
    have HLOW := Lib.hid (ownR_low hpv)
    clear hft
    obtain ⟨db, cd, fb, cf, vo, h1, h2, h3, h4, h5, rfl⟩ := hpv
    have hn64 := h4.n64
    have HRB := Lib.hid h1
    have I2 := Lib.hid h2
    have I3 := Lib.hid h3
    have I4 := Lib.hid h4
    have I5 := Lib.hid h5
    clear h1 h2 h3 h4 h5
    have hiF : ix < c2.F.length := by rw [HLN.out]; exact HIX.out
    have hixn : ix < n := HIX.out
    have HIXL : Hid (ix < c2.F.length) := Lib.hid hiF
    have hx : c2.F[ix]? = some c2.F[ix] := List.getElem?_eq_getElem hiF
    have HX := Lib.hid hx
    generalize c2.F[ix] = x at *
    obtain ⟨pgx, bx0, di, ma, rc, ls⟩ := x
    clear hx hiF
    have ge1 := HRB.out.box.cell 1 _ rfl
    have gelt := HRB.out.box.lt
    have lefz := HRB.out.ffz
    have lelt := HRB.out.fl.2
    have hgl := HRB.out.rf
    have x0 := HRB.out.cell (by omega) ix _ HX.out 0 _ rfl
    have x1 := HRB.out.cell (by omega) ix _ HX.out 1 _ rfl
    have x2 := HRB.out.cell (by omega) ix _ HX.out 2 _ rfl
    have x3 := HRB.out.cell (by omega) ix _ HX.out 3 _ rfl
    have x4 := HRB.out.cell (by omega) ix _ HX.out 4 _ rfl
    have x5 := HRB.out.cell (by omega) ix _ HX.out 5 _ rfl
    rw [Nat.add_zero] at x0
    simp only [S8] at x0 x1 x2 x3 x4 x5
    obtain ⟨a0, g0⟩ := HRB.out.put6 I4.out.len ix _ ⟨m, [], false, false, 0, 0⟩ HX.out
    have hset : (c2.F.set ix ⟨m, [], false, false, 0, 0⟩)[ix]? = some ⟨m, [], false, false, 0, 0⟩ := List.getElem?_set_self (List.getElem?_eq_some_iff.1 HX.out).1
    have HA0 := Lib.hid a0
    have HG0 := Lib.hid (g0.mono (Y := ownR r db fb vo) (fun k e => .inr (.inr (.inl e))))
    have HSET := Lib.hid hset
    simp only [S8] at HA0 HG0
    clear a0 g0 hset
    go_upto_region 10 with (fail)
    clear ge1 gelt lefz lelt x0 x1 x2 x3 x4 x5
    generalize hy4 : (((((y3.setCell ⟨fb, ix * 6, none⟩ (.int .i64 m)).setCell ⟨fb, ix * 6 + 1, none⟩ (.string ⟨#[]⟩)).setCell ⟨fb, ix * 6 + 2, none⟩ (.bool false)).setCell ⟨fb, ix * 6 + 3, none⟩ (.bool false)).setCell ⟨fb, ix * 6 + 4, none⟩ (.int .i64 0)).setCell ⟨fb, ix * 6 + 5, none⟩ (.int .i64 0) = y4 at HA0 HG0 ⊢
    clear hy4
    have ge1 := HA0.out.box.cell 1 _ rfl
    have gelt := HA0.out.box.lt
    have lefz := HA0.out.ffz
    have lelt := HA0.out.fl.2
    have hgl := HA0.out.rf
    have x1 := HA0.out.cell (by omega) ix _ HSET.out 1 _ rfl
    have x2 := HA0.out.cell (by omega) ix _ HSET.out 2 _ rfl
    have x3 := HA0.out.cell (by omega) ix _ HSET.out 3 _ rfl
    have x4 := HA0.out.cell (by omega) ix _ HSET.out 4 _ rfl
    have x5 := HA0.out.cell (by omega) ix _ HSET.out 5 _ rfl
    simp only [S8] at x1 x2 x3 x4 x5
    obtain ⟨a1, g1⟩ := HA0.out.setF (by first | exact I4.out.len | (simp only [List.length_set]; exact I4.out.len)) ix _ ⟨m, [], false, false, l, 0⟩ HSET.out 5 (by omega) (.int .i64 l) rfl
    obtain ⟨a2, g2⟩ := a1.setF (by first | exact I4.out.len | (simp only [List.length_set]; exact I4.out.len)) ix _ ⟨m, b, false, false, l, 0⟩ (List.getElem?_set_self (by first | exact HIXL.out | (simp only [List.length_set]; exact HIXL.out))) 1 (by omega) (S8 b) rfl
    simp only [List.set_set] at a2
    obtain ⟨a3, g3⟩ := a2.setF (by first | exact I4.out.len | (simp only [List.length_set]; exact I4.out.len)) ix _ ⟨m, b, false, false, l, l⟩ (List.getElem?_set_self (by first | exact HIXL.out | (simp only [List.length_set]; exact HIXL.out))) 4 (by omega) (.int .i64 l) rfl
    simp only [List.set_set] at a3
    obtain ⟨a4, g4⟩ := a3.setF (by first | exact I4.out.len | (simp only [List.length_set]; exact I4.out.len)) ix _ ⟨m, b, true, false, l, l⟩ (List.getElem?_set_self (by first | exact HIXL.out | (simp only [List.length_set]; exact HIXL.out))) 2 (by omega) (.bool true) rfl
    simp only [List.set_set] at a4
    obtain ⟨a5, g5⟩ := a4.setF (by first | exact I4.out.len | (simp only [List.length_set]; exact I4.out.len)) ix _ ⟨m, b, true, true, l, l⟩ (List.getElem?_set_self (by first | exact HIXL.out | (simp only [List.length_set]; exact HIXL.out))) 3 (by omega) (.bool true) rfl
    simp only [List.set_set] at a5
    have HA5 := Lib.hid a5
    have HG5 := Lib.hid (HG0.out.trans <| GrowX.mono (Y := ownR r db fb vo) (g1.trans (g2.trans (g3.trans (g4.trans g5)))) (fun k e => .inr (.inr (.inl e))))
    clear a1 a2 a3 a4 a5 g1 g2 g3 g4 g5
    simp only [S8] at HA5 HG5
    go_wp2_with fail
    go_ret
    rw [HE.out, if_pos trivial]
    obtain ⟨z1, z2⟩ := RV.again HA5.out I2.out HLOW.out I3.out HG5.out (fun k h => .inl h)
      ⟨by first | exact I4.out.len | (simp only [List.length_set]; exact I4.out.len), I4.out.n1, I4.out.n64, I4.out.hand, I4.out.set ix _ ⟨fun _ => ⟨HPG.out.2, HBL.out⟩, fun _ => HPG.out.1⟩, I4.out.wr⟩ I5.out
    first | exact ⟨_, rfl, z1, HFY.out.trans z2⟩ | exact ⟨rfl, _, z1, HFY.out.trans z2⟩
set_option maxRecDepth 100000 in
theorem rput_bad (h : RV W0 r n pg bad er p fo S w) (m : Int) (b : List UInt8) (l : Int) (hbad : ¬ (0 ≤ m ∧ m < (pg : Int) ∧ b.length = 512 ∧ 1 ≤ l)) :
    Calls Try.prog 21 #[.pointer (some ⟨r, 0, none⟩), .int .i64 m, .string ⟨b.toArray⟩, .int .i64 l] w fun e w' => e = .returned (.int .i64 1) ∧ w' = w := by
  obtain ⟨db0, cd0, c0, hlt0⟩ : ∃ db0 cd0, w.cell? ⟨r, 0, none⟩ = some (.slice (some ⟨db0, 0, none⟩) pg cd0) ∧ r < w.heap.size := by
    obtain ⟨db, cd, fb, cf, vo, h1, _⟩ := h
    exact ⟨db, cd, h1.box.cell 0 _ rfl, h1.box.lt⟩
  have hsz : (⟨b.toArray⟩ : ByteArray).size = b.length := by show b.toArray.size = b.length; simp
  clear h
  by_cases h1 : m < 0
  · have hb1 : decide (m < 0) = true := by simpa using h1
    clear hbad h1
    go_enter Try.func21, Try.ntmps21
    go_wp2_with fail
    go_ret
    exact ⟨rfl, rfl⟩
  have hb1 : decide (m < 0) = false := by simpa using h1
  by_cases h2 : (pg : Int) ≤ m
  · have hb2 : decide (m ≥ (pg : Int)) = true := by simpa using h2
    have hb3 : decide ((pg : Int) ≤ m) = true := by simpa using h2
    clear hbad h1 h2
    go_enter Try.func21, Try.ntmps21
    go_wp2_with fail
    go_ret
    exact ⟨rfl, rfl⟩
  have hb2 : decide (m ≥ (pg : Int)) = false := by simp; omega
  have hb3 : decide ((pg : Int) ≤ m) = false := by simpa using h2
  obtain ⟨nb, hnb⟩ : ∃ x, b.length = x := ⟨_, rfl⟩
  rw [hnb] at hsz hbad
  clear hnb
  by_cases h3 : nb = 512
  · subst h3
    have hb4 : decide (l < 1) = true := by
      have : ¬ 1 ≤ l := fun h4 => hbad ⟨by omega, by omega, rfl, h4⟩
      simp; omega
    clear hbad h1 h2
    go_enter Try.func21, Try.ntmps21
    go_wp2_with fail
    go_ret
    exact ⟨rfl, rfl⟩
  · have hb4 : ((nb : Int) != 512) = true := by simp; omega
    have HB4 := Lib.hid hbad
    clear hbad h1 h2
    go_enter Try.func21, Try.ntmps21
    go_wp2_with fail
    go_ret
    exact ⟨rfl, rfl⟩
end
end Go.Proofs.Ytdnjjdpenfhpeaa

/- The document's pool: its plain answers are the program's; Evict. Conditions: the force's error is no OK. -/
import Derived.Test.YtdnjjdpenfhpeaaPlRefF
namespace Go.Proofs.Ytdnjjdpenfhpeaa
set_option linter.unusedSimpArgs false
set_option linter.unusedVariables false
open Go.RowKit

theorem rwrite_F (bad er : Int) (p : Pl) (fo : List Int) (i : Nat) : (p.rwrite bad er fo i).2.1.F = p.F ∧ (p.rwrite bad er fo i).2.1.hand = p.hand := by
  unfold Pl.rwrite
  split
  · split <;> exact ⟨rfl, rfl⟩
  · exact ⟨rfl, rfl⟩
theorem rw_clean {bad er : Int} (her : ¬ er = 0) (p : Pl) (fo : List Int) {i : Nat} {x : Fm} (hx : p.F[i]? = some x) :
    (p.clean (stepP bad er) fo i).1 = (p.rwrite bad er fo i).1 ∧ (p.clean (stepP bad er) fo i).2.2 = (p.rwrite bad er fo i).2.2 ∧
    ((p.rwrite bad er fo i).1 = 0 → ∀ y, { (p.clean (stepP bad er) fo i).2.1 with F := (p.clean (stepP bad er) fo i).2.1.F.set i y } = { (p.rwrite bad er fo i).2.1 with F := (p.rwrite bad er fo i).2.1.F.set i y }) ∧
    (¬ (p.rwrite bad er fo i).1 = 0 → (p.clean (stepP bad er) fo i).2.1 = (p.rwrite bad er fo i).2.1) := by
  have hg := getD_at hx
  cases hd : x.dirty with
  | false =>
    have h1 : p.clean (stepP bad er) fo i = (0, p, fo) := Pl.clean_no (by rw [hg]; exact hd)
    have h2 : p.rwrite bad er fo i = (0, p, fo) := by unfold Pl.rwrite; rw [hg, if_neg (by rw [hd]; decide)]
    rw [h1, h2]
    exact ⟨rfl, rfl, fun _ _ => rfl, fun _ => rfl⟩
  | true =>
    by_cases hl : x.lsn = bad
    · have h1 : p.clean (stepP bad er) fo i = (er, p, fo ++ [x.lsn]) := Pl.clean_err hg hd (by unfold stepP; rw [if_pos hl]) her
      have h2 : p.rwrite bad er fo i = (er, p, fo ++ [x.lsn]) := by unfold Pl.rwrite; rw [hg, if_pos hd, if_pos hl]
      rw [h1, h2]
      exact ⟨rfl, rfl, fun h => absurd h her, fun _ => rfl⟩
    · have h1 : p.clean (stepP bad er) fo i = (0, { p with F := p.F.set i { x with dirty := false }, wr := p.wr + 1, P := putP p.P x.page.toNat x.b }, fo ++ [x.lsn]) := Pl.clean_ok hg hd (by unfold stepP; rw [if_neg hl])
      have h2 : p.rwrite bad er fo i = (0, { p with wr := p.wr + 1, P := putP p.P x.page.toNat x.b }, fo ++ [x.lsn]) := by unfold Pl.rwrite; rw [hg, if_pos hd, if_neg hl]
      rw [h1, h2]
      exact ⟨rfl, rfl, fun _ y => by simp only [List.set_set], fun h => absurd rfl h⟩
theorem rf_free {bad er : Int} (her : ¬ er = 0) {p : Pl} (fo : List Int) {pg n : Nat} (hok : p.ok pg n) :
    (p.free (stepP bad er) fo).1 = (p.rfree bad er fo).1 ∧ (p.free (stepP bad er) fo).2.2.2 = (p.rfree bad er fo).2.2.2 ∧
    ((p.rfree bad er fo).1 = 0 → (p.free (stepP bad er) fo).2.1 = (p.rfree bad er fo).2.1 ∧ ∀ y, { (p.free (stepP bad er) fo).2.2.1 with F := (p.free (stepP bad er) fo).2.2.1.F.set (p.rfree bad er fo).2.1 y } = { (p.rfree bad er fo).2.2.1 with F := (p.rfree bad er fo).2.2.1.F.set (p.rfree bad er fo).2.1 y }) ∧
    (¬ (p.rfree bad er fo).1 = 0 → (p.free (stepP bad er) fo).2.2.1 = (p.rfree bad er fo).2.2.1) ∧ (p.rfree bad er fo).2.1 < n := by
  unfold Pl.free Pl.rfree
  cases hf : freeL p.F with
  | some i =>
    have := (List.findIdx?_eq_some_iff_getElem.1 hf).1
    rw [hok.len] at this
    exact ⟨rfl, rfl, fun _ => ⟨rfl, fun _ => rfl⟩, fun _ => rfl, this⟩
  | none =>
    have hs : SameF p.F p.swept.1 := sweep_same _ _ _
    have hi : p.swept.2.2 < p.F.length := sweep_lt (by rw [hok.len]; have := hok.n1; omega) _ _ _ (by rw [hok.len]; exact hok.hand)
    obtain ⟨m, hm⟩ := hs.2 _ _ (List.getElem?_eq_getElem hi)
    obtain ⟨h1, h2, h3, h4⟩ := rw_clean her (bad := bad) { p with F := p.swept.1, hand := p.swept.2.1 } fo (i := p.swept.2.2) hm
    simp only [Pl.freed]
    generalize Pl.clean (stepP bad er) { p with F := p.swept.1, hand := p.swept.2.1 } fo p.swept.2.2 = c at *
    generalize Pl.rwrite bad er { p with F := p.swept.1, hand := p.swept.2.1 } fo p.swept.2.2 = c' at *
    rw [hok.len] at hi
    by_cases h0 : c'.1 = 0
    · rw [if_pos (h1.trans h0)]
      refine ⟨h0.symm, h2, fun _ => ⟨rfl, fun y => ?_⟩, fun h => absurd h0 h, hi⟩
      have := h3 h0 y
      simp only [List.set_set]
      exact this
    · rw [if_neg (by rw [h1]; exact h0)]
      exact ⟨h1, h2, fun h => absurd h h0, fun _ => h4 h0, hi⟩
theorem rfindL_eq (F : List Fm) {m : Int} (hm : 0 ≤ m) : rfindL F m = findL F m := by
  unfold rfindL findL
  congr 1
  funext x
  unfold isP
  by_cases h : x.page = m
  · simp [h, hm]
  · simp [h]
theorem findL_neg (F : List Fm) {m : Int} (hm : m < 0) : findL F m = none := by
  refine List.findIdx?_eq_none_iff.2 (fun x _ => ?_)
  unfold isP
  split
  · simp; omega
  · rfl
section
variable {W0 w : World} {r n pg : Nat} {bad er : Int} {p : Pl} {fo : List Int} {S : Nat → Prop}
set_option maxRecDepth 100000 in
set_option maxHeartbeats 3200000 in
theorem revict_rv (her : ¬ er = 0) (h : RV W0 r n pg bad er p fo S w) (m : Int) (hwr : p.wr + 1 ≤ 1000000000) (hfo : fo.length + 1 ≤ 1000000) :
    Calls Try.prog 22 #[.pointer (some ⟨r, 0, none⟩), .int .i64 m] w fun e w' => ∃ S', e = .returned (.int .i64 (p.evict (stepP bad er) fo m).1) ∧ RV W0 r n pg bad er (p.evict (stepP bad er) fo m).2.1 (p.evict (stepP bad er) fo m).2.2 S' w' ∧ Foot S S' w w' := by
  have hcall := rfind_rv h m
  have HC := Lib.hid hcall
  have H := Lib.hid h
  have H6 := Lib.hid h.ok
  clear hcall h
  by_cases hm : m < 0
  · have hmb : decide (m < 0) = true := by simpa using hm
    have HE : Hid (p.evict (stepP bad er) fo m = (0, p, fo)) := Lib.hid (by unfold Pl.evict; rw [findL_neg _ hm])
    clear hm
    go_enter Try.func22, Try.ntmps22
    go_wp2_with fail
    refine HC.out.mono ?_
    rintro e w2 ⟨rfl, rfl⟩
    go_wp2_with fail
    go_ret
    rw [HE.out]
    first | exact ⟨_, rfl, H.out, Foot.same (B := fun _ => False) (GrowX.refl _) (fun _ h => h.elim)⟩ | exact ⟨rfl, _, H.out, Foot.same (B := fun _ => False) (GrowX.refl _) (fun _ h => h.elim)⟩
  have hmb : decide (m < 0) = false := by simpa using hm
  rw [rfindL_eq _ (by omega)] at HC
  cases hfl : findL p.F m with
  | none =>
    rw [hfl] at HC
    have HE : Hid (p.evict (stepP bad er) fo m = (0, p, fo)) := Lib.hid (by unfold Pl.evict; rw [hfl])
    clear hfl hm
    simp only [atI] at HC
    go_enter Try.func22, Try.ntmps22
    go_wp2_with fail
    refine HC.out.mono ?_
    rintro e w2 ⟨rfl, rfl⟩
    go_wp2_with fail
    go_ret
    rw [HE.out]
    first | exact ⟨_, rfl, H.out, Foot.same (B := fun _ => False) (GrowX.refl _) (fun _ h => h.elim)⟩ | exact ⟨rfl, _, H.out, Foot.same (B := fun _ => False) (GrowX.refl _) (fun _ h => h.elim)⟩
  | some i =>
    rw [hfl] at HC
    have hin : i < n := by have := findL_lt hfl; rw [H6.out.len] at this; exact this
    obtain ⟨x, hx, _, _⟩ := findL_some hfl
    obtain ⟨e1, e2, e3, e4⟩ := rw_clean her (bad := bad) p fo hx
    have hw := rwrite_rv H.out i hin hwr hfo
    have hrF := (rwrite_F bad er p fo i).1
    obtain ⟨c, hc⟩ : ∃ c, p.rwrite bad er fo i = c := ⟨_, rfl⟩
    rw [hc] at e1 e2 e3 e4 hw hrF
    have HE : Hid (p.evict (stepP bad er) fo m = if c.1 = 0 then (0, { c.2.1 with F := c.2.1.F.set i Fm.free }, c.2.2) else (c.1, c.2.1, c.2.2)) := Lib.hid (by
      unfold Pl.evict
      rw [hfl]
      simp only [e1]
      by_cases h0 : c.1 = 0
      · rw [if_pos h0, if_pos h0, e3 h0, e2]
      · rw [if_neg h0, if_neg h0, ← e1, ← e2, ← e4 h0])
    have HW := Lib.hid hw
    have HXF : Hid (c.2.1.F[i]? = some x) := Lib.hid (by rw [hrF]; exact hx)
    have hib : decide ((i : Int) < 0) = false := by simp
    clear hfl hx e1 e2 e3 e4 hw hrF hc hm
    simp only [atI] at HC
    go_enter Try.func22, Try.ntmps22
    go_wp2_with fail
    refine HC.out.mono ?_
    rintro e w2 ⟨rfl, rfl⟩
    obtain ⟨c1, c2, c3⟩ := c
    by_cases hce : c1 = 0
    case neg =>
      have hq1 : (c1 != 0) = true := by simpa using hce
      go_wp2_with fail
      refine HW.out.mono ?_
      rintro e w7 ⟨S', rfl, hpv, hft⟩
      have HP7 := Lib.hid hpv
      have HF7 := Lib.hid hft
      clear hpv hft
      go_wp2_with fail
      go_ret
      rw [HE.out, if_neg hce]
      first | exact ⟨S', rfl, HP7.out, HF7.out⟩ | exact ⟨rfl, S', HP7.out, HF7.out⟩
    subst hce
    go_wp2_with fail
    refine HW.out.mono ?_
    rintro e w7 ⟨S', rfl, hpv, hft⟩
    have HF7 := Lib.hid hft
    have HRV := Lib.hid hpv
    obtain ⟨db, cd, fb, cf, vo, h1, h2, h3, h4, h5, rfl⟩ := hpv
    have hn64 := h4.n64
    have ge1 := h1.box.cell 1 _ rfl
    have gelt := h1.box.lt
    have lefz := h1.ffz
    have lelt := h1.fl.2
    have x0 := h1.cell (by omega) i x HXF.out 0 _ rfl
    have x1 := h1.cell (by omega) i x HXF.out 1 _ rfl
    have x2 := h1.cell (by omega) i x HXF.out 2 _ rfl
    have x3 := h1.cell (by omega) i x HXF.out 3 _ rfl
    have x4 := h1.cell (by omega) i x HXF.out 4 _ rfl
    have x5 := h1.cell (by omega) i x HXF.out 5 _ rfl
    rw [Nat.add_zero] at x0
    simp only [S8] at x1
    have I1 := Lib.hid h1
    have I2 := Lib.hid h2
    have I3 := Lib.hid h3
    have I4 := Lib.hid h4
    have I5 := Lib.hid h5
    clear hft h1 h2 h3 h4 h5
    go_wp2_with fail
    go_ret
    rw [HE.out, if_pos trivial]
    obtain ⟨b1, b2⟩ := I1.out.put6 I4.out.len i x Fm.free HXF.out
    obtain ⟨z1, z2⟩ := RV.again b1 I2.out (ownR_low HRV.out) I3.out (b2.mono (Y := ownR r db fb vo) (fun k e => .inr (.inr (.inl e)))) (fun k h => .inl h)
      ⟨by rw [List.length_set]; exact I4.out.len, I4.out.n1, I4.out.n64, I4.out.hand, I4.out.set i _ ⟨fun h => absurd h (by decide), fun h => by cases h⟩, I4.out.wr⟩ I5.out
    first | exact ⟨_, rfl, z1, HF7.out.trans z2⟩ | exact ⟨rfl, _, z1, HF7.out.trans z2⟩
end
end Go.Proofs.Ytdnjjdpenfhpeaa

/- The document's pool: Get, Put. Conditions: the force's error is no OK. -/
import Derived.Test.YtdnjjdpenfhpeaaPlRefE
namespace Go.Proofs.Ytdnjjdpenfhpeaa
set_option linter.unusedSimpArgs false
set_option linter.unusedVariables false
open Go.RowKit

theorem rwrite_P (bad er : Int) (p : Pl) (fo : List Int) {i q : Nat} {x : Fm} (hx : p.F[i]? = some x) (hok : x.dirty = true → 0 ≤ x.page) (hq : x.page ≠ (q : Int)) : (p.rwrite bad er fo i).2.1.P q = p.P q := by
  unfold Pl.rwrite
  rw [getD_at hx]
  split
  · next hd =>
    split
    · rfl
    · show putP p.P x.page.toNat x.b q = _
      unfold putP
      rw [if_neg]
      have := hok hd
      omega
  · rfl
theorem rfree_P {bad er : Int} {p : Pl} (fo : List Int) {pg n : Nat} (hok : p.ok pg n) {q : Nat} (hno : ∀ x ∈ p.F, x.page ≠ (q : Int)) : (p.rfree bad er fo).2.2.1.P q = p.P q ∧ (p.rfree bad er fo).2.2.1.F.length = n := by
  unfold Pl.rfree
  cases hf : freeL p.F with
  | some i => exact ⟨rfl, hok.len⟩
  | none =>
    have hs : SameF p.F p.swept.1 := sweep_same _ _ _
    have hi : p.swept.2.2 < p.F.length := sweep_lt (by rw [hok.len]; have := hok.n1; omega) _ _ _ (by rw [hok.len]; exact hok.hand)
    obtain ⟨m, hm⟩ := hs.2 _ _ (List.getElem?_eq_getElem hi)
    refine ⟨rwrite_P bad er { p with F := p.swept.1, hand := p.swept.2.1 } fo hm (fun hd => (hok.fr _ (List.getElem_mem hi)).2 hd) (by show (p.F[p.swept.2.2]).page ≠ _; exact hno _ (List.getElem_mem hi)), ?_⟩
    show (Pl.rwrite bad er { p with F := p.swept.1, hand := p.swept.2.1 } fo p.swept.2.2).2.1.F.length = n
    rw [(rwrite_F _ _ _ _ _).1]
    show p.swept.1.length = n
    rw [hs.1, hok.len]
theorem free_clean {St : Type} {step : St → Int → Int × St} {p : Pl} {s : St} {pg n : Nat} (hok : p.ok pg n) (h : (p.free step s).1 = 0) : ((p.free step s).2.2.1.F.getD (p.free step s).2.1 Fm.free).dirty = false := by
  unfold Pl.free at h ⊢
  cases hf : freeL p.F with
  | some i =>
    obtain ⟨x, hx, hxp⟩ := freeL_some hf
    show (p.F.getD i Fm.free).dirty = false
    rw [getD_at hx]
    cases hd : x.dirty with
    | false => rfl
    | true => have := (hok.fr _ (List.mem_of_getElem? hx)).2 hd; omega
  | none =>
    simp only [hf] at h ⊢
    unfold Pl.freed at h ⊢
    split
    · next h0 =>
      show ((List.set _ _ Fm.free).getD _ Fm.free).dirty = false
      rw [List.getD_eq_getElem?_getD, List.getElem?_set]
      split
      · split <;> rfl
      · next hne => exact absurd rfl hne
    · next h0 => rw [if_neg h0] at h; exact absurd h h0
def WRg9 (r db cd fb cf n pg ix q : Nat) (vo hdv wrv : Value) (bad er : Int) (bx : List UInt8) (j b o : Nat) : Prop := False
def PRg9 (r db cd fb cf n pg ix q : Nat) (vo hdv wrv : Value) (bad er : Int) (bx : List UInt8) (i : Nat) (v : Value) (lo hi : Nat) (w : World) : Prop :=
  match i with
  | 0 => v = .pointer (some ⟨r, 0, none⟩)
  | 1 => v = .pointer (some ⟨r, 0, none⟩)
  | 2 => v = .pointer (some ⟨r, 1, none⟩)
  | 3 => v = .slice (some ⟨fb, 0, none⟩) n cf
  | 4 => v = .int .i64 ((ix : Nat) : Int)
  | 5 => v = .int .i64 ((q : Nat) : Int)
  | 6 => v = .pointer (some ⟨r, 0, none⟩)
  | 7 => v = .pointer (some ⟨r, 0, none⟩)
  | 8 => v = .pointer (some ⟨r, 0, none⟩)
  | 9 => v = .slice (some ⟨db, 0, none⟩) pg cd
  | 10 => v = .int .i64 ((q : Nat) : Int)
  | 11 => v = .pointer (some ⟨db, q, none⟩)
  | 12 => v = .string ⟨bx.toArray⟩
  | 13 => v = .agg #[.int .i64 ((q : Nat) : Int), .string ⟨bx.toArray⟩, .bool false, .bool false, .int .i64 0, .int .i64 0]
  | 14 => v = .pointer (some ⟨fb, ix * 6, none⟩)
  | _ => True
theorem PRg9_stable (r db cd fb cf n pg ix q : Nat) (vo hdv wrv : Value) (bad er : Int) (bx : List UInt8)  : ∀ i j, i < 15 → j < 15 → j ≠ i → j ∉ ([[], [0], [0, 1], [0, 1, 2], [], [], [], [6], [6, 7], [6, 7, 8], [], [6, 7, 8, 9, 10], [6, 7, 8, 9, 10, 11], [5, 6, 7, 8, 9, 10, 11, 12], [0, 1, 2, 3, 4, 5, 6, 7, 8, 9, 10, 11, 12, 13]] : List (List Nat)).getD i [] → ∀ v lo hi w w', PRg9 r db cd fb cf n pg ix q vo hdv wrv bad er bx i v lo hi w → GrowC (WRg9 r db cd fb cf n pg ix q vo hdv wrv bad er bx j) w w' → PRg9 r db cd fb cf n pg ix q vo hdv wrv bad er bx i v lo hi w' := by
  intro i j hi hj hne hbs v lo hj2 w w' h hg
  match i, hi with
  | 0, _ =>
    simp only [PRg9] at h ⊢
    exact h
  | 1, _ =>
    simp only [PRg9] at h ⊢
    exact h
  | 2, _ =>
    simp only [PRg9] at h ⊢
    exact h
  | 3, _ =>
    simp only [PRg9] at h ⊢
    exact h
  | 4, _ =>
    simp only [PRg9] at h ⊢
    exact h
  | 5, _ =>
    simp only [PRg9] at h ⊢
    exact h
  | 6, _ =>
    simp only [PRg9] at h ⊢
    exact h
  | 7, _ =>
    simp only [PRg9] at h ⊢
    exact h
  | 8, _ =>
    simp only [PRg9] at h ⊢
    exact h
  | 9, _ =>
    simp only [PRg9] at h ⊢
    exact h
  | 10, _ =>
    simp only [PRg9] at h ⊢
    exact h
  | 11, _ =>
    simp only [PRg9] at h ⊢
    exact h
  | 12, _ =>
    simp only [PRg9] at h ⊢
    exact h
  | 13, _ =>
    simp only [PRg9] at h ⊢
    exact h
  | 14, _ =>
    simp only [PRg9] at h ⊢
    exact h
  | (q + 15), hq => exact absurd hq (by omega)

section
variable {W0 w : World} {r n pg : Nat} {bad er : Int} {p : Pl} {fo : List Int} {S : Nat → Prop}
set_option maxRecDepth 100000 in
set_option maxHeartbeats 3200000 in
theorem rget_rv (her : ¬ er = 0) (h : RV W0 r n pg bad er p fo S w) (hpl : ∀ q, q < pg → (p.P q).length = 512) (m : Int) (hwr : p.wr + 1 ≤ 1000000000) (hfo : fo.length + 1 ≤ 1000000) :
    Calls Try.prog 20 #[.pointer (some ⟨r, 0, none⟩), .int .i64 m] w fun e w' => ∃ S', e = .returned (.tuple #[S8 (p.get pg (stepP bad er) fo m).2.1, .int .i64 (p.get pg (stepP bad er) fo m).1]) ∧ RV W0 r n pg bad er (p.get pg (stepP bad er) fo m).2.2.1 (p.get pg (stepP bad er) fo m).2.2.2 S' w' ∧ Foot S S' w w' := by
  have hcall := rfind_rv h m
  have HC := Lib.hid hcall
  have H := Lib.hid h
  have H6 := Lib.hid h.ok
  obtain ⟨db0, cd0, c0, hlt0⟩ : ∃ db0 cd0, w.cell? ⟨r, 0, none⟩ = some (.slice (some ⟨db0, 0, none⟩) pg cd0) ∧ r < w.heap.size := by
    obtain ⟨db, cd, fb, cf, vo, h1, _⟩ := h
    exact ⟨db, cd, h1.box.cell 0 _ rfl, h1.box.lt⟩
  clear hcall h
  by_cases hm : 0 ≤ m ∧ m < (pg : Int)
  case neg =>
    have HE : Hid (p.get pg (stepP bad er) fo m = (1, [], p, fo)) := Lib.hid (by
      unfold Pl.get
      cases hf : findL p.F m with
      | none => simp only []; rw [if_neg hm]
      | some i =>
        obtain ⟨x, hx, hxp, h0⟩ := findL_some hf
        have := ((H6.out.fr x (List.mem_of_getElem? hx)).1 (by omega)).1
        omega)
    by_cases h0 : m < 0
    · have hb : decide (m < 0) = true := by simpa using h0
      clear hm h0
      go_enter Try.func20, Try.ntmps20
      go_wp2_with fail
      go_ret2
      rw [HE.out]
      first | exact ⟨_, rfl, H.out, Foot.same (B := fun _ => False) (GrowX.refl _) (fun _ h => h.elim)⟩ | exact ⟨rfl, _, H.out, Foot.same (B := fun _ => False) (GrowX.refl _) (fun _ h => h.elim)⟩
    · have hb : decide (m < 0) = false := by simpa using h0
      have hb2 : decide (m ≥ (pg : Int)) = true := by simp; omega
      have hb3 : decide ((pg : Int) ≤ m) = true := by simp; omega
      clear hm h0
      go_enter Try.func20, Try.ntmps20
      go_wp2_with fail
      go_ret2
      rw [HE.out]
      first | exact ⟨_, rfl, H.out, Foot.same (B := fun _ => False) (GrowX.refl _) (fun _ h => h.elim)⟩ | exact ⟨rfl, _, H.out, Foot.same (B := fun _ => False) (GrowX.refl _) (fun _ h => h.elim)⟩
  obtain ⟨q, rfl⟩ := Int.eq_ofNat_of_zero_le hm.1
  have hq : q < pg := by omega
  have hb : decide ((q : Int) < 0) = false := by simp
  have hb2 : decide ((q : Int) ≥ (pg : Int)) = false := by simp; omega
  have hb3 : decide ((pg : Int) ≤ (q : Int)) = false := by simp; omega
  have hb4 : decide (pg ≤ q) = false := by simp; omega
  rw [rfindL_eq _ (by omega)] at HC
  cases hfl : findL p.F (q : Nat) with
  | some ix =>
    rw [hfl] at HC
    have hin : ix < n := by have := findL_lt hfl; rw [H6.out.len] at this; exact this
    obtain ⟨x, hx, _, _⟩ := findL_some hfl
    have HE : Hid (p.get pg (stepP bad er) fo (q : Nat) = (0, x.b, { p with F := p.F.set ix { x with marked := true } }, fo)) := Lib.hid (by unfold Pl.get; rw [hfl]; simp only [getD_at hx])
    have HX := Lib.hid hx
    have HXO := Lib.hid (H6.out.fr x (List.mem_of_getElem? hx))
    have hib : decide ((ix : Int) < 0) = false := by simp
    clear hfl hx hm
    simp only [atI] at HC
    go_enter Try.func20, Try.ntmps20
    go_wp2_with fail
    refine HC.out.mono ?_
    rintro e y ⟨rfl, rfl⟩
    have hpv := H.out
    have HLOW := Lib.hid (ownR_low H.out)
    obtain ⟨db, cd, fb, cf, vo, h1, h2, h3, h4, h5, rfl⟩ := hpv
    have hn64 := h4.n64
    have HRB := Lib.hid h1
    have I2 := Lib.hid h2
    have I3 := Lib.hid h3
    have I4 := Lib.hid h4
    have I5 := Lib.hid h5
    clear h1 h2 h3 h4 h5
    obtain ⟨pgx, bx, di, ma, rc, ls⟩ := x
    have ge1 := HRB.out.box.cell 1 _ rfl
    have gelt := HRB.out.box.lt
    have lefz := HRB.out.ffz
    have lelt := HRB.out.fl.2
    have hgl := HRB.out.rf
    have x0 := HRB.out.cell (by omega) ix _ HX.out 0 _ rfl
    have x1 := HRB.out.cell (by omega) ix _ HX.out 1 _ rfl
    have x2 := HRB.out.cell (by omega) ix _ HX.out 2 _ rfl
    have x3 := HRB.out.cell (by omega) ix _ HX.out 3 _ rfl
    have x4 := HRB.out.cell (by omega) ix _ HX.out 4 _ rfl
    have x5 := HRB.out.cell (by omega) ix _ HX.out 5 _ rfl
    rw [Nat.add_zero] at x0
    simp only [S8] at x0 x1 x2 x3 x4 x5
    obtain ⟨a1, a2⟩ := HRB.out.setF I4.out.len ix _ ⟨pgx, bx, di, true, rc, ls⟩ HX.out 3 (by omega) (.bool true) rfl
    have HA1 := Lib.hid a1
    have HA2 := Lib.hid a2
    clear a1 a2
    go_wp2_with fail
    go_ret2
    rw [HE.out]
    obtain ⟨z1, z2⟩ := RV.again HA1.out I2.out HLOW.out I3.out (HA2.out.mono (Y := ownR r db fb vo) (fun k e => .inr (.inr (.inl e)))) (fun k h => .inl h)
      ⟨by rw [List.length_set]; exact I4.out.len, I4.out.n1, I4.out.n64, I4.out.hand, I4.out.set ix _ HXO.out, I4.out.wr⟩ I5.out
    first | exact ⟨_, rfl, z1, z2⟩ | exact ⟨rfl, _, z1, z2⟩
  | none =>
    rw [hfl] at HC
    have hno : ∀ z ∈ p.F, z.page ≠ ((q : Nat) : Int) := fun z hz => findL_none hfl (by omega) hz
    obtain ⟨e1, e2, e3, e4, e5⟩ := rf_free her (bad := bad) fo H6.out
    obtain ⟨e6, e7⟩ := rfree_P (bad := bad) (er := er) fo H6.out hno
    have hw := rfree_rv H.out hwr hfo
    obtain ⟨c, hc⟩ : ∃ c, p.rfree bad er fo = c := ⟨_, rfl⟩
    rw [hc] at e1 e2 e3 e4 e5 e6 e7 hw
    have HE : Hid (p.get pg (stepP bad er) fo (q : Nat) = if c.1 = 0 then (0, p.P q, { c.2.2.1 with F := c.2.2.1.F.set c.2.1 ⟨(q : Nat), p.P q, false, true, 0, 0⟩ }, c.2.2.2) else (c.1, [], c.2.2.1, c.2.2.2)) := Lib.hid (by
      unfold Pl.get
      rw [hfl]
      simp only []
      rw [if_pos ⟨by omega, by omega⟩, Int.toNat_natCast]
      unfold Pl.got
      rw [e1]
      by_cases h0 : c.1 = 0
      · obtain ⟨f1, f2⟩ := e3 h0
        rw [if_pos h0, if_pos h0, f1, f2, e2]
      · rw [if_neg h0, if_neg h0, e4 h0, e2])
    have HW := Lib.hid hw
    have HPQ := Lib.hid e6
    have HLN := Lib.hid e7
    have HIX := Lib.hid e5
    clear hfl e1 e2 e3 e4 e5 e6 e7 hw hc hm hno
    simp only [atI] at HC
    go_enter Try.func20, Try.ntmps20
    go_wp2_with fail
    refine HC.out.mono ?_
    rintro e y ⟨rfl, rfl⟩
    obtain ⟨c1, ix, c2, c3⟩ := c
    simp only at HPQ HLN HIX
    by_cases hce : c1 = 0
    case neg =>
      have hq1 : (c1 != 0) = true := by simpa using hce
      go_wp2_with fail
      refine HW.out.mono ?_
      rintro e w7 ⟨S', rfl, hpv, hft⟩
      have HP7 := Lib.hid hpv
      have HF7 := Lib.hid hft
      clear hpv hft
      go_wp2_with fail
      go_ret2
      rw [HE.out, if_neg hce]
      first | exact ⟨S', rfl, HP7.out, HF7.out⟩ | exact ⟨rfl, S', HP7.out, HF7.out⟩
    subst hce
    clear c0 hlt0
    go_wp2_with fail
    refine HW.out.mono ?_
    rintro e y3 ⟨S', rfl, hpv, hft⟩
    have HFY := Lib.hid hft
    have HLOW := Lib.hid (ownR_low hpv)
    clear hft
    obtain ⟨db, cd, fb, cf, vo, h1, h2, h3, h4, h5, rfl⟩ := hpv
    have hn64 := h4.n64
    have HRB := Lib.hid h1
    have I2 := Lib.hid h2
    have I3 := Lib.hid h3
    have I4 := Lib.hid h4
    have I5 := Lib.hid h5
    clear h1 h2 h3 h4 h5
    have hiF : ix < c2.F.length := by rw [HLN.out]; exact HIX.out
    have hixn : ix < n := HIX.out
    have hx : c2.F[ix]? = some c2.F[ix] := List.getElem?_eq_getElem hiF
    have HX := Lib.hid hx
    generalize c2.F[ix] = x at *
    obtain ⟨pgx, bx0, di, ma, rc, ls⟩ := x
    obtain ⟨bx, hbx⟩ : ∃ x, p.P q = x := ⟨_, rfl⟩
    have HBX := Lib.hid hbx
    have HBXL : Hid (bx.length = 512) := Lib.hid (by rw [← hbx]; exact hpl q hq)
    have HE0 : Hid (y3.cell? ⟨db, q, none⟩ = some (S8 bx)) := Lib.hid (by have := HRB.out.dcell q hq; rw [HPQ.out, hbx] at this; exact this)
    have hpgc : pg ≤ cd := by obtain ⟨_, _, h, _, hh, _⟩ := Reads.of_own HRB.out.drow; injection h with _ _ h9; omega
    obtain ⟨hdv, hhd⟩ : ∃ x, Value.int .i64 (c2.hand : Nat) = x := ⟨_, rfl⟩
    obtain ⟨wrv, hwv⟩ : ∃ x, Value.int .i64 (c2.wr : Nat) = x := ⟨_, rfl⟩
    have br := HRB.out.box
    rw [hhd, hwv] at br
    clear hx hiF hbx hhd hwv
    go_upto_region 9 with (fail)
    have hB : Below y3.heap.size y3 y3 := Below.refl _ _
    refine wp_region_partsDC (WRg9 r db cd fb cf n pg ix q vo hdv wrv bad er bx) 15 [[], [0], [0, 1], [0, 1, 2], [], [], [], [6], [6, 7], [6, 7, 8], [], [6, 7, 8, 9, 10], [6, 7, 8, 9, 10, 11], [5, 6, 7, 8, 9, 10, 11, 12], [0, 1, 2, 3, 4, 5, 6, 7, 8, 9, 10, 11, 12, 13]] [some 34, some 35, some 36, some 37, some 38, some 39, some 40, some 41, some 42, some 43, some 44, some 45, some 46, some 47, some 48, none] (by kernel_rfl) (by kernel_rfl) rfl (PRg9 r db cd fb cf n pg ix q vo hdv wrv bad er bx) (PRg9_stable r db cd fb cf n pg ix q vo hdv wrv bad er bx ) ?pRg9 ?_
    case pRg9 =>
      intro i hi o ho vs lo hx_ w' hg hp
      match i, hi with
      | 0, _ =>
        obtain rfl := Option.some.inj ho
        clear ho
        simp only [actsD, List.getD_cons_zero, List.getD_cons_succ, List.foldl_cons, List.foldl_nil, Act.put, List.setIfInBounds_toArray, List.set_cons_succ, List.set_cons_zero]
        have hsz := hg.size
        have hgB : Below y3.heap.size y3 w' := hg.below (fun k hk => ⟨hk, fun o => by rintro ⟨j, _, _, _, hw⟩; exact False.elim hw⟩)
        go_wp2
        exact ⟨_, rfl, GrowC.refl _, rfl⟩
      | 1, _ =>
        obtain rfl := Option.some.inj ho
        clear ho
        simp only [actsD, List.getD_cons_zero, List.getD_cons_succ, List.foldl_cons, List.foldl_nil, Act.put, List.setIfInBounds_toArray, List.set_cons_succ, List.set_cons_zero]
        obtain ⟨_, _, _, h0⟩ := hp 0 (by simp)
        simp only [PRg9] at h0
        have hsz := hg.size
        have hgB : Below y3.heap.size y3 w' := hg.below (fun k hk => ⟨hk, fun o => by rintro ⟨j, _, _, _, hw⟩; exact False.elim hw⟩)
        rw [h0]
        go_wp2
        exact ⟨_, rfl, GrowC.refl _, rfl⟩
      | 2, _ =>
        obtain rfl := Option.some.inj ho
        clear ho
        simp only [actsD, List.getD_cons_zero, List.getD_cons_succ, List.foldl_cons, List.foldl_nil, Act.put, List.setIfInBounds_toArray, List.set_cons_succ, List.set_cons_zero]
        obtain ⟨_, _, _, h1⟩ := hp 1 (by simp)
        simp only [PRg9] at h1
        have hsz := hg.size
        have hgB : Below y3.heap.size y3 w' := hg.below (fun k hk => ⟨hk, fun o => by rintro ⟨j, _, _, _, hw⟩; exact False.elim hw⟩)
        rw [h1]
        go_wp2
        exact ⟨_, rfl, GrowC.refl _, rfl⟩
      | 3, _ =>
        obtain rfl := Option.some.inj ho
        clear ho
        simp only [actsD, List.getD_cons_zero, List.getD_cons_succ, List.foldl_cons, List.foldl_nil, Act.put, List.setIfInBounds_toArray, List.set_cons_succ, List.set_cons_zero]
        obtain ⟨_, _, _, h2⟩ := hp 2 (by simp)
        simp only [PRg9] at h2
        have hsz := hg.size
        have hgB : Below y3.heap.size y3 w' := hg.below (fun k hk => ⟨hk, fun o => by rintro ⟨j, _, _, _, hw⟩; exact False.elim hw⟩)
        rw [h2]
        have e0 := (hg.cell (r) 1 br.lt (by rintro ⟨j, _, hne, hb, hw⟩; exact False.elim hw)).trans (br.cell 1 _ rfl)
        go_wp2
        exact ⟨_, rfl, GrowC.refl _, rfl⟩
      | 4, _ =>
        obtain rfl := Option.some.inj ho
        clear ho
        simp only [actsD, List.getD_cons_zero, List.getD_cons_succ, List.foldl_cons, List.foldl_nil, Act.put, List.setIfInBounds_toArray, List.set_cons_succ, List.set_cons_zero]
        have hsz := hg.size
        have hgB : Below y3.heap.size y3 w' := hg.below (fun k hk => ⟨hk, fun o => by rintro ⟨j, _, _, _, hw⟩; exact False.elim hw⟩)
        go_wp2
        exact ⟨_, rfl, GrowC.refl _, rfl⟩
      | 5, _ =>
        obtain rfl := Option.some.inj ho
        clear ho
        simp only [actsD, List.getD_cons_zero, List.getD_cons_succ, List.foldl_cons, List.foldl_nil, Act.put, List.setIfInBounds_toArray, List.set_cons_succ, List.set_cons_zero]
        have hsz := hg.size
        have hgB : Below y3.heap.size y3 w' := hg.below (fun k hk => ⟨hk, fun o => by rintro ⟨j, _, _, _, hw⟩; exact False.elim hw⟩)
        go_wp2
        exact ⟨_, rfl, GrowC.refl _, rfl⟩
      | 6, _ =>
        obtain rfl := Option.some.inj ho
        clear ho
        simp only [actsD, List.getD_cons_zero, List.getD_cons_succ, List.foldl_cons, List.foldl_nil, Act.put, List.setIfInBounds_toArray, List.set_cons_succ, List.set_cons_zero]
        have hsz := hg.size
        have hgB : Below y3.heap.size y3 w' := hg.below (fun k hk => ⟨hk, fun o => by rintro ⟨j, _, _, _, hw⟩; exact False.elim hw⟩)
        go_wp2
        exact ⟨_, rfl, GrowC.refl _, rfl⟩
      | 7, _ =>
        obtain rfl := Option.some.inj ho
        clear ho
        simp only [actsD, List.getD_cons_zero, List.getD_cons_succ, List.foldl_cons, List.foldl_nil, Act.put, List.setIfInBounds_toArray, List.set_cons_succ, List.set_cons_zero]
        obtain ⟨_, _, _, h6⟩ := hp 6 (by simp)
        simp only [PRg9] at h6
        have hsz := hg.size
        have hgB : Below y3.heap.size y3 w' := hg.below (fun k hk => ⟨hk, fun o => by rintro ⟨j, _, _, _, hw⟩; exact False.elim hw⟩)
        rw [h6]
        go_wp2
        exact ⟨_, rfl, GrowC.refl _, rfl⟩
      | 8, _ =>
        obtain rfl := Option.some.inj ho
        clear ho
        simp only [actsD, List.getD_cons_zero, List.getD_cons_succ, List.foldl_cons, List.foldl_nil, Act.put, List.setIfInBounds_toArray, List.set_cons_succ, List.set_cons_zero]
        obtain ⟨_, _, _, h7⟩ := hp 7 (by simp)
        simp only [PRg9] at h7
        have hsz := hg.size
        have hgB : Below y3.heap.size y3 w' := hg.below (fun k hk => ⟨hk, fun o => by rintro ⟨j, _, _, _, hw⟩; exact False.elim hw⟩)
        rw [h7]
        go_wp2
        exact ⟨_, rfl, GrowC.refl _, rfl⟩
      | 9, _ =>
        obtain rfl := Option.some.inj ho
        clear ho
        simp only [actsD, List.getD_cons_zero, List.getD_cons_succ, List.foldl_cons, List.foldl_nil, Act.put, List.setIfInBounds_toArray, List.set_cons_succ, List.set_cons_zero]
        obtain ⟨_, _, _, h8⟩ := hp 8 (by simp)
        simp only [PRg9] at h8
        have hsz := hg.size
        have hgB : Below y3.heap.size y3 w' := hg.below (fun k hk => ⟨hk, fun o => by rintro ⟨j, _, _, _, hw⟩; exact False.elim hw⟩)
        rw [h8]
        have e0 := (hg.cell (r) 0 br.lt (by rintro ⟨j, _, hne, hb, hw⟩; exact False.elim hw)).trans (br.cell 0 _ rfl)
        go_wp2
        exact ⟨_, rfl, GrowC.refl _, rfl⟩
      | 10, _ =>
        obtain rfl := Option.some.inj ho
        clear ho
        simp only [actsD, List.getD_cons_zero, List.getD_cons_succ, List.foldl_cons, List.foldl_nil, Act.put, List.setIfInBounds_toArray, List.set_cons_succ, List.set_cons_zero]
        have hsz := hg.size
        have hgB : Below y3.heap.size y3 w' := hg.below (fun k hk => ⟨hk, fun o => by rintro ⟨j, _, _, _, hw⟩; exact False.elim hw⟩)
        go_wp2
        exact ⟨_, rfl, GrowC.refl _, rfl⟩
      | 11, _ =>
        obtain rfl := Option.some.inj ho
        clear ho
        simp only [actsD, List.getD_cons_zero, List.getD_cons_succ, List.foldl_cons, List.foldl_nil, Act.put, List.setIfInBounds_toArray, List.set_cons_succ, List.set_cons_zero]
        obtain ⟨_, _, _, h9⟩ := hp 9 (by simp)
        simp only [PRg9] at h9
        obtain ⟨_, _, _, h10⟩ := hp 10 (by simp)
        simp only [PRg9] at h10
        have hsz := hg.size
        have hgB : Below y3.heap.size y3 w' := hg.below (fun k hk => ⟨hk, fun o => by rintro ⟨j, _, _, _, hw⟩; exact False.elim hw⟩)
        rw [h9, h10]
        go_wp2
        exact ⟨_, rfl, GrowC.refl _, rfl⟩
      | 12, _ =>
        obtain rfl := Option.some.inj ho
        clear ho
        simp only [actsD, List.getD_cons_zero, List.getD_cons_succ, List.foldl_cons, List.foldl_nil, Act.put, List.setIfInBounds_toArray, List.set_cons_succ, List.set_cons_zero]
        obtain ⟨_, _, _, h11⟩ := hp 11 (by simp)
        simp only [PRg9] at h11
        have hsz := hg.size
        have hgB : Below y3.heap.size y3 w' := hg.below (fun k hk => ⟨hk, fun o => by rintro ⟨j, _, _, _, hw⟩; exact False.elim hw⟩)
        rw [h11]
        have e9 := (hg.cell db q HRB.out.dl.2 (by rintro ⟨j, _, hne, hb, hw⟩; exact hw)).trans HE0.out
        simp only [S8] at e9
        go_wp2
        exact ⟨_, rfl, GrowC.refl _, rfl⟩
      | 13, _ =>
        obtain rfl := Option.some.inj ho
        clear ho
        simp only [actsD, List.getD_cons_zero, List.getD_cons_succ, List.foldl_cons, List.foldl_nil, Act.put, List.setIfInBounds_toArray, List.set_cons_succ, List.set_cons_zero]
        obtain ⟨_, _, _, h5⟩ := hp 5 (by simp)
        simp only [PRg9] at h5
        obtain ⟨_, _, _, h12⟩ := hp 12 (by simp)
        simp only [PRg9] at h12
        have hsz := hg.size
        have hgB : Below y3.heap.size y3 w' := hg.below (fun k hk => ⟨hk, fun o => by rintro ⟨j, _, _, _, hw⟩; exact False.elim hw⟩)
        rw [h5, h12]
        go_wp2
        exact ⟨_, rfl, GrowC.refl _, rfl⟩
      | 14, _ =>
        obtain rfl := Option.some.inj ho
        clear ho
        simp only [actsD, List.getD_cons_zero, List.getD_cons_succ, List.foldl_cons, List.foldl_nil, Act.put, List.setIfInBounds_toArray, List.set_cons_succ, List.set_cons_zero]
        obtain ⟨_, _, _, h3⟩ := hp 3 (by simp)
        simp only [PRg9] at h3
        obtain ⟨_, _, _, h4⟩ := hp 4 (by simp)
        simp only [PRg9] at h4
        have hsz := hg.size
        have hgB : Below y3.heap.size y3 w' := hg.below (fun k hk => ⟨hk, fun o => by rintro ⟨j, _, _, _, hw⟩; exact False.elim hw⟩)
        rw [h3, h4]
        go_wp2
        exact ⟨_, rfl, GrowC.refl _, rfl⟩
      | (q + 15), hq => exact absurd hq (by omega)
    intro vS lo hi w7 hg hp hd
    obtain ⟨_, _, _, h0⟩ := hp 0 (by decide)
    obtain ⟨_, _, _, h1⟩ := hp 1 (by decide)
    obtain ⟨_, _, _, h2⟩ := hp 2 (by decide)
    obtain ⟨_, _, _, h3⟩ := hp 3 (by decide)
    obtain ⟨_, _, _, h4⟩ := hp 4 (by decide)
    obtain ⟨_, _, _, h5⟩ := hp 5 (by decide)
    obtain ⟨_, _, _, h6⟩ := hp 6 (by decide)
    obtain ⟨_, _, _, h7⟩ := hp 7 (by decide)
    obtain ⟨_, _, _, h8⟩ := hp 8 (by decide)
    obtain ⟨_, _, _, h9⟩ := hp 9 (by decide)
    obtain ⟨_, _, _, h10⟩ := hp 10 (by decide)
    obtain ⟨_, _, _, h11⟩ := hp 11 (by decide)
    obtain ⟨_, _, _, h12⟩ := hp 12 (by decide)
    obtain ⟨_, _, _, h13⟩ := hp 13 (by decide)
    obtain ⟨_, _, _, h14⟩ := hp 14 (by decide)
    simp only [PRg9] at h0 h1 h2 h3 h4 h5 h6 h7 h8 h9 h10 h11 h12 h13 h14
    clear hp hd
    have hsz := hg.size
    replace br := br.grow hg (by intro i _; rintro ⟨j, _, hw⟩; exact False.elim hw)
    replace hB := hB.trans (hg.below (fun k hk => ⟨by omega, fun o => by rintro ⟨j, _, hw⟩; exact False.elim hw⟩))
    have hr : List.range 15 = [0, 1, 2, 3, 4, 5, 6, 7, 8, 9, 10, 11, 12, 13, 14] := rfl
    rw [hr]
    clear hr
    simp only [List.drop_succ_cons, List.drop_zero, List.drop_nil, actsD, List.getD_cons_zero, List.getD_cons_succ, List.foldl_cons, List.foldl_nil, Act.put, List.setIfInBounds_toArray, List.set_cons_succ, List.set_cons_zero, h0, h1, h2, h3, h4, h5, h6, h7, h8, h9, h10, h11, h12, h13, h14]
    clear h0 h1 h2 h3 h4 h5 h6 h7 h8 h9 h10 h11 h12 h13 h14
    have hgr7 : GrowX (fun _ => False) y3 w7 := grow_below hB
    have HRC := Lib.hid (HRB.out.grow hgr7 (fun _ _ h => h))
    have ge1 := HRC.out.box.cell 1 _ rfl
    have gelt := HRC.out.box.lt
    have lefz := HRC.out.ffz
    have lelt := HRC.out.fl.2
    have hgl := HRC.out.rf
    have x0 := HRC.out.cell (by omega) ix _ HX.out 0 _ rfl
    have x1 := HRC.out.cell (by omega) ix _ HX.out 1 _ rfl
    have x2 := HRC.out.cell (by omega) ix _ HX.out 2 _ rfl
    have x3 := HRC.out.cell (by omega) ix _ HX.out 3 _ rfl
    have x4 := HRC.out.cell (by omega) ix _ HX.out 4 _ rfl
    have x5 := HRC.out.cell (by omega) ix _ HX.out 5 _ rfl
    rw [Nat.add_zero] at x0
    simp only [S8] at x0 x1 x2 x3 x4 x5
    obtain ⟨a0, g0⟩ := HRC.out.put6 I4.out.len ix _ ⟨(q : Nat), bx, false, false, 0, 0⟩ HX.out
    have hset : (c2.F.set ix ⟨(q : Nat), bx, false, false, 0, 0⟩)[ix]? = some ⟨(q : Nat), bx, false, false, 0, 0⟩ := List.getElem?_set_self (List.getElem?_eq_some_iff.1 HX.out).1
    have HA0 := Lib.hid a0
    have HG0 := Lib.hid (hgr7.mono (Y := ownR r db fb vo) (fun _ h => h.elim) |>.step g0 (fun k _ e => .inr (.inr (.inl e))))
    have HSET := Lib.hid hset
    simp only [S8] at HA0 HG0
    clear hB hg hsz br hgr7 a0 g0 hset
    go_upto_region 10 with (fail)
    clear ge1 gelt lefz lelt x0 x1 x2 x3 x4 x5
    generalize hy4 : (((((w7.setCell ⟨fb, ix * 6, none⟩ (.int .i64 ((q : Nat) : Int))).setCell ⟨fb, ix * 6 + 1, none⟩ (.string ⟨bx.toArray⟩)).setCell ⟨fb, ix * 6 + 2, none⟩ (.bool false)).setCell ⟨fb, ix * 6 + 3, none⟩ (.bool false)).setCell ⟨fb, ix * 6 + 4, none⟩ (.int .i64 0)).setCell ⟨fb, ix * 6 + 5, none⟩ (.int .i64 0) = y4 at HA0 HG0 ⊢
    clear hy4
    have ge1 := HA0.out.box.cell 1 _ rfl
    have gelt := HA0.out.box.lt
    have lefz := HA0.out.ffz
    have lelt := HA0.out.fl.2
    have x1 := HA0.out.cell (by omega) ix _ HSET.out 1 _ rfl
    have x3 := HA0.out.cell (by omega) ix _ HSET.out 3 _ rfl
    simp only [S8] at x1 x3
    obtain ⟨a1, a2⟩ := HA0.out.setF (by show (List.set _ _ _).length = n; rw [List.length_set]; exact I4.out.len) ix _ ⟨(q : Nat), bx, false, true, 0, 0⟩ HSET.out 3 (by omega) (.bool true) rfl
    simp only [List.set_set] at a1
    have HA1 := Lib.hid a1
    have HA2 := Lib.hid (HG0.out.step a2 (fun k _ e => .inr (.inr (.inl e))))
    have HIN : Hid (ix < n) := Lib.hid HIX.out
    clear a1 a2
    go_wp2_with fail
    go_ret2
    rw [HE.out, if_pos trivial, HBX.out]
    obtain ⟨z1, z2⟩ := RV.again HA1.out I2.out HLOW.out I3.out HA2.out (fun k h => .inl h)
      ⟨by rw [List.length_set]; exact I4.out.len, I4.out.n1, I4.out.n64, I4.out.hand, I4.out.set ix _ ⟨fun _ => ⟨by show (q : Int) < (pg : Int); omega, HBXL.out⟩, fun h => by cases h⟩, I4.out.wr⟩ I5.out
    first | exact ⟨_, rfl, z1, HFY.out.trans z2⟩ | exact ⟨rfl, _, z1, HFY.out.trans z2⟩
end
end Go.Proofs.Ytdnjjdpenfhpeaa

/- The document's pool: free. Conditions: none. -/
import Derived.Test.YtdnjjdpenfhpeaaPlRefW
namespace Go.Proofs.Ytdnjjdpenfhpeaa
set_option linter.unusedSimpArgs false
set_option linter.unusedVariables false
open Go.RowKit

def Pl.rfree (bad er : Int) (p : Pl) (fo : List Int) : Int × Nat × Pl × List Int :=
  match freeL p.F with
  | some i => (0, i, p, fo)
  | none => ((Pl.rwrite bad er { p with F := p.swept.1, hand := p.swept.2.1 } fo p.swept.2.2).1, p.swept.2.2, (Pl.rwrite bad er { p with F := p.swept.1, hand := p.swept.2.1 } fo p.swept.2.2).2.1, (Pl.rwrite bad er { p with F := p.swept.1, hand := p.swept.2.1 } fo p.swept.2.2).2.2)
open Classical in
/-- how many frames at fb are marked -/
noncomputable def marksW (fb n : Nat) (w : World) : Nat := ((List.range n).filter fun i => decide (w.cell? ⟨fb, i * 6 + 3, none⟩ = some (.bool true))).length
theorem marks_range (F : List Fm) : marks F = ((List.range F.length).filter fun i => (F.getD i Fm.free).marked).length := by
  induction F with
  | nil => rfl
  | cons x r ih =>
    rw [List.length_cons, List.range_succ_eq_map, List.filter_cons, List.filter_map, marks, List.filter_cons]
    have : (List.filter ((fun i => ((x :: r).getD i Fm.free).marked) ∘ Nat.succ) (List.range r.length)) = (List.range r.length).filter fun i => (r.getD i Fm.free).marked := by
      congr 1
    unfold marks at ih
    cases hm : x.marked <;> simp [hm, this, ih] <;> rfl
theorem RefAt.marksW {w : World} {G r db cd fb cf : Nat} {vo : Value} {pg n : Nat} {p : Pl} {fo : List Int} {bad er : Int} (h : RefAt w G r db cd fb cf vo pg n p fo bad er) (hl : p.F.length = n) : marksW fb n w = marks p.F := by
  rw [marks_range, hl]
  unfold Go.Proofs.Ytdnjjdpenfhpeaa.marksW
  congr 1
  apply List.filter_congr
  intro i hi
  rw [List.mem_range] at hi
  have hx : p.F[i]? = some p.F[i] := List.getElem?_eq_getElem (by omega)
  have hc := h.cell (by omega) i _ hx 3 _ rfl
  rw [hc, getD_at hx]
  cases p.F[i].marked <;> simp
def WRf7 (r db cd fb cf n pg hd : Nat) (vo wrv : Value) (bad er : Int) (j b o : Nat) : Prop := False
def PRf7 (r db cd fb cf n pg hd : Nat) (vo wrv : Value) (bad er : Int) (i : Nat) (v : Value) (lo hi : Nat) (w : World) : Prop :=
  match i with
  | 0 => v = .pointer (some ⟨r, 0, none⟩)
  | 1 => v = .pointer (some ⟨r, 0, none⟩)
  | 2 => v = .pointer (some ⟨r, 0, none⟩)
  | 3 => v = .pointer (some ⟨r, 2, none⟩)
  | 4 => v = .int .i64 ((hd : Nat) : Int)
  | 5 => v = .int .i64 ((hd + 1 : Nat) : Int)
  | 6 => v = .pointer (some ⟨r, 0, none⟩)
  | 7 => v = .pointer (some ⟨r, 0, none⟩)
  | 8 => v = .pointer (some ⟨r, 1, none⟩)
  | 9 => v = .slice (some ⟨fb, 0, none⟩) n cf
  | 10 => v = .int .i64 ((n : Nat) : Int)
  | 11 => v = .int .i64 (((hd + 1) % n : Nat) : Int)
  | 12 => v = .pointer (some ⟨r, 0, none⟩)
  | 13 => v = .pointer (some ⟨r, 2, none⟩)
  | _ => True
theorem PRf7_stable (r db cd fb cf n pg hd : Nat) (vo wrv : Value) (bad er : Int)  : ∀ i j, i < 14 → j < 14 → j ≠ i → j ∉ ([[], [], [1], [1, 2], [1, 2, 3], [1, 2, 3, 4], [], [6], [6, 7], [6, 7, 8], [6, 7, 8, 9], [1, 2, 3, 4, 5, 6, 7, 8, 9, 10], [0, 1, 2, 3, 4, 5, 6, 7, 8, 9, 10, 11], [0, 1, 2, 3, 4, 5, 6, 7, 8, 9, 10, 11, 12]] : List (List Nat)).getD i [] → ∀ v lo hi w w', PRf7 r db cd fb cf n pg hd vo wrv bad er i v lo hi w → GrowC (WRf7 r db cd fb cf n pg hd vo wrv bad er j) w w' → PRf7 r db cd fb cf n pg hd vo wrv bad er i v lo hi w' := by
  intro i j hi hj hne hbs v lo hj2 w w' h hg
  match i, hi with
  | 0, _ =>
    simp only [PRf7] at h ⊢
    exact h
  | 1, _ =>
    simp only [PRf7] at h ⊢
    exact h
  | 2, _ =>
    simp only [PRf7] at h ⊢
    exact h
  | 3, _ =>
    simp only [PRf7] at h ⊢
    exact h
  | 4, _ =>
    simp only [PRf7] at h ⊢
    exact h
  | 5, _ =>
    simp only [PRf7] at h ⊢
    exact h
  | 6, _ =>
    simp only [PRf7] at h ⊢
    exact h
  | 7, _ =>
    simp only [PRf7] at h ⊢
    exact h
  | 8, _ =>
    simp only [PRf7] at h ⊢
    exact h
  | 9, _ =>
    simp only [PRf7] at h ⊢
    exact h
  | 10, _ =>
    simp only [PRf7] at h ⊢
    exact h
  | 11, _ =>
    simp only [PRf7] at h ⊢
    exact h
  | 12, _ =>
    simp only [PRf7] at h ⊢
    exact h
  | 13, _ =>
    simp only [PRf7] at h ⊢
    exact h
  | (q + 14), hq => exact absurd hq (by omega)

section
variable {W0 w : World} {r n pg : Nat} {bad er : Int} {p : Pl} {fo : List Int} {S : Nat → Prop}
set_option maxRecDepth 100000 in
set_option maxHeartbeats 3200000 in
theorem rfree_rv (h : RV W0 r n pg bad er p fo S w) (hwr : p.wr + 1 ≤ 1000000000) (hfo : fo.length + 1 ≤ 1000000) :
    Calls Try.prog 42 #[.pointer (some ⟨r, 0, none⟩)] w fun e w' => ∃ S', e = .returned (.tuple #[.int .i64 ((p.rfree bad er fo).2.1 : Nat), .int .i64 (p.rfree bad er fo).1]) ∧ RV W0 r n pg bad er (p.rfree bad er fo).2.2.1 (p.rfree bad er fo).2.2.2 S' w' ∧ Foot S S' w w' := by
  have h0 := h
  obtain ⟨db, cd, fb, cf, vo, h1, h2, h3, h4, h5, rfl⟩ := h
  have hn1 := h4.n1
  have hn64 := h4.n64
  have c1 := h1.box.cell 1 _ rfl
  have hlt := h1.box.lt
  have hfl := h1.fl.2
  have H0 := Lib.hid h0
  have H := Lib.hid h1
  have H2 := Lib.hid h2
  have H3 := Lib.hid h3
  have H4 := Lib.hid h4
  have HL := Lib.hid h4.len
  clear h0 h1 h2 h3 h4 h5
  go_enter Try.func42, Try.ntmps42
  go_wp2_with fail
  go_loopw [4] (fun z wr => ∃ k : Nat, k ≤ n ∧ z = .int .i64 k ∧ wr = w ∧ ∀ j x, j < k → p.F[j]? = some x → ¬ x.page < 0) (fun z _ => n - (intOf z).toNat)
  case atStart => exact ⟨0, Nat.zero_le _, rfl, (by first | rfl | trivial), fun j x hj => absurd hj (by omega)⟩
  case round =>
    obtain ⟨k, hk, rfl, rfl, hno⟩ := hrel
    have HNO := Lib.hid hno
    clear hno
    by_cases hkn : k < n
    case pos =>
      have hkb : decide (k < n) = true := by simpa using hkn
      have hkl : k < p.F.length := by rw [HL.out]; exact hkn
      have hx : p.F[k]? = some p.F[k] := List.getElem?_eq_getElem hkl
      have x0 := H.out.cell (by omega) k _ hx 0 _ rfl
      rw [Nat.add_zero] at x0
      have HX := Lib.hid hx
      generalize p.F[k] = x at *
      clear hx hkl
      by_cases hxm : x.page < 0
      · have hb : decide (x.page < 0) = true := by simpa using hxm
        have HR : Hid (p.rfree bad er fo = (0, k, p, fo)) := Lib.hid (by
          have : freeL p.F = some k := by
            refine List.findIdx?_eq_some_iff_getElem.2 ⟨(List.getElem?_eq_some_iff.1 HX.out).1, ?_, fun j hj => ?_⟩
            · rw [(List.getElem?_eq_some_iff.1 HX.out).2]; unfold isE; simpa using hxm
            · have := HNO.out j _ hj (List.getElem?_eq_getElem (Nat.lt_trans hj (List.getElem?_eq_some_iff.1 HX.out).1))
              unfold isE; simpa using this
          unfold Pl.rfree; rw [this])
        clear hxm
        go_wp2_with fail
        go_ret2
        rw [HR.out]
        first | exact ⟨_, rfl, H0.out, Foot.same (B := fun _ => False) (GrowX.refl _) (fun _ h => h.elim)⟩ | exact ⟨rfl, _, H0.out, Foot.same (B := fun _ => False) (GrowX.refl _) (fun _ h => h.elim)⟩
      · have hb : decide (x.page < 0) = false := by simpa using hxm
        have HXM := Lib.hid hxm
        clear hxm
        go_wp2_with fail
        go_roundw
        · refine ⟨k + 1, by omega, by go_num, (by first | rfl | trivial), fun j y hj hy => ?_⟩
          by_cases e : j = k
          · subst e; rw [HX.out] at hy; obtain rfl := Option.some.inj hy; exact HXM.out
          · exact HNO.out j y (by omega) hy
        · simp [intOf]; omega
    obtain rfl : n = k := by omega
    have hkb : decide (n < n) = false := by simp
    have HR : Hid (p.rfree bad er fo = ((Pl.rwrite bad er { p with F := p.swept.1, hand := p.swept.2.1 } fo p.swept.2.2).1, p.swept.2.2, (Pl.rwrite bad er { p with F := p.swept.1, hand := p.swept.2.1 } fo p.swept.2.2).2.1, (Pl.rwrite bad er { p with F := p.swept.1, hand := p.swept.2.1 } fo p.swept.2.2).2.2)) := Lib.hid (by
      have : freeL p.F = none := by
        refine List.findIdx?_eq_none_iff.2 (fun x hx => ?_)
        obtain ⟨j, hj, e⟩ := List.getElem_of_mem hx
        have := HNO.out j x (by rw [← HL.out]; exact hj) (by rw [List.getElem?_eq_getElem hj, e])
        unfold isE; simpa using this
      unfold Pl.rfree; rw [this])
    clear HNO
    go_wp2_with fail
    obtain ⟨w0, hw0⟩ : ∃ x, x = wr := ⟨_, rfl⟩
    subst hw0
    clear c1
    go_loopw [] (fun wx => ∃ (F : List Fm) (hd m : Nat), RefAt wx W0.heap.size r db cd fb cf vo pg n { p with F := F, hand := hd } fo bad er ∧ F.length = n ∧ hd < n ∧ (∀ x ∈ F, Fm.ok pg x) ∧ marks F < m ∧ p.swept = sweep n m F hd ∧ GrowX (ownR r db fb vo) w0 wx) (fun wx => marksW fb n wx)
    case atStart => exact ⟨p.F, p.hand, p.F.length + 1, H.out, HL.out, H4.out.hand, H4.out.fr, by have := marks_le p.F; omega, by rw [Pl.swept, HL.out], GrowX.refl _⟩
    case round =>
      obtain ⟨F, hd, m, hat, hlF, hdn, hokF, hm, hsw, hgw⟩ := hrel
      have hiF : hd < F.length := by omega
      have hx : F[hd]? = some F[hd] := List.getElem?_eq_getElem hiF
      have HX := Lib.hid hx
      generalize F[hd] = x at *
      obtain ⟨pgx, bx, di, ma, rc, ls⟩ := x
      have br := hat.box
      have g2 := br.cell 2 _ rfl
      have glr := br.lt
      have HAT := Lib.hid hat
      have HLF := Lib.hid hlF
      have HOK := Lib.hid hokF
      have HM := Lib.hid hm
      have HSW := Lib.hid hsw
      have HGW := Lib.hid hgw
      obtain ⟨wrv, hwv⟩ : ∃ x, Value.int .i64 (p.wr : Nat) = x := ⟨_, rfl⟩
      simp only at br g2
      rw [hwv] at br
      have hd64 : hd < 64 := by omega
      clear hat hlF hokF hm hsw hgw hx hiF hwv
      go_upto_region 7 with (fail)
      clear g2 glr
      have hB : Below wr.heap.size wr wr := Below.refl _ _
      refine wp_region_partsDC (WRf7 r db cd fb cf n pg hd vo wrv bad er) 14 [[], [], [1], [1, 2], [1, 2, 3], [1, 2, 3, 4], [], [6], [6, 7], [6, 7, 8], [6, 7, 8, 9], [1, 2, 3, 4, 5, 6, 7, 8, 9, 10], [0, 1, 2, 3, 4, 5, 6, 7, 8, 9, 10, 11], [0, 1, 2, 3, 4, 5, 6, 7, 8, 9, 10, 11, 12]] [some 29, some 30, some 31, some 32, some 33, some 34, some 35, some 36, some 37, some 38, some 39, some 40, some 41, some 42, none] (by kernel_rfl) (by kernel_rfl) rfl (PRf7 r db cd fb cf n pg hd vo wrv bad er) (PRf7_stable r db cd fb cf n pg hd vo wrv bad er ) ?pRf7 ?_
      case pRf7 =>
        intro i hi o ho vs lo hx_ w' hg hp
        match i, hi with
        | 0, _ =>
          obtain rfl := Option.some.inj ho
          clear ho
          simp only [actsD, List.getD_cons_zero, List.getD_cons_succ, List.foldl_cons, List.foldl_nil, Act.put, List.setIfInBounds_toArray, List.set_cons_succ, List.set_cons_zero]
          have hsz := hg.size
          have hgB : Below wr.heap.size wr w' := hg.below (fun k hk => ⟨hk, fun o => by rintro ⟨j, _, _, _, hw⟩; exact False.elim hw⟩)
          go_wp2
          exact ⟨_, rfl, GrowC.refl _, rfl⟩
        | 1, _ =>
          obtain rfl := Option.some.inj ho
          clear ho
          simp only [actsD, List.getD_cons_zero, List.getD_cons_succ, List.foldl_cons, List.foldl_nil, Act.put, List.setIfInBounds_toArray, List.set_cons_succ, List.set_cons_zero]
          have hsz := hg.size
          have hgB : Below wr.heap.size wr w' := hg.below (fun k hk => ⟨hk, fun o => by rintro ⟨j, _, _, _, hw⟩; exact False.elim hw⟩)
          go_wp2
          exact ⟨_, rfl, GrowC.refl _, rfl⟩
        | 2, _ =>
          obtain rfl := Option.some.inj ho
          clear ho
          simp only [actsD, List.getD_cons_zero, List.getD_cons_succ, List.foldl_cons, List.foldl_nil, Act.put, List.setIfInBounds_toArray, List.set_cons_succ, List.set_cons_zero]
          obtain ⟨_, _, _, h1⟩ := hp 1 (by simp)
          simp only [PRf7] at h1
          have hsz := hg.size
          have hgB : Below wr.heap.size wr w' := hg.below (fun k hk => ⟨hk, fun o => by rintro ⟨j, _, _, _, hw⟩; exact False.elim hw⟩)
          rw [h1]
          go_wp2
          exact ⟨_, rfl, GrowC.refl _, rfl⟩
        | 3, _ =>
          obtain rfl := Option.some.inj ho
          clear ho
          simp only [actsD, List.getD_cons_zero, List.getD_cons_succ, List.foldl_cons, List.foldl_nil, Act.put, List.setIfInBounds_toArray, List.set_cons_succ, List.set_cons_zero]
          obtain ⟨_, _, _, h2⟩ := hp 2 (by simp)
          simp only [PRf7] at h2
          have hsz := hg.size
          have hgB : Below wr.heap.size wr w' := hg.below (fun k hk => ⟨hk, fun o => by rintro ⟨j, _, _, _, hw⟩; exact False.elim hw⟩)
          rw [h2]
          go_wp2
          exact ⟨_, rfl, GrowC.refl _, rfl⟩
        | 4, _ =>
          obtain rfl := Option.some.inj ho
          clear ho
          simp only [actsD, List.getD_cons_zero, List.getD_cons_succ, List.foldl_cons, List.foldl_nil, Act.put, List.setIfInBounds_toArray, List.set_cons_succ, List.set_cons_zero]
          obtain ⟨_, _, _, h3⟩ := hp 3 (by simp)
          simp only [PRf7] at h3
          have hsz := hg.size
          have hgB : Below wr.heap.size wr w' := hg.below (fun k hk => ⟨hk, fun o => by rintro ⟨j, _, _, _, hw⟩; exact False.elim hw⟩)
          rw [h3]
          have e0 := (hg.cell (r) 2 br.lt (by rintro ⟨j, _, hne, hb, hw⟩; exact False.elim hw)).trans (br.cell 2 _ rfl)
          go_wp2
          exact ⟨_, rfl, GrowC.refl _, rfl⟩
        | 5, _ =>
          obtain rfl := Option.some.inj ho
          clear ho
          simp only [actsD, List.getD_cons_zero, List.getD_cons_succ, List.foldl_cons, List.foldl_nil, Act.put, List.setIfInBounds_toArray, List.set_cons_succ, List.set_cons_zero]
          obtain ⟨_, _, _, h4⟩ := hp 4 (by simp)
          simp only [PRf7] at h4
          have hsz := hg.size
          have hgB : Below wr.heap.size wr w' := hg.below (fun k hk => ⟨hk, fun o => by rintro ⟨j, _, _, _, hw⟩; exact False.elim hw⟩)
          rw [h4]
          go_wp2
          refine ⟨_, rfl, GrowC.refl _, ?_⟩
          simp only [PRf7]
          congr 1
        | 6, _ =>
          obtain rfl := Option.some.inj ho
          clear ho
          simp only [actsD, List.getD_cons_zero, List.getD_cons_succ, List.foldl_cons, List.foldl_nil, Act.put, List.setIfInBounds_toArray, List.set_cons_succ, List.set_cons_zero]
          have hsz := hg.size
          have hgB : Below wr.heap.size wr w' := hg.below (fun k hk => ⟨hk, fun o => by rintro ⟨j, _, _, _, hw⟩; exact False.elim hw⟩)
          go_wp2
          exact ⟨_, rfl, GrowC.refl _, rfl⟩
        | 7, _ =>
          obtain rfl := Option.some.inj ho
          clear ho
          simp only [actsD, List.getD_cons_zero, List.getD_cons_succ, List.foldl_cons, List.foldl_nil, Act.put, List.setIfInBounds_toArray, List.set_cons_succ, List.set_cons_zero]
          obtain ⟨_, _, _, h6⟩ := hp 6 (by simp)
          simp only [PRf7] at h6
          have hsz := hg.size
          have hgB : Below wr.heap.size wr w' := hg.below (fun k hk => ⟨hk, fun o => by rintro ⟨j, _, _, _, hw⟩; exact False.elim hw⟩)
          rw [h6]
          go_wp2
          exact ⟨_, rfl, GrowC.refl _, rfl⟩
        | 8, _ =>
          obtain rfl := Option.some.inj ho
          clear ho
          simp only [actsD, List.getD_cons_zero, List.getD_cons_succ, List.foldl_cons, List.foldl_nil, Act.put, List.setIfInBounds_toArray, List.set_cons_succ, List.set_cons_zero]
          obtain ⟨_, _, _, h7⟩ := hp 7 (by simp)
          simp only [PRf7] at h7
          have hsz := hg.size
          have hgB : Below wr.heap.size wr w' := hg.below (fun k hk => ⟨hk, fun o => by rintro ⟨j, _, _, _, hw⟩; exact False.elim hw⟩)
          rw [h7]
          go_wp2
          exact ⟨_, rfl, GrowC.refl _, rfl⟩
        | 9, _ =>
          obtain rfl := Option.some.inj ho
          clear ho
          simp only [actsD, List.getD_cons_zero, List.getD_cons_succ, List.foldl_cons, List.foldl_nil, Act.put, List.setIfInBounds_toArray, List.set_cons_succ, List.set_cons_zero]
          obtain ⟨_, _, _, h8⟩ := hp 8 (by simp)
          simp only [PRf7] at h8
          have hsz := hg.size
          have hgB : Below wr.heap.size wr w' := hg.below (fun k hk => ⟨hk, fun o => by rintro ⟨j, _, _, _, hw⟩; exact False.elim hw⟩)
          rw [h8]
          have e0 := (hg.cell (r) 1 br.lt (by rintro ⟨j, _, hne, hb, hw⟩; exact False.elim hw)).trans (br.cell 1 _ rfl)
          go_wp2
          exact ⟨_, rfl, GrowC.refl _, rfl⟩
        | 10, _ =>
          obtain rfl := Option.some.inj ho
          clear ho
          simp only [actsD, List.getD_cons_zero, List.getD_cons_succ, List.foldl_cons, List.foldl_nil, Act.put, List.setIfInBounds_toArray, List.set_cons_succ, List.set_cons_zero]
          obtain ⟨_, _, _, h9⟩ := hp 9 (by simp)
          simp only [PRf7] at h9
          have hsz := hg.size
          have hgB : Below wr.heap.size wr w' := hg.below (fun k hk => ⟨hk, fun o => by rintro ⟨j, _, _, _, hw⟩; exact False.elim hw⟩)
          rw [h9]
          go_wp2
          exact ⟨_, rfl, GrowC.refl _, rfl⟩
        | 11, _ =>
          obtain rfl := Option.some.inj ho
          clear ho
          simp only [actsD, List.getD_cons_zero, List.getD_cons_succ, List.foldl_cons, List.foldl_nil, Act.put, List.setIfInBounds_toArray, List.set_cons_succ, List.set_cons_zero]
          obtain ⟨_, _, _, h5⟩ := hp 5 (by simp)
          simp only [PRf7] at h5
          obtain ⟨_, _, _, h10⟩ := hp 10 (by simp)
          simp only [PRf7] at h10
          have hsz := hg.size
          have hgB : Below wr.heap.size wr w' := hg.below (fun k hk => ⟨hk, fun o => by rintro ⟨j, _, _, _, hw⟩; exact False.elim hw⟩)
          rw [h5, h10]
          have hn0 : ¬ (n : Int) = 0 := by omega
          have hn1 : decide ((n : Int) = 0) = false := by simpa using hn0
          go_wp2
          refine ⟨_, rfl, GrowC.refl _, ?_⟩
          simp only [PRf7]
          congr 1
        | 12, _ =>
          obtain rfl := Option.some.inj ho
          clear ho
          simp only [actsD, List.getD_cons_zero, List.getD_cons_succ, List.foldl_cons, List.foldl_nil, Act.put, List.setIfInBounds_toArray, List.set_cons_succ, List.set_cons_zero]
          obtain ⟨_, _, _, h0⟩ := hp 0 (by simp)
          simp only [PRf7] at h0
          have hsz := hg.size
          have hgB : Below wr.heap.size wr w' := hg.below (fun k hk => ⟨hk, fun o => by rintro ⟨j, _, _, _, hw⟩; exact False.elim hw⟩)
          rw [h0]
          go_wp2
          exact ⟨_, rfl, GrowC.refl _, rfl⟩
        | 13, _ =>
          obtain rfl := Option.some.inj ho
          clear ho
          simp only [actsD, List.getD_cons_zero, List.getD_cons_succ, List.foldl_cons, List.foldl_nil, Act.put, List.setIfInBounds_toArray, List.set_cons_succ, List.set_cons_zero]
          obtain ⟨_, _, _, h12⟩ := hp 12 (by simp)
          simp only [PRf7] at h12
          have hsz := hg.size
          have hgB : Below wr.heap.size wr w' := hg.below (fun k hk => ⟨hk, fun o => by rintro ⟨j, _, _, _, hw⟩; exact False.elim hw⟩)
          rw [h12]
          go_wp2
          exact ⟨_, rfl, GrowC.refl _, rfl⟩
        | (q + 14), hq => exact absurd hq (by omega)
      intro vS lo hi w5 hg hp hd
      obtain ⟨_, _, _, h0⟩ := hp 0 (by decide)
      obtain ⟨_, _, _, h1⟩ := hp 1 (by decide)
      obtain ⟨_, _, _, h2⟩ := hp 2 (by decide)
      obtain ⟨_, _, _, h3⟩ := hp 3 (by decide)
      obtain ⟨_, _, _, h4⟩ := hp 4 (by decide)
      obtain ⟨_, _, _, h5⟩ := hp 5 (by decide)
      obtain ⟨_, _, _, h6⟩ := hp 6 (by decide)
      obtain ⟨_, _, _, h7⟩ := hp 7 (by decide)
      obtain ⟨_, _, _, h8⟩ := hp 8 (by decide)
      obtain ⟨_, _, _, h9⟩ := hp 9 (by decide)
      obtain ⟨_, _, _, h10⟩ := hp 10 (by decide)
      obtain ⟨_, _, _, h11⟩ := hp 11 (by decide)
      obtain ⟨_, _, _, h12⟩ := hp 12 (by decide)
      obtain ⟨_, _, _, h13⟩ := hp 13 (by decide)
      simp only [PRf7] at h0 h1 h2 h3 h4 h5 h6 h7 h8 h9 h10 h11 h12 h13
      clear hp hd
      have hsz := hg.size
      replace br := br.grow hg (by intro i _; rintro ⟨j, _, hw⟩; exact False.elim hw)
      replace hB := hB.trans (hg.below (fun k hk => ⟨by omega, fun o => by rintro ⟨j, _, hw⟩; exact False.elim hw⟩))
      have hr : List.range 14 = [0, 1, 2, 3, 4, 5, 6, 7, 8, 9, 10, 11, 12, 13] := rfl
      rw [hr]
      clear hr
      simp only [List.drop_succ_cons, List.drop_zero, List.drop_nil, actsD, List.getD_cons_zero, List.getD_cons_succ, List.foldl_cons, List.foldl_nil, Act.put, List.setIfInBounds_toArray, List.set_cons_succ, List.set_cons_zero, h0, h1, h2, h3, h4, h5, h6, h7, h8, h9, h10, h11, h12, h13]
      clear h0 h1 h2 h3 h4 h5 h6 h7 h8 h9 h10 h11 h12 h13
      have hgr5 : GrowX (fun _ => False) wr w5 := grow_below hB
      have HAT5 := Lib.hid (HAT.out.grow hgr5 (fun _ _ h => h))
      have HG5 : Hid (GrowX (ownR r db fb vo) w0 w5) := Lib.hid (HGW.out.step hgr5 (fun _ _ h => h.elim))
      obtain ⟨hd', hhd'⟩ : ∃ x, (hd + 1) % n = x := ⟨_, rfl⟩
      have hd'n : hd' < n := by rw [← hhd']; exact Nat.mod_lt _ (by omega)
      rw [hhd']
      have HHD' := Lib.hid hhd'
      obtain ⟨a1, a2⟩ := HAT5.out.setHand hd'
      have HA1 := Lib.hid a1
      have HG6 : Hid (GrowX (ownR r db fb vo) w0 (w5.setCell ⟨r, 2, none⟩ (.int .i64 (hd' : Nat)))) := Lib.hid (HG5.out.step a2 (fun k _ e => .inl e))
      have g1 := HAT5.out.box.cell 1 _ rfl
      have g2 := HAT5.out.box.cell 2 _ rfl
      have gfz := HAT5.out.box.free
      have glt := HAT5.out.box.lt
      have k3 := HAT5.out.cell (by omega) hd _ HX.out 3 _ rfl
      have lfz := HAT5.out.ffz
      have llt := HAT5.out.fl.2
      have hgl := HAT5.out.rf
      simp only at k3 g2
      clear hgr5 hB br hg hsz hhd' a1 a2
      cases ma with
      | true =>
        have hmw := HAT.out.marksW HLF.out
        have HMW := Lib.hid hmw
        obtain ⟨b1, b2⟩ := HA1.out.setF HLF.out hd _ ⟨pgx, bx, di, false, rc, ls⟩ HX.out 3 (by omega) (.bool false) rfl
        have HB1 := Lib.hid b1
        have HB2 := Lib.hid b2
        clear b1 b2 hmw
        go_wp2_with fail
        go_roundw
        · obtain ⟨m', hm'⟩ : ∃ m', m = m' + 1 := ⟨m - 1, by have := HM.out; omega⟩
          have hmk := marks_set _ hd _ HX.out rfl
          refine ⟨_, hd', m', HB1.out, by rw [List.length_set]; exact HLF.out, hd'n, fun y hy => ?_, by simp only at hmk ⊢; have := HM.out; omega, ?_, HG6.out.step HB2.out (fun k _ e => .inr (.inr (.inl e)))⟩
          · rcases List.mem_or_eq_of_mem_set hy with hy | rfl
            · exact HOK.out y hy
            · exact HOK.out (⟨pgx, bx, di, true, rc, ls⟩ : Fm) (List.mem_of_getElem? HX.out)
          · rw [HSW.out, hm', sweep, getD_at HX.out]
            simp only [if_true, HHD'.out]
        · have hmk := marks_set _ hd _ HX.out rfl
          have h2 := HB1.out.marksW (by show (F.set hd _).length = n; rw [List.length_set]; exact HLF.out)
          rw [h2, HMW.out]
          simp only at hmk ⊢
          omega
      | false =>
        have HSWE : Hid (p.swept = (F, hd', hd)) := Lib.hid (by
          rw [HSW.out]
          obtain ⟨m', rfl⟩ : ∃ m', m = m' + 1 := ⟨m - 1, by have := HM.out; omega⟩
          rw [sweep, getD_at HX.out]
          rw [if_neg (by simp), HHD'.out])
        have hok6 : (Pl.mk F hd' p.wr p.P).ok pg n := ⟨HLF.out, hn1, hn64, hd'n, HOK.out, H4.out.wr⟩
        obtain ⟨z1, z2⟩ := RV.again HA1.out H2.out (ownR_low H0.out) H3.out HG6.out (fun k h => .inl h) hok6 (by omega)
        have hw := rwrite_rv z1 hd (by omega) hwr hfo
        obtain ⟨c, hc⟩ : ∃ c, Pl.rwrite bad er { p with F := F, hand := hd' } fo hd = c := ⟨_, rfl⟩
        rw [show (Pl.mk F hd' p.wr p.P) = { p with F := F, hand := hd' } from rfl, hc] at hw
        have HWC := Lib.hid hw
        have HZ2 := Lib.hid z2
        have HRE : Hid (p.rfree bad er fo = (c.1, hd, c.2.1, c.2.2)) := Lib.hid (by rw [HR.out, HSWE.out, ← hc])
        clear z1 z2 hw hc
        go_wp2_with fail
        refine HWC.out.mono ?_
        rintro e w7 ⟨S', rfl, hrv, hft⟩
        have H7 := Lib.hid hrv
        have HF7 := Lib.hid (HZ2.out.trans hft)
        clear hrv hft
        go_wp2_with fail
        go_ret2
        rw [HRE.out]
        first | exact ⟨_, rfl, H7.out, HF7.out⟩ | exact ⟨rfl, _, H7.out, HF7.out⟩
end
end Go.Proofs.Ytdnjjdpenfhpeaa

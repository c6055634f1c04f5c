/- The document's pool: find, write. Conditions: none. -/
import Derived.Test.YtdnjjdpenfhpeaaPlRef
import Derived.BigQuiet
namespace Go.Proofs.Ytdnjjdpenfhpeaa
set_option linter.unusedSimpArgs false
set_option linter.unusedVariables false
open Go.RowKit

theorem intsOf5 : SliceOf Try.prog 49 3 (.int .i64 0) 1 8 := ⟨Try.underlying49, by kernel_rfl, rfl, by decide⟩
theorem drawn_below (w : World) (n : Nat) : Below w.heap.size w (w.drewN n) := ⟨rfl, rfl, rfl, Nat.le_refl _, fun _ _ => rfl⟩
/-- the document's force -/
def stepP (bad er : Int) (fo : List Int) (l : Int) : Int × List Int := (if l = bad then er else 0, fo ++ [l])
/-- write: as clean, but for the frame's own mark of being dirty -/
def Pl.rwrite (bad er : Int) (p : Pl) (fo : List Int) (i : Nat) : Int × Pl × List Int :=
  if (p.F.getD i Fm.free).dirty = true then
    if (p.F.getD i Fm.free).lsn = bad then (er, p, fo ++ [(p.F.getD i Fm.free).lsn])
    else (0, { p with wr := p.wr + 1, P := putP p.P (p.F.getD i Fm.free).page.toNat (p.F.getD i Fm.free).b }, fo ++ [(p.F.getD i Fm.free).lsn])
  else (0, p, fo)
def rfindL (F : List Fm) (m : Int) : Option Nat := F.findIdx? fun x => decide (x.page = m)
def WRw3 (r db cd fb cf nf ix n pg q HS G : Nat) (vo hdv wrv : Value) (bad er ls : Int) (bx : List UInt8) (fo : List Int) (j b o : Nat) : Prop := (j = 14 ∧ vo.ownBlock = some b)
def PRw3 (r db cd fb cf nf ix n pg q HS G : Nat) (vo hdv wrv : Value) (bad er ls : Int) (bx : List UInt8) (fo : List Int) (i : Nat) (v : Value) (lo hi : Nat) (w : World) : Prop :=
  match i with
  | 0 => v = .pointer (some ⟨r, 0, none⟩)
  | 1 => v = .pointer (some ⟨r, 0, none⟩)
  | 2 => v = .pointer (some ⟨r, 0, none⟩)
  | 3 => v = .pointer (some ⟨r, 5, none⟩)
  | 4 => v = vo
  | 5 => v = .pointer (some ⟨r, 0, none⟩)
  | 6 => v = .pointer (some ⟨r, 0, none⟩)
  | 7 => v = .pointer (some ⟨r, 1, none⟩)
  | 8 => v = .slice (some ⟨fb, 0, none⟩) n cf
  | 9 => v = .int .i64 ((ix : Nat) : Int)
  | 10 => v = .pointer (some ⟨fb, ix * 6, none⟩)
  | 11 => v = .pointer (some ⟨fb, ix * 6 + 4, none⟩)
  | 12 => v = .int .i64 ls
  | 13 => v = .slice (some ⟨lo, 0, none⟩) 1 1 ∧ HS ≤ lo ∧ lo < w.heap.size ∧ w.cell? ⟨lo, 0, none⟩ = some (.int .i64 ls)
  | 14 => ∃ ob cp, v = .slice (some ⟨ob, 0, none⟩) (nf + 1) cp ∧ w.ownsRow G 3 1 v (nf + 1) ((fo ++ [ls]).map (Value.int .i64)) ∧ (vo.ownBlock = some ob ∨ HS ≤ ob)
  | 15 => v = .pointer (some ⟨r, 0, none⟩)
  | 16 => v = .pointer (some ⟨r, 5, none⟩)
  | _ => True
theorem PRw3_stable (r db cd fb cf nf ix n pg q HS G : Nat) (vo hdv wrv : Value) (bad er ls : Int) (bx : List UInt8) (fo : List Int) (hsb : ∀ k, vo.ownBlock = some k → k < HS) : ∀ i j, i < 17 → j < 17 → j ≠ i → j ∉ ([[], [], [1], [1, 2], [1, 2, 3], [], [5], [5, 6], [5, 6, 7], [], [5, 6, 7, 8, 9], [5, 6, 7, 8, 9, 10], [5, 6, 7, 8, 9, 10, 11], [5, 6, 7, 8, 9, 10, 11, 12], [1, 2, 3, 4, 5, 6, 7, 8, 9, 10, 11, 12, 13], [0, 1, 2, 3, 4, 5, 6, 7, 8, 9, 10, 11, 12, 13, 14], [0, 1, 2, 3, 4, 5, 6, 7, 8, 9, 10, 11, 12, 13, 14, 15]] : List (List Nat)).getD i [] → ∀ v lo hi w w', PRw3 r db cd fb cf nf ix n pg q HS G vo hdv wrv bad er ls bx fo i v lo hi w → GrowC (WRw3 r db cd fb cf nf ix n pg q HS G vo hdv wrv bad er ls bx fo j) w w' → PRw3 r db cd fb cf nf ix n pg q HS G vo hdv wrv bad er ls bx fo i v lo hi w' := by
  intro i j hi hj hne hbs v lo hj2 w w' h hg
  match i, hi with
  | 0, _ =>
    simp only [PRw3] at h ⊢
    exact h
  | 1, _ =>
    simp only [PRw3] at h ⊢
    exact h
  | 2, _ =>
    simp only [PRw3] at h ⊢
    exact h
  | 3, _ =>
    simp only [PRw3] at h ⊢
    exact h
  | 4, _ =>
    simp only [PRw3] at h ⊢
    exact h
  | 5, _ =>
    simp only [PRw3] at h ⊢
    exact h
  | 6, _ =>
    simp only [PRw3] at h ⊢
    exact h
  | 7, _ =>
    simp only [PRw3] at h ⊢
    exact h
  | 8, _ =>
    simp only [PRw3] at h ⊢
    exact h
  | 9, _ =>
    simp only [PRw3] at h ⊢
    exact h
  | 10, _ =>
    simp only [PRw3] at h ⊢
    exact h
  | 11, _ =>
    simp only [PRw3] at h ⊢
    exact h
  | 12, _ =>
    simp only [PRw3] at h ⊢
    exact h
  | 13, _ =>
    simp only [PRw3] at h ⊢
    exact ⟨h.1, h.2.1, Nat.lt_of_lt_of_le h.2.2.1 hg.size, (hg.cell _ _ h.2.2.1 (fun hw => by simp only [WRw3] at hw; have := hsb _ hw.2; omega)).trans h.2.2.2⟩
  | 14, _ =>
    simp only [PRw3] at h ⊢
    obtain ⟨ob, cp, e, ho, hor⟩ := h
    exact ⟨ob, cp, e, own_growx (X := fun _ => False) ho (GrowX.of_growC hg (fun k o hw => hne hw.1)) (fun _ _ h => h), hor⟩
  | 15, _ =>
    simp only [PRw3] at h ⊢
    exact h
  | 16, _ =>
    simp only [PRw3] at h ⊢
    exact h
  | (q + 17), hq => exact absurd hq (by omega)
def WRw6 (r db cd fb cf nf ix n pg q HS G : Nat) (vn hdv wrv : Value) (bad er ls : Int) (bx : List UInt8) (fo : List Int) (j b o : Nat) : Prop := False
def PRw6 (r db cd fb cf nf ix n pg q HS G : Nat) (vn hdv wrv : Value) (bad er ls : Int) (bx : List UInt8) (fo : List Int) (i : Nat) (v : Value) (lo hi : Nat) (w : World) : Prop :=
  match i with
  | 0 => v = .pointer (some ⟨r, 0, none⟩)
  | 1 => v = .pointer (some ⟨r, 0, none⟩)
  | 2 => v = .pointer (some ⟨r, 0, none⟩)
  | 3 => v = .slice (some ⟨db, 0, none⟩) pg cd
  | 4 => v = .pointer (some ⟨r, 0, none⟩)
  | 5 => v = .pointer (some ⟨r, 0, none⟩)
  | 6 => v = .pointer (some ⟨r, 1, none⟩)
  | 7 => v = .slice (some ⟨fb, 0, none⟩) n cf
  | 8 => v = .int .i64 ((ix : Nat) : Int)
  | 9 => v = .pointer (some ⟨fb, ix * 6, none⟩)
  | 10 => v = .pointer (some ⟨fb, ix * 6, none⟩)
  | 11 => v = .int .i64 ((q : Nat) : Int)
  | 12 => v = .pointer (some ⟨r, 0, none⟩)
  | 13 => v = .pointer (some ⟨r, 0, none⟩)
  | 14 => v = .pointer (some ⟨r, 1, none⟩)
  | 15 => v = .slice (some ⟨fb, 0, none⟩) n cf
  | 16 => v = .int .i64 ((ix : Nat) : Int)
  | 17 => v = .pointer (some ⟨fb, ix * 6, none⟩)
  | 18 => v = .pointer (some ⟨fb, ix * 6 + 1, none⟩)
  | 19 => v = S8 bx
  | 20 => v = .pointer (some ⟨db, q, none⟩)
  | _ => True
theorem PRw6_stable (r db cd fb cf nf ix n pg q HS G : Nat) (vn hdv wrv : Value) (bad er ls : Int) (bx : List UInt8) (fo : List Int)  : ∀ i j, i < 21 → j < 21 → j ≠ i → j ∉ ([[], [0], [0, 1], [0, 1, 2], [], [4], [4, 5], [4, 5, 6], [], [4, 5, 6, 7, 8], [4, 5, 6, 7, 8, 9], [4, 5, 6, 7, 8, 9, 10], [], [12], [12, 13], [12, 13, 14], [], [12, 13, 14, 15, 16], [12, 13, 14, 15, 16, 17], [12, 13, 14, 15, 16, 17, 18], [0, 1, 2, 3, 4, 5, 6, 7, 8, 9, 10, 11, 12, 13, 14, 15, 16, 17, 18, 19]] : List (List Nat)).getD i [] → ∀ v lo hi w w', PRw6 r db cd fb cf nf ix n pg q HS G vn hdv wrv bad er ls bx fo i v lo hi w → GrowC (WRw6 r db cd fb cf nf ix n pg q HS G vn hdv wrv bad er ls bx fo j) w w' → PRw6 r db cd fb cf nf ix n pg q HS G vn hdv wrv bad er ls bx fo i v lo hi w' := by
  intro i j hi hj hne hbs v lo hj2 w w' h hg
  match i, hi with
  | 0, _ =>
    simp only [PRw6] at h ⊢
    exact h
  | 1, _ =>
    simp only [PRw6] at h ⊢
    exact h
  | 2, _ =>
    simp only [PRw6] at h ⊢
    exact h
  | 3, _ =>
    simp only [PRw6] at h ⊢
    exact h
  | 4, _ =>
    simp only [PRw6] at h ⊢
    exact h
  | 5, _ =>
    simp only [PRw6] at h ⊢
    exact h
  | 6, _ =>
    simp only [PRw6] at h ⊢
    exact h
  | 7, _ =>
    simp only [PRw6] at h ⊢
    exact h
  | 8, _ =>
    simp only [PRw6] at h ⊢
    exact h
  | 9, _ =>
    simp only [PRw6] at h ⊢
    exact h
  | 10, _ =>
    simp only [PRw6] at h ⊢
    exact h
  | 11, _ =>
    simp only [PRw6] at h ⊢
    exact h
  | 12, _ =>
    simp only [PRw6] at h ⊢
    exact h
  | 13, _ =>
    simp only [PRw6] at h ⊢
    exact h
  | 14, _ =>
    simp only [PRw6] at h ⊢
    exact h
  | 15, _ =>
    simp only [PRw6] at h ⊢
    exact h
  | 16, _ =>
    simp only [PRw6] at h ⊢
    exact h
  | 17, _ =>
    simp only [PRw6] at h ⊢
    exact h
  | 18, _ =>
    simp only [PRw6] at h ⊢
    exact h
  | 19, _ =>
    simp only [PRw6] at h ⊢
    exact h
  | 20, _ =>
    simp only [PRw6] at h ⊢
    exact h
  | (q + 21), hq => exact absurd hq (by omega)

theorem RefAt.newO {w w5 : World} {G r db cd fb cf : Nat} {vo vo' : Value} {pg n : Nat} {p : Pl} {fo fo' : List Int} {bad er : Int} (h : RefAt w G r db cd fb cf vo pg n p fo bad er) (hg : GrowX (fun k => vo.ownBlock = some k) w w5) (ho : w5.ownsRow G 3 1 vo' fo'.length (fo'.map (Value.int .i64))) (hv : ∀ q, vo'.ownBlock = some q → q ≠ r ∧ q ≠ db ∧ q ≠ fb) :
    RefAt (w5.setCell ⟨r, 5, none⟩ vo') G r db cd fb cf vo' pg n p fo' bad er ∧ GrowX (fun k => k = r ∨ vo.ownBlock = some k) w (w5.setCell ⟨r, 5, none⟩ vo') := by
  have k3 : GrowX (fun k => k = r) w5 (w5.setCell ⟨r, 5, none⟩ vo') := growX_setCell _ _ _ _
  exact ⟨⟨(h.box.growx hg (fun e => (h.vo1 r e).1 rfl)).setCell 5 _, own_keep (own_keep h.drow hg (fun e => (h.vo1 db e).2.1 rfl)) k3 (fun e => h.rd e.symm), own_keep (own_keep h.frow hg (fun e => (h.vo1 fb e).2.2 rfl)) k3 (fun e => h.rf e.symm), own_growx ho k3 (fun q e => (hv q e).1), h.rd, h.rf, h.df, hv⟩, (hg.mono (fun k e => .inr e)).step k3 (fun k _ e => .inl e)⟩
theorem RV.again {W0 w w' : World} {r db cd fb cf pg n : Nat} {vo vo' : Value} {p' : Pl} {fo' : List Int} {bad er : Int} (h : RefAt w' W0.heap.size r db cd fb cf vo' pg n p' fo' bad er) (h2 : W0.heap.size ≤ r) (ho : ∀ k, ownR r db fb vo k → W0.heap.size ≤ k) (h3 : Below W0.heap.size W0 w) (hg : GrowX (ownR r db fb vo) w w') (hv : ∀ k, vo'.ownBlock = some k → vo.ownBlock = some k ∨ w.heap.size ≤ k) (hok : p'.ok pg n) (hfo : fo'.length ≤ 1000000) :
    RV W0 r n pg bad er p' fo' (ownR r db fb vo') w' ∧ Foot (ownR r db fb vo) (ownR r db fb vo') w w' := by
  refine ⟨⟨db, cd, fb, cf, vo', h, h2, h3.trans (hg.below (fun k hk => ⟨Nat.lt_of_lt_of_le hk h3.size, fun e => by have := ho k e; omega⟩)), hok, hfo, rfl⟩, hg, ?_⟩
  rintro k (e | e | e | e)
  · exact .inl (.inl e)
  · exact .inl (.inr (.inl e))
  · exact .inl (.inr (.inr (.inl e)))
  · exact (hv k e).imp (fun h => .inr (.inr (.inr h))) id
theorem ownR_low {W0 w : World} {r n pg : Nat} {bad er : Int} {p : Pl} {fo : List Int} {S : Nat → Prop} (h : RV W0 r n pg bad er p fo S w) : ∀ k, S k → W0.heap.size ≤ k := fun k hk => (h.lt k hk).1
section
variable {W0 w : World} {r n pg : Nat} {bad er : Int} {p : Pl} {fo : List Int} {S : Nat → Prop}
set_option maxRecDepth 100000 in
set_option maxHeartbeats 1600000 in
theorem rfind_at {G db cd fb cf : Nat} {vo : Value} (h : RefAt w G r db cd fb cf vo pg n p fo bad er) (hl : p.F.length = n) (hn : 1 ≤ n) (hn2 : n ≤ 64) (m : Int) :
    Calls Try.prog 41 #[.pointer (some ⟨r, 0, none⟩), .int .i64 m] w fun e w' => e = .returned (.int .i64 (atI (rfindL p.F m))) ∧ w' = w := by
  have c1 := h.box.cell 1 _ rfl
  have hlt := h.box.lt
  have hfl := h.fl.2
  have H := Lib.hid h
  have HL := Lib.hid hl
  clear h hl
  go_enter Try.func41, Try.ntmps41
  go_wp2_with fail
  go_loopw [5] (fun z wr => ∃ k : Nat, k ≤ n ∧ z = .int .i64 k ∧ wr = w ∧ ∀ j x, j < k → p.F[j]? = some x → x.page ≠ m) (fun z _ => n - (intOf z).toNat)
  case atStart => exact ⟨0, Nat.zero_le _, rfl, (by first | rfl | trivial), fun j x hj => absurd hj (by omega)⟩
  case round =>
    obtain ⟨k, hk, rfl, rfl, hno⟩ := hrel
    have HNO := Lib.hid hno
    clear hno
    by_cases hkn : k < n
    case neg =>
      obtain rfl : k = n := by omega
      have hkb : decide (k < k) = false := by simp
      have HR : Hid (rfindL p.F m = none) := Lib.hid (by
        refine List.findIdx?_eq_none_iff.2 (fun x hx => ?_)
        obtain ⟨j, hj, e⟩ := List.getElem_of_mem hx
        have := HNO.out j x (by rw [← HL.out]; exact hj) (by rw [List.getElem?_eq_getElem hj, e])
        simpa using this)
      go_wp2_with fail
      go_ret
      exact ⟨by rw [HR.out]; rfl, rfl⟩
    have hkb : decide (k < n) = true := by simpa using hkn
    have hkl : k < p.F.length := by rw [HL.out]; exact hkn
    have hx : p.F[k]? = some p.F[k] := List.getElem?_eq_getElem hkl
    have x0 := H.out.cell (by omega) k _ hx 0 _ rfl
    rw [Nat.add_zero] at x0
    have HX := Lib.hid hx
    generalize p.F[k] = x at *
    clear hx hkl
    by_cases hxm : x.page = m
    · have hb : (x.page == m) = true := by simpa using hxm
      have HR : Hid (rfindL p.F m = some k) := Lib.hid (by
        refine List.findIdx?_eq_some_iff_getElem.2 ⟨(List.getElem?_eq_some_iff.1 HX.out).1, ?_, fun j hj => ?_⟩
        · rw [(List.getElem?_eq_some_iff.1 HX.out).2]; simpa using hxm
        · have := HNO.out j _ hj (List.getElem?_eq_getElem (Nat.lt_trans hj (List.getElem?_eq_some_iff.1 HX.out).1))
          simpa using this)
      clear hxm
      go_wp2_with fail
      go_ret
      exact ⟨by rw [HR.out]; rfl, rfl⟩
    · have hb : (x.page == m) = false := by simpa using hxm
      have HXM := Lib.hid hxm
      clear hxm
      go_wp2_with fail
      go_roundw
      · refine ⟨k + 1, by omega, by go_num, (by first | rfl | trivial), fun j y hj hy => ?_⟩
        by_cases e : j = k
        · subst e; rw [HX.out] at hy; obtain rfl := Option.some.inj hy; exact HXM.out
        · exact HNO.out j y (by omega) hy
      · simp [intOf]; omega
theorem rfind_rv (h : RV W0 r n pg bad er p fo S w) (m : Int) :
    Calls Try.prog 41 #[.pointer (some ⟨r, 0, none⟩), .int .i64 m] w fun e w' => e = .returned (.int .i64 (atI (rfindL p.F m))) ∧ w' = w := by
  obtain ⟨db, cd, fb, cf, vo, h1, h2, h3, h4, h5, rfl⟩ := h
  exact rfind_at h1 h4.len h4.n1 h4.n64 m
set_option maxRecDepth 100000 in
set_option maxHeartbeats 3200000 in
theorem rwrite_rv (h : RV W0 r n pg bad er p fo S w) (ix : Nat) (hi : ix < n) (hwr : p.wr + 1 ≤ 1000000000) (hfo : fo.length + 1 ≤ 1000000) :
    Calls Try.prog 43 #[.pointer (some ⟨r, 0, none⟩), .int .i64 (ix : Nat)] w fun e w' => ∃ S', e = .returned (.int .i64 (p.rwrite bad er fo ix).1) ∧ RV W0 r n pg bad er (p.rwrite bad er fo ix).2.1 (p.rwrite bad er fo ix).2.2 S' w' ∧ Foot S S' w w' := by
  have h0 := h
  obtain ⟨db, cd, fb, cf, vo, h1, h2, h3, h4, h5, rfl⟩ := h
  have hiF : ix < p.F.length := by rw [h4.len]; exact hi
  obtain ⟨x, hx⟩ : ∃ x, p.F[ix]? = some x := ⟨_, List.getElem?_eq_getElem hiF⟩
  have hpF := getD_at hx
  have hxok := h4.fr _ (List.mem_of_getElem? hx)
  have hn64 := h4.n64
  have k2 := h1.cell (by omega) ix x hx 2 _ rfl
  have k4 := h1.cell (by omega) ix x hx 4 _ rfl
  have k0 := h1.cell (by omega) ix x hx 0 _ rfl
  have k1 := h1.cell (by omega) ix x hx 1 _ rfl
  rw [Nat.add_zero] at k0
  obtain ⟨pgx, bx, di, ma, rc, ls⟩ := x
  have c1 := h1.box.cell 1 _ rfl
  have hlr := h1.box.lt
  have hlf := h1.fl.2
  have H0 := Lib.hid h0
  have HRA := Lib.hid h1
  simp only at hxok k0 k1 k2 k4
  cases di with
  | false =>
    have HE : Hid (p.rwrite bad er fo ix = (0, p, fo)) := Lib.hid (by unfold Pl.rwrite; rw [hpF]; rfl)
    clear h0 h1 h2 h3 h4 h5 hxok hpF hx k0 k1 k4
    go_enter Try.func43, Try.ntmps43
    go_wp2_with fail
    go_ret
    rw [HE.out]
    first
      | exact ⟨_, rfl, H0.out, Foot.same (B := fun _ => False) (GrowX.refl _) (fun _ h => h.elim)⟩
      | exact ⟨rfl, _, H0.out, Foot.same (B := fun _ => False) (GrowX.refl _) (fun _ h => h.elim)⟩
      | exact ⟨trivial, _, H0.out, Foot.same (B := fun _ => False) (GrowX.refl _) (fun _ h => h.elim)⟩
  | true =>
    obtain ⟨hx1, hx2⟩ := hxok
    obtain ⟨q, rfl⟩ := Int.eq_ofNat_of_zero_le (hx2 rfl)
    obtain ⟨hqp, hbx⟩ := hx1 (Int.natCast_nonneg q)
    have hqpg : q < pg := by simp only at hqp; omega
    have hpg2 : pg ≤ cd := by obtain ⟨_, _, h, _, hh, _⟩ := Reads.of_own h1.drow; injection h with _ _ h9; omega
    obtain ⟨hdv, hhd⟩ : ∃ x, Value.int .i64 (p.hand : Nat) = x := ⟨_, rfl⟩
    obtain ⟨wrv, hwv⟩ : ∃ x, Value.int .i64 (p.wr : Nat) = x := ⟨_, rfl⟩
    obtain ⟨nf, hnf⟩ : ∃ x, fo.length = x := ⟨_, rfl⟩
    have br := h1.box
    rw [hhd, hwv] at br
    have HNF := Lib.hid hnf
    have HC4 := Lib.hid k4
    have HD0 := Lib.hid k0
    have HD1 := Lib.hid k1
    have H2 := Lib.hid h2
    have H3 := Lib.hid h3
    have H4 := Lib.hid h4
    have HX := Lib.hid hx
    have HPF := Lib.hid hpF
    have HHD := Lib.hid hhd
    have HWV := Lib.hid hwv
    have hnfb : nf ≤ 1000000 := by omega
    have hfo2 : nf + 1 ≤ 1000000 := by omega
    clear h0 h1 h2 h3 h4 h5 hpF hx k0 k1 k4 hx1 hx2 hqp hbx hhd hwv hnf hfo
    go_enter Try.func43, Try.ntmps43
    go_upto_region 3 with (fail)
    clear c1 k2
    obtain ⟨HS, hHS⟩ : ∃ q, w.heap.size = q := ⟨_, rfl⟩
    obtain ⟨G, hG⟩ : ∃ q, W0.heap.size = q := ⟨_, rfl⟩
    have hGw : G ≤ w.heap.size := by have := H3.out.size; omega
    rw [hG] at HRA
    have HG := Lib.hid hG
    have hsb : ∀ k, vo.ownBlock = some k → k < HS := fun k e => by have := (HRA.out.orow.lt k e).2; omega
    have NB : Hid (∀ q, q = r ∨ q < G → ¬ vo.ownBlock = some q) := Lib.hid (fun q hq e => by
      rcases hq with rfl | hq
      · exact (HRA.out.vo1 q e).1 rfl
      · have := (HRA.out.orow.lt q e).1; omega)
    have hB : Below 0 w w := Below.refl _ _
    clear hG
    refine wp_region_partsDC (WRw3 r db cd fb cf nf ix n pg q HS G vo hdv wrv bad er ls bx fo) 17 [[], [], [1], [1, 2], [1, 2, 3], [], [5], [5, 6], [5, 6, 7], [], [5, 6, 7, 8, 9], [5, 6, 7, 8, 9, 10], [5, 6, 7, 8, 9, 10, 11], [5, 6, 7, 8, 9, 10, 11, 12], [1, 2, 3, 4, 5, 6, 7, 8, 9, 10, 11, 12, 13], [0, 1, 2, 3, 4, 5, 6, 7, 8, 9, 10, 11, 12, 13, 14], [0, 1, 2, 3, 4, 5, 6, 7, 8, 9, 10, 11, 12, 13, 14, 15]] [some 14, some 15, some 16, some 17, some 18, some 19, some 20, some 21, some 22, some 23, some 24, some 25, some 26, some 27, some 28, some 29, some 30, none] (by kernel_rfl) (by kernel_rfl) rfl (PRw3 r db cd fb cf nf ix n pg q HS G vo hdv wrv bad er ls bx fo) (PRw3_stable r db cd fb cf nf ix n pg q HS G vo hdv wrv bad er ls bx fo hsb) ?pRw3 ?_
    case pRw3 =>
      intro i hi o ho vs lo hx_ w' hg hp
      match i, hi with
      | 0, _ =>
        obtain rfl := Option.some.inj ho
        clear ho
        simp only [actsD, List.getD_cons_zero, List.getD_cons_succ, List.foldl_cons, List.foldl_nil, Act.put, List.setIfInBounds_toArray, List.set_cons_succ, List.set_cons_zero]
        have hsz := hg.size
        go_wp2
        exact ⟨_, rfl, GrowC.refl _, rfl⟩
      | 1, _ =>
        obtain rfl := Option.some.inj ho
        clear ho
        simp only [actsD, List.getD_cons_zero, List.getD_cons_succ, List.foldl_cons, List.foldl_nil, Act.put, List.setIfInBounds_toArray, List.set_cons_succ, List.set_cons_zero]
        have hsz := hg.size
        go_wp2
        exact ⟨_, rfl, GrowC.refl _, rfl⟩
      | 2, _ =>
        obtain rfl := Option.some.inj ho
        clear ho
        simp only [actsD, List.getD_cons_zero, List.getD_cons_succ, List.foldl_cons, List.foldl_nil, Act.put, List.setIfInBounds_toArray, List.set_cons_succ, List.set_cons_zero]
        obtain ⟨_, _, _, h1⟩ := hp 1 (by simp)
        simp only [PRw3] at h1
        have hsz := hg.size
        rw [h1]
        go_wp2
        exact ⟨_, rfl, GrowC.refl _, rfl⟩
      | 3, _ =>
        obtain rfl := Option.some.inj ho
        clear ho
        simp only [actsD, List.getD_cons_zero, List.getD_cons_succ, List.foldl_cons, List.foldl_nil, Act.put, List.setIfInBounds_toArray, List.set_cons_succ, List.set_cons_zero]
        obtain ⟨_, _, _, h2⟩ := hp 2 (by simp)
        simp only [PRw3] at h2
        have hsz := hg.size
        rw [h2]
        go_wp2
        exact ⟨_, rfl, GrowC.refl _, rfl⟩
      | 4, _ =>
        obtain rfl := Option.some.inj ho
        clear ho
        simp only [actsD, List.getD_cons_zero, List.getD_cons_succ, List.foldl_cons, List.foldl_nil, Act.put, List.setIfInBounds_toArray, List.set_cons_succ, List.set_cons_zero]
        obtain ⟨_, _, _, h3⟩ := hp 3 (by simp)
        simp only [PRw3] at h3
        have hsz := hg.size
        rw [h3]
        have e0 := (hg.cell (r) 5 br.lt (by rintro ⟨j, _, hne, hb, hw⟩; simp only [WRw3] at hw; obtain ⟨e9, _⟩ := hw; subst e9; exact hb (by decide))).trans (br.cell 5 _ rfl)
        go_wp2
        exact ⟨_, rfl, GrowC.refl _, rfl⟩
      | 5, _ =>
        obtain rfl := Option.some.inj ho
        clear ho
        simp only [actsD, List.getD_cons_zero, List.getD_cons_succ, List.foldl_cons, List.foldl_nil, Act.put, List.setIfInBounds_toArray, List.set_cons_succ, List.set_cons_zero]
        have hsz := hg.size
        go_wp2
        exact ⟨_, rfl, GrowC.refl _, rfl⟩
      | 6, _ =>
        obtain rfl := Option.some.inj ho
        clear ho
        simp only [actsD, List.getD_cons_zero, List.getD_cons_succ, List.foldl_cons, List.foldl_nil, Act.put, List.setIfInBounds_toArray, List.set_cons_succ, List.set_cons_zero]
        obtain ⟨_, _, _, h5⟩ := hp 5 (by simp)
        simp only [PRw3] at h5
        have hsz := hg.size
        rw [h5]
        go_wp2
        exact ⟨_, rfl, GrowC.refl _, rfl⟩
      | 7, _ =>
        obtain rfl := Option.some.inj ho
        clear ho
        simp only [actsD, List.getD_cons_zero, List.getD_cons_succ, List.foldl_cons, List.foldl_nil, Act.put, List.setIfInBounds_toArray, List.set_cons_succ, List.set_cons_zero]
        obtain ⟨_, _, _, h6⟩ := hp 6 (by simp)
        simp only [PRw3] at h6
        have hsz := hg.size
        rw [h6]
        go_wp2
        exact ⟨_, rfl, GrowC.refl _, rfl⟩
      | 8, _ =>
        obtain rfl := Option.some.inj ho
        clear ho
        simp only [actsD, List.getD_cons_zero, List.getD_cons_succ, List.foldl_cons, List.foldl_nil, Act.put, List.setIfInBounds_toArray, List.set_cons_succ, List.set_cons_zero]
        obtain ⟨_, _, _, h7⟩ := hp 7 (by simp)
        simp only [PRw3] at h7
        have hsz := hg.size
        rw [h7]
        have e0 := (hg.cell (r) 1 br.lt (by rintro ⟨j, _, hne, hb, hw⟩; simp only [WRw3] at hw; obtain ⟨e9, _⟩ := hw; subst e9; exact hb (by decide))).trans (br.cell 1 _ rfl)
        go_wp2
        exact ⟨_, rfl, GrowC.refl _, rfl⟩
      | 9, _ =>
        obtain rfl := Option.some.inj ho
        clear ho
        simp only [actsD, List.getD_cons_zero, List.getD_cons_succ, List.foldl_cons, List.foldl_nil, Act.put, List.setIfInBounds_toArray, List.set_cons_succ, List.set_cons_zero]
        have hsz := hg.size
        go_wp2
        exact ⟨_, rfl, GrowC.refl _, rfl⟩
      | 10, _ =>
        obtain rfl := Option.some.inj ho
        clear ho
        simp only [actsD, List.getD_cons_zero, List.getD_cons_succ, List.foldl_cons, List.foldl_nil, Act.put, List.setIfInBounds_toArray, List.set_cons_succ, List.set_cons_zero]
        obtain ⟨_, _, _, h8⟩ := hp 8 (by simp)
        simp only [PRw3] at h8
        obtain ⟨_, _, _, h9⟩ := hp 9 (by simp)
        simp only [PRw3] at h9
        have hsz := hg.size
        rw [h8, h9]
        go_wp2
        exact ⟨_, rfl, GrowC.refl _, rfl⟩
      | 11, _ =>
        obtain rfl := Option.some.inj ho
        clear ho
        simp only [actsD, List.getD_cons_zero, List.getD_cons_succ, List.foldl_cons, List.foldl_nil, Act.put, List.setIfInBounds_toArray, List.set_cons_succ, List.set_cons_zero]
        obtain ⟨_, _, _, h10⟩ := hp 10 (by simp)
        simp only [PRw3] at h10
        have hsz := hg.size
        rw [h10]
        go_wp2
        exact ⟨_, rfl, GrowC.refl _, rfl⟩
      | 12, _ =>
        obtain rfl := Option.some.inj ho
        clear ho
        simp only [actsD, List.getD_cons_zero, List.getD_cons_succ, List.foldl_cons, List.foldl_nil, Act.put, List.setIfInBounds_toArray, List.set_cons_succ, List.set_cons_zero]
        obtain ⟨_, _, _, h11⟩ := hp 11 (by simp)
        simp only [PRw3] at h11
        have hsz := hg.size
        rw [h11]
        have e9 := (hg.cell fb (ix * 6 + 4) HRA.out.fl.2 (by rintro ⟨j, _, hne, hb, hw⟩; simp only [WRw3] at hw; obtain ⟨e9, _⟩ := hw; subst e9; exact hb (by decide))).trans HC4.out
        go_wp2
        exact ⟨_, rfl, GrowC.refl _, rfl⟩
      | 13, _ =>
        obtain rfl := Option.some.inj ho
        clear ho
        simp only [actsD, List.getD_cons_zero, List.getD_cons_succ, List.foldl_cons, List.foldl_nil, Act.put, List.setIfInBounds_toArray, List.set_cons_succ, List.set_cons_zero]
        obtain ⟨_, _, _, h12⟩ := hp 12 (by simp)
        simp only [PRw3] at h12
        have hsz := hg.size
        rw [h12]
        have hbx := Box.new w' #[.int .i64 ls] 3 rfl
        go_wp2
        exact ⟨_, rfl, GrowC.of_grow ((Grow.refl _).alloc _), rfl, by omega, by simp, hbx.cell 0 _ rfl⟩
      | 14, _ =>
        obtain rfl := Option.some.inj ho
        clear ho
        simp only [actsD, List.getD_cons_zero, List.getD_cons_succ, List.foldl_cons, List.foldl_nil, Act.put, List.setIfInBounds_toArray, List.set_cons_succ, List.set_cons_zero]
        obtain ⟨_, _, _, h4⟩ := hp 4 (by simp)
        simp only [PRw3] at h4
        obtain ⟨_, _, _, h13⟩ := hp 13 (by simp)
        simp only [PRw3] at h13
        have hsz := hg.size
        rw [h4]
        obtain ⟨e8, _, hlt8, c80⟩ := h13
        rw [e8]
        have HOw : Hid (w'.ownsRow G 3 1 vo nf (fo.map (Value.int .i64))) := Lib.hid (by have h9 := own_growx (X := fun _ => False) HRA.out.orow (GrowX.of_growC hg (fun k o hw => by obtain ⟨j, _, hne, _, hw⟩ := hw; exact hne hw.1)) (fun _ _ h => h); rw [HNF.out] at h9; exact h9)
        go_wp2_with (at_builtin; refine wpList_append_k intsOf5 (.tmp 18) (.tmp 27) rfl rfl (base := G) rfl HOw.out rfl rfl (news := [.int .i64 ls]) (by intro j u hu; rw [Addr.add_lit]; match j, hu with | 0, hu => (simp at hu; subst hu; exact c80) | (q + 1), hu => (simp at hu)) (by intro u hu; simp at hu; subst hu; rfl) (by omega) (by omega) (by omega) (by omega) ?_; intro ob cp wq hownq hgrq horq)
        exact ⟨_, rfl, hgrq.mono (by intro k o hk; exact ⟨rfl, hk.1⟩), ob, cp, rfl, by rw [List.map_append]; exact hownq, horq.imp (fun h => h) (fun h => by omega)⟩
      | 15, _ =>
        obtain rfl := Option.some.inj ho
        clear ho
        simp only [actsD, List.getD_cons_zero, List.getD_cons_succ, List.foldl_cons, List.foldl_nil, Act.put, List.setIfInBounds_toArray, List.set_cons_succ, List.set_cons_zero]
        obtain ⟨_, _, _, h0⟩ := hp 0 (by simp)
        simp only [PRw3] at h0
        have hsz := hg.size
        rw [h0]
        go_wp2
        exact ⟨_, rfl, GrowC.refl _, rfl⟩
      | 16, _ =>
        obtain rfl := Option.some.inj ho
        clear ho
        simp only [actsD, List.getD_cons_zero, List.getD_cons_succ, List.foldl_cons, List.foldl_nil, Act.put, List.setIfInBounds_toArray, List.set_cons_succ, List.set_cons_zero]
        obtain ⟨_, _, _, h15⟩ := hp 15 (by simp)
        simp only [PRw3] at h15
        have hsz := hg.size
        rw [h15]
        go_wp2
        exact ⟨_, rfl, GrowC.refl _, rfl⟩
      | (q + 17), hq => exact absurd hq (by omega)
    intro vS lo hi w5 hg hp hd
    obtain ⟨_, _, _, h0⟩ := hp 0 (by decide)
    obtain ⟨_, _, _, h1⟩ := hp 1 (by decide)
    obtain ⟨_, _, _, h2⟩ := hp 2 (by decide)
    obtain ⟨_, _, _, h3⟩ := hp 3 (by decide)
    obtain ⟨_, _, _, h4⟩ := hp 4 (by decide)
    obtain ⟨_, _, _, h5⟩ := hp 5 (by decide)
    obtain ⟨_, _, _, h6⟩ := hp 6 (by decide)
    obtain ⟨_, _, _, h7⟩ := hp 7 (by decide)
    obtain ⟨_, _, _, h8⟩ := hp 8 (by decide)
    obtain ⟨_, _, _, h9⟩ := hp 9 (by decide)
    obtain ⟨_, _, _, h10⟩ := hp 10 (by decide)
    obtain ⟨_, _, _, h11⟩ := hp 11 (by decide)
    obtain ⟨_, _, _, h12⟩ := hp 12 (by decide)
    obtain ⟨_, _, _, h13⟩ := hp 13 (by decide)
    obtain ⟨_, _, _, h14⟩ := hp 14 (by decide)
    obtain ⟨_, _, _, h15⟩ := hp 15 (by decide)
    obtain ⟨_, _, _, h16⟩ := hp 16 (by decide)
    simp only [PRw3] at h0 h1 h2 h3 h4 h5 h6 h7 h8 h9 h10 h11 h12 h13 h14 h15 h16
    clear hp hd
    have hsz := hg.size
    replace br := br.grow hg (by intro i _; rintro ⟨j, _, hw⟩; simp only [WRw3] at hw; exact NB.out _ (by first | (exact .inl rfl) | (exact .inr (by omega))) hw.2)
    replace hB := hB.trans (hg.below (fun k hk => ⟨by omega, fun o => by rintro ⟨j, _, hw⟩; simp only [WRw3] at hw; exact NB.out _ (by first | (exact .inl rfl) | (exact .inr (by omega))) hw.2⟩))
    have hr : List.range 17 = [0, 1, 2, 3, 4, 5, 6, 7, 8, 9, 10, 11, 12, 13, 14, 15, 16] := rfl
    rw [hr]
    clear hr
    simp only [List.drop_succ_cons, List.drop_zero, List.drop_nil, actsD, List.getD_cons_zero, List.getD_cons_succ, List.foldl_cons, List.foldl_nil, Act.put, List.setIfInBounds_toArray, List.set_cons_succ, List.set_cons_zero, h0, h1, h2, h3, h4, h5, h6, h7, h8, h9, h10, h11, h12, h15, h16]
    clear h0 h1 h2 h3 h4 h5 h6 h7 h8 h9 h10 h11 h12 h15 h16
    obtain ⟨ob, cp, e14, ho14, hor14⟩ := h14
    simp only [e14]
    rw [e14] at ho14
    clear h13
    have ct := br.cell 5 _ rfl
    have ft := br.free
    have hlr5 := br.lt
    have hg5 : GrowX (fun k => vo.ownBlock = some k) w w5 := GrowX.of_growC hg (fun q o hw => by obtain ⟨j, _, hw⟩ := hw; simp only [WRw3] at hw; exact hw.2)
    have hlen : (fo ++ [ls]).length = nf + 1 := by rw [List.length_append, HNF.out]; rfl
    have hv' : ∀ k, (Value.slice (some ⟨ob, 0, none⟩) (nf + 1) cp).ownBlock = some k → k ≠ r ∧ k ≠ db ∧ k ≠ fb := fun k e => by
      have e2 : ob = k := by simpa [Value.ownBlock] using e
      subst e2
      rcases hor14 with e3 | e3
      · exact HRA.out.vo1 ob e3
      · exact ⟨by omega, fun e => by have := HRA.out.dl.2; omega, by omega⟩
    obtain ⟨hn1, hn2⟩ := HRA.out.newO hg5 (by rw [hlen]; exact ho14) hv'
    have hvs : ∀ k, (Value.slice (some ⟨ob, 0, none⟩) (nf + 1) cp).ownBlock = some k → vo.ownBlock = some k ∨ w.heap.size ≤ k := fun k e => by
      have e2 : ob = k := by simpa [Value.ownBlock] using e
      subst e2
      exact hor14.imp id (fun h => by omega)
    have HN1 := Lib.hid hn1
    have HN2 := Lib.hid hn2
    have HVS := Lib.hid hvs
    have HLEN := Lib.hid hlen
    clear hg e14 ho14 hor14 hB hsb hg5 hlen hv' hn1 hn2 hvs br
    go_upto_region 4 with (fail)
    clear ct ft hlr5
    obtain ⟨vn, hvn⟩ : ∃ v, Value.slice (some ⟨ob, 0, none⟩) (nf + 1) cp = v := ⟨_, rfl⟩
    rw [hvn] at HN1 HN2 HVS ⊢
    clear hvn
    generalize w5.setCell ⟨r, 5, none⟩ vn = w4 at HN1 HN2 ⊢
    have b1 := HN1.out.box.cell 1 _ rfl
    have b3 := HN1.out.box.cell 3 _ rfl
    have blt := HN1.out.box.lt
    have flt := HN1.out.fl.2
    have f4 := HN1.out.cell (by omega) ix _ HX.out 4 _ rfl
    simp only at f4
    by_cases hls : ls = bad
    · have hlb : (ls == bad) = true := by simpa using hls
      go_quiet (fail)
      have hq := drawn_below w4 nq
      have b4 := (HN1.out.box.below hq (Nat.le_refl _)).cell 4 _ rfl
      have blt2 := (HN1.out.box.below hq (Nat.le_refl _)).lt
      go_wp2_with fail
      go_ret
      have hE : p.rwrite bad er fo ix = (er, p, fo ++ [ls]) := by unfold Pl.rwrite; rw [HPF.out, if_pos rfl, if_pos hls]
      rw [hE]
      have hat := HN1.out.grow (X := fun _ => False) (grow_below hq) (fun _ _ h => h)
      rw [← HG.out] at hat
      obtain ⟨z1, z2⟩ := RV.again hat H2.out (ownR_low H0.out) H3.out ((HN2.out.mono (Y := ownR r db fb vo) (fun k h => h.elim .inl (fun h => .inr (.inr (.inr h))))).step (grow_below hq : GrowX (fun _ => False) _ _) (fun _ _ h => h.elim)) HVS.out H4.out (by rw [HLEN.out]; omega)
      first | exact ⟨_, rfl, z1, z2⟩ | exact ⟨rfl, _, z1, z2⟩
    · have hlb : (ls == bad) = false := by simpa using hls
      go_quiet (fail)
      have hq := drawn_below w4 nq
      generalize w4.drewN nq = w6 at hq ⊢
      go_upto_region 6 with (fail)
      have HRB := Lib.hid (HN1.out.grow (X := fun _ => False) (grow_below hq) (fun _ _ h => h))
      have HG6 : Hid (GrowX (ownR r db fb vo) w w6) := Lib.hid ((HN2.out.mono (Y := ownR r db fb vo) (fun k h => h.elim .inl (fun h => .inr (.inr (.inr h))))).step (grow_below hq : GrowX (fun _ => False) _ _) (fun _ _ h => h.elim))
      have HE0 : Hid (w6.cell? ⟨fb, ix * 6, none⟩ = some (.int .i64 ((q : Nat) : Int))) := Lib.hid (by have h := HRB.out.cell (by omega) ix _ HX.out 0 _ rfl; rw [Nat.add_zero] at h; exact h)
      have HE1 : Hid (w6.cell? ⟨fb, ix * 6 + 1, none⟩ = some (S8 bx)) := Lib.hid (HRB.out.cell (by omega) ix _ HX.out 1 _ rfl)
      have br : Box w6 r [.slice (some ⟨db, 0, none⟩) pg cd, .slice (some ⟨fb, 0, none⟩) n cf, hdv, .int .i64 bad, .int .i64 er, vn, wrv] := by rw [← HHD.out, ← HWV.out]; exact HRB.out.box
      have hB : Below w6.heap.size w6 w6 := Below.refl _ _
      clear b1 b3 blt flt f4 hlb
      refine wp_region_partsDC (WRw6 r db cd fb cf nf ix n pg q HS G vn hdv wrv bad er ls bx fo) 21 [[], [0], [0, 1], [0, 1, 2], [], [4], [4, 5], [4, 5, 6], [], [4, 5, 6, 7, 8], [4, 5, 6, 7, 8, 9], [4, 5, 6, 7, 8, 9, 10], [], [12], [12, 13], [12, 13, 14], [], [12, 13, 14, 15, 16], [12, 13, 14, 15, 16, 17], [12, 13, 14, 15, 16, 17, 18], [0, 1, 2, 3, 4, 5, 6, 7, 8, 9, 10, 11, 12, 13, 14, 15, 16, 17, 18, 19]] [some 48, some 49, some 50, some 51, some 52, some 53, some 54, some 55, some 56, some 57, some 58, some 59, some 60, some 61, some 62, some 63, some 64, some 65, some 66, some 67, some 68, none] (by kernel_rfl) (by kernel_rfl) rfl (PRw6 r db cd fb cf nf ix n pg q HS G vn hdv wrv bad er ls bx fo) (PRw6_stable r db cd fb cf nf ix n pg q HS G vn hdv wrv bad er ls bx fo ) ?pRw6 ?_
      case pRw6 =>
        intro i hi o ho vs lo hx_ w' hg hp
        match i, hi with
        | 0, _ =>
          obtain rfl := Option.some.inj ho
          clear ho
          simp only [actsD, List.getD_cons_zero, List.getD_cons_succ, List.foldl_cons, List.foldl_nil, Act.put, List.setIfInBounds_toArray, List.set_cons_succ, List.set_cons_zero]
          have hsz := hg.size
          have hgB : Below w6.heap.size w6 w' := hg.below (fun k hk => ⟨hk, fun o => by rintro ⟨j, _, _, _, hw⟩; exact False.elim hw⟩)
          go_wp2
          exact ⟨_, rfl, GrowC.refl _, rfl⟩
        | 1, _ =>
          obtain rfl := Option.some.inj ho
          clear ho
          simp only [actsD, List.getD_cons_zero, List.getD_cons_succ, List.foldl_cons, List.foldl_nil, Act.put, List.setIfInBounds_toArray, List.set_cons_succ, List.set_cons_zero]
          obtain ⟨_, _, _, h0⟩ := hp 0 (by simp)
          simp only [PRw6] at h0
          have hsz := hg.size
          have hgB : Below w6.heap.size w6 w' := hg.below (fun k hk => ⟨hk, fun o => by rintro ⟨j, _, _, _, hw⟩; exact False.elim hw⟩)
          rw [h0]
          go_wp2
          exact ⟨_, rfl, GrowC.refl _, rfl⟩
        | 2, _ =>
          obtain rfl := Option.some.inj ho
          clear ho
          simp only [actsD, List.getD_cons_zero, List.getD_cons_succ, List.foldl_cons, List.foldl_nil, Act.put, List.setIfInBounds_toArray, List.set_cons_succ, List.set_cons_zero]
          obtain ⟨_, _, _, h1⟩ := hp 1 (by simp)
          simp only [PRw6] at h1
          have hsz := hg.size
          have hgB : Below w6.heap.size w6 w' := hg.below (fun k hk => ⟨hk, fun o => by rintro ⟨j, _, _, _, hw⟩; exact False.elim hw⟩)
          rw [h1]
          go_wp2
          exact ⟨_, rfl, GrowC.refl _, rfl⟩
        | 3, _ =>
          obtain rfl := Option.some.inj ho
          clear ho
          simp only [actsD, List.getD_cons_zero, List.getD_cons_succ, List.foldl_cons, List.foldl_nil, Act.put, List.setIfInBounds_toArray, List.set_cons_succ, List.set_cons_zero]
          obtain ⟨_, _, _, h2⟩ := hp 2 (by simp)
          simp only [PRw6] at h2
          have hsz := hg.size
          have hgB : Below w6.heap.size w6 w' := hg.below (fun k hk => ⟨hk, fun o => by rintro ⟨j, _, _, _, hw⟩; exact False.elim hw⟩)
          rw [h2]
          have e0 := (hg.cell (r) 0 br.lt (by rintro ⟨j, _, hne, hb, hw⟩; exact False.elim hw)).trans (br.cell 0 _ rfl)
          go_wp2
          exact ⟨_, rfl, GrowC.refl _, rfl⟩
        | 4, _ =>
          obtain rfl := Option.some.inj ho
          clear ho
          simp only [actsD, List.getD_cons_zero, List.getD_cons_succ, List.foldl_cons, List.foldl_nil, Act.put, List.setIfInBounds_toArray, List.set_cons_succ, List.set_cons_zero]
          have hsz := hg.size
          have hgB : Below w6.heap.size w6 w' := hg.below (fun k hk => ⟨hk, fun o => by rintro ⟨j, _, _, _, hw⟩; exact False.elim hw⟩)
          go_wp2
          exact ⟨_, rfl, GrowC.refl _, rfl⟩
        | 5, _ =>
          obtain rfl := Option.some.inj ho
          clear ho
          simp only [actsD, List.getD_cons_zero, List.getD_cons_succ, List.foldl_cons, List.foldl_nil, Act.put, List.setIfInBounds_toArray, List.set_cons_succ, List.set_cons_zero]
          obtain ⟨_, _, _, h4⟩ := hp 4 (by simp)
          simp only [PRw6] at h4
          have hsz := hg.size
          have hgB : Below w6.heap.size w6 w' := hg.below (fun k hk => ⟨hk, fun o => by rintro ⟨j, _, _, _, hw⟩; exact False.elim hw⟩)
          rw [h4]
          go_wp2
          exact ⟨_, rfl, GrowC.refl _, rfl⟩
        | 6, _ =>
          obtain rfl := Option.some.inj ho
          clear ho
          simp only [actsD, List.getD_cons_zero, List.getD_cons_succ, List.foldl_cons, List.foldl_nil, Act.put, List.setIfInBounds_toArray, List.set_cons_succ, List.set_cons_zero]
          obtain ⟨_, _, _, h5⟩ := hp 5 (by simp)
          simp only [PRw6] at h5
          have hsz := hg.size
          have hgB : Below w6.heap.size w6 w' := hg.below (fun k hk => ⟨hk, fun o => by rintro ⟨j, _, _, _, hw⟩; exact False.elim hw⟩)
          rw [h5]
          go_wp2
          exact ⟨_, rfl, GrowC.refl _, rfl⟩
        | 7, _ =>
          obtain rfl := Option.some.inj ho
          clear ho
          simp only [actsD, List.getD_cons_zero, List.getD_cons_succ, List.foldl_cons, List.foldl_nil, Act.put, List.setIfInBounds_toArray, List.set_cons_succ, List.set_cons_zero]
          obtain ⟨_, _, _, h6⟩ := hp 6 (by simp)
          simp only [PRw6] at h6
          have hsz := hg.size
          have hgB : Below w6.heap.size w6 w' := hg.below (fun k hk => ⟨hk, fun o => by rintro ⟨j, _, _, _, hw⟩; exact False.elim hw⟩)
          rw [h6]
          have e0 := (hg.cell (r) 1 br.lt (by rintro ⟨j, _, hne, hb, hw⟩; exact False.elim hw)).trans (br.cell 1 _ rfl)
          go_wp2
          exact ⟨_, rfl, GrowC.refl _, rfl⟩
        | 8, _ =>
          obtain rfl := Option.some.inj ho
          clear ho
          simp only [actsD, List.getD_cons_zero, List.getD_cons_succ, List.foldl_cons, List.foldl_nil, Act.put, List.setIfInBounds_toArray, List.set_cons_succ, List.set_cons_zero]
          have hsz := hg.size
          have hgB : Below w6.heap.size w6 w' := hg.below (fun k hk => ⟨hk, fun o => by rintro ⟨j, _, _, _, hw⟩; exact False.elim hw⟩)
          go_wp2
          exact ⟨_, rfl, GrowC.refl _, rfl⟩
        | 9, _ =>
          obtain rfl := Option.some.inj ho
          clear ho
          simp only [actsD, List.getD_cons_zero, List.getD_cons_succ, List.foldl_cons, List.foldl_nil, Act.put, List.setIfInBounds_toArray, List.set_cons_succ, List.set_cons_zero]
          obtain ⟨_, _, _, h7⟩ := hp 7 (by simp)
          simp only [PRw6] at h7
          obtain ⟨_, _, _, h8⟩ := hp 8 (by simp)
          simp only [PRw6] at h8
          have hsz := hg.size
          have hgB : Below w6.heap.size w6 w' := hg.below (fun k hk => ⟨hk, fun o => by rintro ⟨j, _, _, _, hw⟩; exact False.elim hw⟩)
          rw [h7, h8]
          go_wp2
          exact ⟨_, rfl, GrowC.refl _, rfl⟩
        | 10, _ =>
          obtain rfl := Option.some.inj ho
          clear ho
          simp only [actsD, List.getD_cons_zero, List.getD_cons_succ, List.foldl_cons, List.foldl_nil, Act.put, List.setIfInBounds_toArray, List.set_cons_succ, List.set_cons_zero]
          obtain ⟨_, _, _, h9⟩ := hp 9 (by simp)
          simp only [PRw6] at h9
          have hsz := hg.size
          have hgB : Below w6.heap.size w6 w' := hg.below (fun k hk => ⟨hk, fun o => by rintro ⟨j, _, _, _, hw⟩; exact False.elim hw⟩)
          rw [h9]
          go_wp2
          exact ⟨_, rfl, GrowC.refl _, rfl⟩
        | 11, _ =>
          obtain rfl := Option.some.inj ho
          clear ho
          simp only [actsD, List.getD_cons_zero, List.getD_cons_succ, List.foldl_cons, List.foldl_nil, Act.put, List.setIfInBounds_toArray, List.set_cons_succ, List.set_cons_zero]
          obtain ⟨_, _, _, h10⟩ := hp 10 (by simp)
          simp only [PRw6] at h10
          have hsz := hg.size
          have hgB : Below w6.heap.size w6 w' := hg.below (fun k hk => ⟨hk, fun o => by rintro ⟨j, _, _, _, hw⟩; exact False.elim hw⟩)
          rw [h10]
          have e9 := (hg.cell fb (ix * 6) HRB.out.fl.2 (by rintro ⟨j, _, hne, hb, hw⟩; exact hw)).trans HE0.out
          go_wp2
          exact ⟨_, rfl, GrowC.refl _, rfl⟩
        | 12, _ =>
          obtain rfl := Option.some.inj ho
          clear ho
          simp only [actsD, List.getD_cons_zero, List.getD_cons_succ, List.foldl_cons, List.foldl_nil, Act.put, List.setIfInBounds_toArray, List.set_cons_succ, List.set_cons_zero]
          have hsz := hg.size
          have hgB : Below w6.heap.size w6 w' := hg.below (fun k hk => ⟨hk, fun o => by rintro ⟨j, _, _, _, hw⟩; exact False.elim hw⟩)
          go_wp2
          exact ⟨_, rfl, GrowC.refl _, rfl⟩
        | 13, _ =>
          obtain rfl := Option.some.inj ho
          clear ho
          simp only [actsD, List.getD_cons_zero, List.getD_cons_succ, List.foldl_cons, List.foldl_nil, Act.put, List.setIfInBounds_toArray, List.set_cons_succ, List.set_cons_zero]
          obtain ⟨_, _, _, h12⟩ := hp 12 (by simp)
          simp only [PRw6] at h12
          have hsz := hg.size
          have hgB : Below w6.heap.size w6 w' := hg.below (fun k hk => ⟨hk, fun o => by rintro ⟨j, _, _, _, hw⟩; exact False.elim hw⟩)
          rw [h12]
          go_wp2
          exact ⟨_, rfl, GrowC.refl _, rfl⟩
        | 14, _ =>
          obtain rfl := Option.some.inj ho
          clear ho
          simp only [actsD, List.getD_cons_zero, List.getD_cons_succ, List.foldl_cons, List.foldl_nil, Act.put, List.setIfInBounds_toArray, List.set_cons_succ, List.set_cons_zero]
          obtain ⟨_, _, _, h13⟩ := hp 13 (by simp)
          simp only [PRw6] at h13
          have hsz := hg.size
          have hgB : Below w6.heap.size w6 w' := hg.below (fun k hk => ⟨hk, fun o => by rintro ⟨j, _, _, _, hw⟩; exact False.elim hw⟩)
          rw [h13]
          go_wp2
          exact ⟨_, rfl, GrowC.refl _, rfl⟩
        | 15, _ =>
          obtain rfl := Option.some.inj ho
          clear ho
          simp only [actsD, List.getD_cons_zero, List.getD_cons_succ, List.foldl_cons, List.foldl_nil, Act.put, List.setIfInBounds_toArray, List.set_cons_succ, List.set_cons_zero]
          obtain ⟨_, _, _, h14⟩ := hp 14 (by simp)
          simp only [PRw6] at h14
          have hsz := hg.size
          have hgB : Below w6.heap.size w6 w' := hg.below (fun k hk => ⟨hk, fun o => by rintro ⟨j, _, _, _, hw⟩; exact False.elim hw⟩)
          rw [h14]
          have e0 := (hg.cell (r) 1 br.lt (by rintro ⟨j, _, hne, hb, hw⟩; exact False.elim hw)).trans (br.cell 1 _ rfl)
          go_wp2
          exact ⟨_, rfl, GrowC.refl _, rfl⟩
        | 16, _ =>
          obtain rfl := Option.some.inj ho
          clear ho
          simp only [actsD, List.getD_cons_zero, List.getD_cons_succ, List.foldl_cons, List.foldl_nil, Act.put, List.setIfInBounds_toArray, List.set_cons_succ, List.set_cons_zero]
          have hsz := hg.size
          have hgB : Below w6.heap.size w6 w' := hg.below (fun k hk => ⟨hk, fun o => by rintro ⟨j, _, _, _, hw⟩; exact False.elim hw⟩)
          go_wp2
          exact ⟨_, rfl, GrowC.refl _, rfl⟩
        | 17, _ =>
          obtain rfl := Option.some.inj ho
          clear ho
          simp only [actsD, List.getD_cons_zero, List.getD_cons_succ, List.foldl_cons, List.foldl_nil, Act.put, List.setIfInBounds_toArray, List.set_cons_succ, List.set_cons_zero]
          obtain ⟨_, _, _, h15⟩ := hp 15 (by simp)
          simp only [PRw6] at h15
          obtain ⟨_, _, _, h16⟩ := hp 16 (by simp)
          simp only [PRw6] at h16
          have hsz := hg.size
          have hgB : Below w6.heap.size w6 w' := hg.below (fun k hk => ⟨hk, fun o => by rintro ⟨j, _, _, _, hw⟩; exact False.elim hw⟩)
          rw [h15, h16]
          go_wp2
          exact ⟨_, rfl, GrowC.refl _, rfl⟩
        | 18, _ =>
          obtain rfl := Option.some.inj ho
          clear ho
          simp only [actsD, List.getD_cons_zero, List.getD_cons_succ, List.foldl_cons, List.foldl_nil, Act.put, List.setIfInBounds_toArray, List.set_cons_succ, List.set_cons_zero]
          obtain ⟨_, _, _, h17⟩ := hp 17 (by simp)
          simp only [PRw6] at h17
          have hsz := hg.size
          have hgB : Below w6.heap.size w6 w' := hg.below (fun k hk => ⟨hk, fun o => by rintro ⟨j, _, _, _, hw⟩; exact False.elim hw⟩)
          rw [h17]
          go_wp2
          exact ⟨_, rfl, GrowC.refl _, rfl⟩
        | 19, _ =>
          obtain rfl := Option.some.inj ho
          clear ho
          simp only [actsD, List.getD_cons_zero, List.getD_cons_succ, List.foldl_cons, List.foldl_nil, Act.put, List.setIfInBounds_toArray, List.set_cons_succ, List.set_cons_zero]
          obtain ⟨_, _, _, h18⟩ := hp 18 (by simp)
          simp only [PRw6] at h18
          have hsz := hg.size
          have hgB : Below w6.heap.size w6 w' := hg.below (fun k hk => ⟨hk, fun o => by rintro ⟨j, _, _, _, hw⟩; exact False.elim hw⟩)
          rw [h18]
          have e9 := (hg.cell fb (ix * 6 + 1) HRB.out.fl.2 (by rintro ⟨j, _, hne, hb, hw⟩; exact hw)).trans HE1.out
          simp only [S8] at e9
          go_wp2
          exact ⟨_, rfl, GrowC.refl _, rfl⟩
        | 20, _ =>
          obtain rfl := Option.some.inj ho
          clear ho
          simp only [actsD, List.getD_cons_zero, List.getD_cons_succ, List.foldl_cons, List.foldl_nil, Act.put, List.setIfInBounds_toArray, List.set_cons_succ, List.set_cons_zero]
          obtain ⟨_, _, _, h3⟩ := hp 3 (by simp)
          simp only [PRw6] at h3
          obtain ⟨_, _, _, h11⟩ := hp 11 (by simp)
          simp only [PRw6] at h11
          have hsz := hg.size
          have hgB : Below w6.heap.size w6 w' := hg.below (fun k hk => ⟨hk, fun o => by rintro ⟨j, _, _, _, hw⟩; exact False.elim hw⟩)
          rw [h3, h11]
          go_wp2
          exact ⟨_, rfl, GrowC.refl _, rfl⟩
        | (q + 21), hq => exact absurd hq (by omega)
      intro vS lo hi w7 hg hp hd
      obtain ⟨_, _, _, h0⟩ := hp 0 (by decide)
      obtain ⟨_, _, _, h1⟩ := hp 1 (by decide)
      obtain ⟨_, _, _, h2⟩ := hp 2 (by decide)
      obtain ⟨_, _, _, h3⟩ := hp 3 (by decide)
      obtain ⟨_, _, _, h4⟩ := hp 4 (by decide)
      obtain ⟨_, _, _, h5⟩ := hp 5 (by decide)
      obtain ⟨_, _, _, h6⟩ := hp 6 (by decide)
      obtain ⟨_, _, _, h7⟩ := hp 7 (by decide)
      obtain ⟨_, _, _, h8⟩ := hp 8 (by decide)
      obtain ⟨_, _, _, h9⟩ := hp 9 (by decide)
      obtain ⟨_, _, _, h10⟩ := hp 10 (by decide)
      obtain ⟨_, _, _, h11⟩ := hp 11 (by decide)
      obtain ⟨_, _, _, h12⟩ := hp 12 (by decide)
      obtain ⟨_, _, _, h13⟩ := hp 13 (by decide)
      obtain ⟨_, _, _, h14⟩ := hp 14 (by decide)
      obtain ⟨_, _, _, h15⟩ := hp 15 (by decide)
      obtain ⟨_, _, _, h16⟩ := hp 16 (by decide)
      obtain ⟨_, _, _, h17⟩ := hp 17 (by decide)
      obtain ⟨_, _, _, h18⟩ := hp 18 (by decide)
      obtain ⟨_, _, _, h19⟩ := hp 19 (by decide)
      obtain ⟨_, _, _, h20⟩ := hp 20 (by decide)
      simp only [PRw6] at h0 h1 h2 h3 h4 h5 h6 h7 h8 h9 h10 h11 h12 h13 h14 h15 h16 h17 h18 h19 h20
      clear hp hd
      have hsz := hg.size
      replace br := br.grow hg (by intro i _; rintro ⟨j, _, hw⟩; exact False.elim hw)
      replace hB := hB.trans (hg.below (fun k hk => ⟨by omega, fun o => by rintro ⟨j, _, hw⟩; exact False.elim hw⟩))
      have hr : List.range 21 = [0, 1, 2, 3, 4, 5, 6, 7, 8, 9, 10, 11, 12, 13, 14, 15, 16, 17, 18, 19, 20] := rfl
      rw [hr]
      clear hr
      simp only [List.drop_succ_cons, List.drop_zero, List.drop_nil, actsD, List.getD_cons_zero, List.getD_cons_succ, List.foldl_cons, List.foldl_nil, Act.put, List.setIfInBounds_toArray, List.set_cons_succ, List.set_cons_zero, h0, h1, h2, h3, h4, h5, h6, h7, h8, h9, h10, h11, h12, h13, h14, h15, h16, h17, h18, h19, h20]
      clear h0 h1 h2 h3 h4 h5 h6 h7 h8 h9 h10 h11 h12 h13 h14 h15 h16 h17 h18 h19 h20
      have hgr7 : GrowX (fun _ => False) w6 w7 := grow_below hB
      have HRC := Lib.hid (HRB.out.grow hgr7 (fun _ _ h => h))
      have HG7 : Hid (GrowX (ownR r db fb vo) w w7) := Lib.hid (HG6.out.step hgr7 (fun _ _ h => h.elim))
      have dq := HRC.out.dcell q hqpg
      have dfz := HRC.out.dfz
      have dlt := HRC.out.dl.2
      have g6 := HRC.out.box.cell 6 _ rfl
      have gfz := HRC.out.box.free
      have glt := HRC.out.box.lt
      have hrd := HRC.out.rd
      have hwp : wrap64 ((p.wr : Int) + 1) = ((p.wr + 1 : Nat) : Int) := by rw [wrap64]; omega
      simp only [S8] at dq ⊢
      clear hB hg hsz br hgr7
      go_wp2_with fail
      go_ret
      have hE : p.rwrite bad er fo ix = (0, { p with wr := p.wr + 1, P := putP p.P q bx }, fo ++ [ls]) := by unfold Pl.rwrite; rw [HPF.out, if_pos rfl, if_neg hls]; rfl
      rw [hE]
      obtain ⟨a1, a2⟩ := HRC.out.setD q hqpg bx
      obtain ⟨c1, c2⟩ := a1.setWr (p.wr + 1)
      rw [← HG.out] at c1
      obtain ⟨z1, z2⟩ := RV.again c1 H2.out (ownR_low H0.out) H3.out ((HG7.out.step a2 (fun k _ e => .inr (.inl e))).step c2 (fun k _ e => .inl e)) HVS.out ⟨H4.out.len, H4.out.n1, H4.out.n64, H4.out.hand, H4.out.fr, by show p.wr + 1 ≤ 1000000000; omega⟩ (by rw [HLEN.out]; omega)
      first | exact ⟨_, rfl, z1, z2⟩ | exact ⟨rfl, _, z1, z2⟩
end
end Go.Proofs.Ytdnjjdpenfhpeaa

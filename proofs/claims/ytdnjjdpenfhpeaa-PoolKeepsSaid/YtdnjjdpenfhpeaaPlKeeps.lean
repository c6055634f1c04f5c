/- The law PoolKeeps. Conditions: none. -/
import Derived.Test.YtdnjjdpenfhpeaaPlKeepsP
namespace Go.Proofs.Ytdnjjdpenfhpeaa
set_option linter.unusedSimpArgs false
set_option linter.unusedVariables false
open Go.RowKit

/-- the variable top, and the closure over it -/
def TF (W0 : World) (tb : Nat) : Int → (Nat → Prop) → World → Prop := fun t S w => S = (fun k => k = tb) ∧ W0.heap.size ≤ tb ∧ Box w tb [.int .i64 t] ∧ Below W0.heap.size W0 w
set_option maxRecDepth 100000 in
theorem force_keeps (W0 : World) (tb : Nat) : ForceOf W0 26 #[.pointer (some ⟨tb, 0, none⟩)] (TF W0 tb) stepK where
  enter := enters_of Try.func26 (by kernel_rfl) rfl
  ans s S w l h := by
    obtain ⟨rfl, h1, h2, h3⟩ := h
    show Calls Try.prog _ #[.int .i64 l, .pointer (some ⟨tb, 0, none⟩)] w _
    have c0 := h2.cell 0 _ rfl
    have cf := h2.free
    have clt := h2.lt
    have H2 := Lib.hid h2
    have H3 := Lib.hid h3
    clear h2 h3
    go_enter Try.func26, Try.ntmps26
    go_wp2_with fail
    go_ret
    have k1 := H2.out.setCell 0 (.int .i64 (max s l))
    have k2 := growX_setCell w tb 0 (.int .i64 (max s l))
    exact ⟨_, rfl, ⟨rfl, h1, k1, H3.out.trans (k2.below (fun k hk => ⟨Nat.lt_of_lt_of_le hk H3.out.size, fun e => by omega⟩))⟩, k2, fun k hk => .inl hk⟩
  grow s S X w w' h hg hX hB := by
    obtain ⟨rfl, h1, h2, h3⟩ := h
    exact ⟨rfl, h1, h2.growx hg (fun hx => hX tb rfl hx), hB⟩
  lt s S w h := by
    obtain ⟨rfl, h1, h2, h3⟩ := h
    rintro k rfl
    exact ⟨h1, h2.lt⟩
  bel s S w h := h.2.2.2
theorem str_apart {a b : List UInt8} (h : a ≠ b) : ((⟨a.toArray⟩ : ByteArray).toList == (⟨b.toArray⟩ : ByteArray).toList) = false := by
  rw [beq_eq_false_iff_ne]
  intro e
  rw [ByteArray.toList_eq, ByteArray.toList_eq] at e
  exact h e
theorem mod10 (x : Int) : ∃ q : Nat, q < 10 ∧ Int.tmod (wrap64 (Int.tmod x 10 + 10)) 10 = (q : Int) := by
  have h1 : -10 < Int.tmod x 10 ∧ Int.tmod x 10 < 10 := by
    constructor
    · have := Int.lt_tmod_of_pos x (show (0 : Int) < 10 by decide); omega
    · exact Int.tmod_lt_of_pos x (by decide)
  have h2 := Int.tmod_lt_of_pos (Int.tmod x 10 + 10) (show (0 : Int) < 10 by decide)
  have h3 := Int.tmod_nonneg 10 (show 0 ≤ Int.tmod x 10 + 10 by omega)
  have h4 : wrap64 (Int.tmod x 10 + 10) = Int.tmod x 10 + 10 := by rw [wrap64]; omega
  rw [h4]
  exact ⟨(Int.tmod (Int.tmod x 10 + 10) 10).toNat, by omega, by omega⟩
theorem kp_le {p : Pl} {top : Int} {is : Nat → Int} (h : KInv p.F p.P top is) {n : Nat} (hok : p.ok 10 n) {q : Nat} (hq : q < 10) (k : Int) (hk : 1 ≤ k) : top ≤ (p.put 10 stepK top (q : Nat) (pageL 7 k) k).2.2 := by
  unfold Pl.put
  split
  · cases hf : findL p.F (q : Nat) with
    | some i => exact Int.le_refl _
    | none =>
      have := (kp_free h hok).2.1.le
      simp only []
      split
      · exact this
      · exact this
  · exact Int.le_refl _
theorem kp_le2 {p : Pl} {top : Int} {is : Nat → Int} (h : KInv p.F p.P top is) {n : Nat} (hok : p.ok 10 n) (m : Int) : top ≤ (p.get 10 stepK top m).2.2.2 := by
  unfold Pl.get
  cases hf : findL p.F m with
  | some i => exact Int.le_refl _
  | none =>
    have := (kp_free h hok).2.1.le
    simp only []
    split
    · unfold Pl.got
      split
      · exact this
      · exact this
    · exact Int.le_refl _
/-- where PoolKeeps stands -/
structure KAt (w : World) (g f dd n tb b1 : Nat) (N : Int) (M : Nat) (p : Pl) (top : Int) (is : Nat → Int) (S : Nat → Prop) (wr : World) : Prop where
  pv : PV w g n f dd 0 10 (.func (.func 26) #[] #[.pointer (some ⟨tb, 0, none⟩)]) (TF w tb) p top S wr
  x1 : Box wr b1 (arr is 10)
  n1 : w.heap.size ≤ b1
  s1 : ¬ S b1
  inv : KInv p.F p.P top is
  t0 : 0 ≤ top
  tN : top ≤ N
  i0 : ∀ q, q < 10 → 0 ≤ is q ∧ is q ≤ N
  wr : p.wr ≤ M
theorem PV.top {W0 w : World} {g n f d fr pg tb : Nat} {fv : Value} {p : Pl} {t : Int} {S : Nat → Prop} (h : PV W0 g n f d fr pg fv (TF W0 tb) p t S w) : Box w tb [.int .i64 t] := by
  obtain ⟨lb, E, K, S1, S2, I1, I2, I3, I4, _⟩ := h
  exact I4.2.2.1

def WKp35 (HS cx2 : Nat) (ax2 : Option Addr) (lv : Int) (bv bb : List UInt8) (j b o : Nat) : Prop := False
def PKp35 (HS cx2 : Nat) (ax2 : Option Addr) (lv : Int) (bv bb : List UInt8) (i : Nat) (v : Value) (lo hi : Nat) (w : World) : Prop :=
  match i with
  | 0 => v = .slice ax2 512 cx2
  | 1 => v = .string ⟨bv.toArray⟩
  | 2 => v = .int .i64 lv
  | 3 => ∃ g, v = .slice (some ⟨g, 0, none⟩) 512 512 ∧ Buf w g bb
  | 4 => v = .string ⟨bb.toArray⟩
  | 5 => v = .bool false
  | 6 => v = .bool false
  | 7 => v = undef
  | 8 => v = undef
  | 9 => v = undef
  | _ => True
theorem PKp35_stable (HS cx2 : Nat) (ax2 : Option Addr) (lv : Int) (bv bb : List UInt8)  : ∀ i j, i < 10 → j < 10 → j ≠ i → j ∉ ([[], [0], [], [2], [2, 3], [0, 1, 2, 3, 4], [0, 1, 2, 3, 4, 5], [0, 1, 2, 3, 4, 5, 6], [0, 1, 2, 3, 4, 5, 6, 7], [0, 1, 2, 3, 4, 5, 6, 7, 8]] : List (List Nat)).getD i [] → ∀ v lo hi w w', PKp35 HS cx2 ax2 lv bv bb i v lo hi w → GrowC (WKp35 HS cx2 ax2 lv bv bb j) w w' → PKp35 HS cx2 ax2 lv bv bb i v lo hi w' := by
  intro i j hi hj hne hbs v lo hj2 w w' h hg
  match i, hi with
  | 0, _ =>
    simp only [PKp35] at h ⊢
    exact h
  | 1, _ =>
    simp only [PKp35] at h ⊢
    exact h
  | 2, _ =>
    simp only [PKp35] at h ⊢
    exact h
  | 3, _ =>
    simp only [PKp35] at h ⊢
    obtain ⟨g, h1, h2⟩ := h
    exact ⟨g, h1, h2.growx (GrowX.of_growC hg (Y := fun _ => False) (fun k o h => h)) (fun h => h)⟩
  | 4, _ =>
    simp only [PKp35] at h ⊢
    exact h
  | 5, _ =>
    simp only [PKp35] at h ⊢
    exact h
  | 6, _ =>
    simp only [PKp35] at h ⊢
    exact h
  | 7, _ =>
    simp only [PKp35] at h ⊢
    exact h
  | 8, _ =>
    simp only [PKp35] at h ⊢
    exact h
  | 9, _ =>
    simp only [PKp35] at h ⊢
    exact h
  | (q + 10), hq => exact absurd hq (by omega)

set_option maxRecDepth 100000 in
set_option maxHeartbeats 6400000 in
theorem keeps_any (nf : Int) (sc : List Xop) (v : Value) (n : Nat) (hl : sc.length = n) (hn : n ≤ 9223372036854775807) (w : World) (hv : Reads 4 w v n (xcells sc)) :
    Calls Try.prog 5 #[.int .i64 nf, v] w fun e w' => e = .returned (.bool true) ∧ Below w.heap.size w w' := by
  have HV := Lib.hid hv
  have HL := Lib.hid hl
  obtain ⟨av, cv, rfl, _⟩ := hv
  clear hl
  go_enter Try.func5, Try.ntmps5
  go_wp2_with fail
  refine (dnew_dv w w (Below.refl _ _) 60 (by decide) (by decide)).mono ?_
  rintro e y1 ⟨dd, Sd, rfl, hdv, hnw, hbl⟩
  have HD := Lib.hid hdv
  clear hdv hnw hbl
  go_wp2_with fail
  refine (fopen_dv HD.out (new_good (by decide)) (by decide) 0 10 (by decide) (by decide) (new_sec _ _)).mono ?_
  rintro e y2 ⟨f, Sf, rfl, hfv, _⟩
  have HFV : Hid (FV w f dd 0 10 P0 Sf y2) := Lib.hid (hfv.ext (fun q hq => new_page _ _))
  clear hfv
  go_wp2_with fail
  have hal : Below y2.heap.size y2 (y2.alloc (.cells #[.int .i64 0] 3)) := (Below.refl _ _).alloc (Nat.le_refl _) _
  have hbt := Box.new y2 #[.int .i64 0] 3 rfl
  have HFV2 := Lib.hid (HFV.out.below hal)
  have hsz2 := HFV.out.bel.size
  obtain ⟨tb, htb⟩ : ∃ x, y2.heap.size = x := ⟨_, rfl⟩
  rw [htb] at hbt ⊢
  have HTB := Lib.hid htb
  have HSF : Hid (∀ k, Sf k → k ≠ tb) := Lib.hid (fun k hk => by have := (HFV.out.lt k hk).2; omega)
  have HBT := Lib.hid hbt
  clear htb hbt hal
  generalize y2.alloc (.cells #[.int .i64 0] 3) = yt at *
  have HF := Lib.hid (force_keeps w tb)
  by_cases hnf : nf < 1 ∨ 64 < nf
  case pos =>
    refine (pnew_bad _ f nf hnf _ _).mono ?_
    rintro e y3 ⟨rfl, rfl⟩
    go_wp2_with fail
    refine (awake_any _).mono ?_
    rintro e wz ⟨rfl, hbz⟩
    have HBZ := Lib.hid hbz
    clear hbz
    go_wp2_with fail
    go_ret
    exact ⟨rfl, HFV2.out.bel.trans (HBZ.out.mono HFV2.out.bel.size)⟩
  obtain ⟨nn, rfl⟩ := Int.eq_ofNat_of_zero_le (show 0 ≤ nf by omega)
  have hnn : 1 ≤ nn ∧ nn ≤ 64 := by omega
  refine (pnew_pv (n := nn) HF.out HFV2.out (s := (0 : Int)) (S2 := fun k => k = tb) ⟨rfl, by have := HTB.out; omega, HBT.out, HFV2.out.bel⟩ (fun k hk e => HSF.out k hk e) hnn.1 hnn.2).mono ?_
  rintro e y3 ⟨g, S3, rfl, hpv, _⟩
  have HPV3 := Lib.hid hpv
  clear hpv hnf
  go_wp2_with fail
  have hcat : ∃ b1, b1 = y3.heap.size ∧ KAt w g f dd nn tb b1 0 0 (Pl.new nn P0) 0 (fun _ => 0) S3 (y3.alloc (.cells #[.int .i64 0, .int .i64 0, .int .i64 0, .int .i64 0, .int .i64 0, .int .i64 0, .int .i64 0, .int .i64 0, .int .i64 0, .int .i64 0] 66)) := by
    refine ⟨_, rfl, ?_⟩
    have hb1 : Below y3.heap.size y3 (y3.alloc (.cells #[.int .i64 0, .int .i64 0, .int .i64 0, .int .i64 0, .int .i64 0, .int .i64 0, .int .i64 0, .int .i64 0, .int .i64 0, .int .i64 0] 66)) := (Below.refl _ _).alloc (Nat.le_refl _) _
    have hbs := HPV3.out.bel.size
    exact ⟨HPV3.out.below HF.out hb1, Box.new _ _ _ rfl, hbs, fun hs => by have := (HPV3.out.lt HF.out _ hs).2; omega, KInv.new nn, Int.le_refl _, Int.le_refl _, fun q _ => ⟨Int.le_refl _, Int.le_refl _⟩, Nat.zero_le _⟩
  obtain ⟨b1, hb1, hc0⟩ := hcat
  rw [← hb1]
  have HC0 := Lib.hid hc0
  clear hb1 hc0
  generalize y3.alloc (.cells #[.int .i64 0, .int .i64 0, .int .i64 0, .int .i64 0, .int .i64 0, .int .i64 0, .int .i64 0, .int .i64 0, .int .i64 0, .int .i64 0] 66) = y4 at HC0 ⊢
  go_loopw [13] (fun i wr => ∃ (k : Nat) (p : Pl) (top : Int) (is : Nat → Int) (S : Nat → Prop), k ≤ n ∧ k ≤ 80 ∧ i = .int .i64 k ∧ KAt w g f dd nn tb b1 k (2 * k) p top is S wr) (fun i _ => n - (intOf i).toNat)
  case atStart => exact ⟨0, Pl.new nn P0, 0, _, S3, Nat.zero_le _, Nat.zero_le _, rfl, HC0.out⟩
  case round =>
    obtain ⟨k, p, top, is, S, hk, hk60, rfl, hat⟩ := hrel
    have HAT := Lib.hid hat
    clear hat HC0
    by_cases hlt : k < n
    case neg =>
      have hb1 : decide (k < n) = false := by simpa using hlt
      go_wp2_with fail
      refine (awake_any _).mono ?_
      rintro e wz ⟨rfl, hbz⟩
      have HBZ := Lib.hid hbz
      clear hbz
      go_wp2_with fail
      go_ret
      exact ⟨rfl, HAT.out.pv.bel.trans (HBZ.out.mono HAT.out.pv.bel.size)⟩
    have hb1 : decide (k < n) = true := by simpa using hlt
    by_cases h60 : k < 80
    case neg =>
      have hb2 : decide (k < 80) = false := by simpa using h60
      have hb3 : decide ((k : Int) < 80) = false := by simp; omega
      go_wp2_with fail
      refine (awake_any _).mono ?_
      rintro e wz ⟨rfl, hbz⟩
      have HBZ := Lib.hid hbz
      clear hbz
      go_wp2_with fail
      go_ret
      exact ⟨rfl, HAT.out.pv.bel.trans (HBZ.out.mono HAT.out.pv.bel.size)⟩
    have hb3 : decide ((k : Int) < 80) = true := by simp; omega
    have hkl : k < sc.length := by rw [HL.out]; exact hlt
    obtain ⟨b, o, c', e, hb, hc1, hc2, _, _⟩ := Xops.at HV.out k hlt sc[k] (List.getElem?_eq_getElem hkl)
    injection e with e1 e2 e3
    subst e1 e3
    generalize sc[k] = x at *
    obtain ⟨xk, xp, xa, xl⟩ := x
    have HAT0 := HAT.out.pv.bel
    have hd1 := (HAT0.cell (p := ⟨b, o + k * 4, none⟩) hb).trans hc1
    have hd2 := (HAT0.cell (p := ⟨b, o + k * 4 + 1, none⟩) hb).trans hc2
    try simp only at hd1 hd2
    obtain ⟨q, hq6, hq⟩ := mod10 xp
    have hbw : b < wr.heap.size := Nat.lt_of_lt_of_le hb HAT0.size
    have hw60 : p.wr ≤ 2 * k := HAT.out.wr
    have hwr1 : p.wr + 1 ≤ 1000000000 := by omega
    clear hc1 hc2 hkl e2 HAT0
    go_upto_block 2 with (fail)
    clear hd1 hd2 hb hbw hq
    have hNB : ∀ q, q < 10 → is q ≤ (k : Int) + 1 := fun q hq => by have := (HAT.out.i0 q hq).2; omega
    have htB : top ≤ (k : Int) + 1 := by have := HAT.out.tN; omega
    have HNB := Lib.hid hNB
    have HTBN := Lib.hid htB
    clear hNB htB
    go_cut [] (fun wx => ∃ (p' : Pl) (top' : Int) (is' : Nat → Int) (S' : Nat → Prop), KAt w g f dd nn tb b1 ((k : Int) + 1) (2 * k + 1) p' top' is' S' wx)
    case first =>
      by_cases hx1 : xk = 1
      case pos =>
        have hkb : (xk == 1) = true := by simpa using hx1
        clear hx1
        obtain ⟨hr1, hinv, hup, hwr'⟩ := kp_put HAT.out.inv HAT.out.pv.ok hq6 ((k : Int) + 1) (by omega)
        obtain ⟨r, hr⟩ : ∃ r, p.put 10 stepK top (q : Nat) (pageL 7 ((k : Int) + 1)) ((k : Int) + 1) = r := ⟨_, rfl⟩
        rw [hr] at hr1 hinv hwr' hup
        obtain ⟨re, p', top'⟩ := r
        simp only at hr1 hinv hwr' hup
        subst hr1
        have HINV := Lib.hid hinv
        have HWR := Lib.hid hwr'
        have HUP := Lib.hid (hup _ HTBN.out HNB.out)
        have HR := Lib.hid hr
        have hwk1 : wrap64 ((k : Int) + 1) = (k : Int) + 1 := by rw [wrap64]; omega
        clear hr hinv hwr' hup
        go_wp2_with fail
        refine (page_any _ 7 ((k : Int) + 1)).mono ?_
        rintro e y4 ⟨gb, rfl, hbuf, hgb, hgr⟩
        have hb4 : Below wr.heap.size wr y4 := ⟨hgr.os, hgr.tape, hgr.output, hgr.size, fun k hk => hgr.block k hk (fun h => h)⟩
        have hpv4 := HAT.out.pv.below HF.out hb4
        have hput := put_good HF.out hpv4 (q : Nat) ⟨by omega, by show (q : Int) < ((10 : Nat) : Int); omega⟩ (pageL 7 ((k : Int) + 1)) (pageL_len _ _) ((k : Int) + 1) (by omega) _ (hbuf.reads512 (pageL_len _ _)) (fun k e hs => by have e2 : gb = k := (by simpa [Value.ownBlock] using e); have := (HAT.out.pv.lt HF.out k hs).2; omega) hwr1
        rw [HR.out] at hput
        have HPUT := Lib.hid hput
        have HB1 : Hid (Box y4 b1 (arr is 10)) := Lib.hid (HAT.out.x1.below hb4 (Nat.le_refl _))
        clear hbuf hgb hgr hb4 hpv4 hput
        go_wp2_with fail
        refine HPUT.out.mono ?_
        rintro e wz ⟨S', rfl, hpv, hft⟩
        have z1 := HB1.out.growx hft.grow HAT.out.s1
        have hlt1 := HB1.out.lt
        have HZ3 : Hid (¬ S' b1) := Lib.hid (fun hs => (hft.new b1 hs).elim HAT.out.s1 (fun e => by omega))
        have cq := z1.cell q _ (arr_at is hq6)
        have cfz := z1.free
        have clt := z1.lt
        have HPV := Lib.hid hpv
        have HZ1 := Lib.hid z1
        have HT0 : Hid (0 ≤ top') := Lib.hid (by have h := HPUT.out; have := HAT.out.t0; have hk := kp_le HAT.out.inv HAT.out.pv.ok hq6 ((k : Int) + 1) (by omega); rw [HR.out] at hk; exact Int.le_trans this hk)
        clear hpv hft z1 hlt1
        go_wp2_with fail
        go_meet
        have hg := growX_setCell wz b1 q (.int .i64 ((k : Int) + 1))
        have hz := HZ1.out.setCell q (.int .i64 ((k : Int) + 1))
        rw [arr_set is hq6] at hz
        exact ⟨p', top', _, S', HPV.out.grow HF.out hg (fun k hs e => HZ3.out (e ▸ hs)) (HPV.out.bel.trans (hg.below (fun k hk => ⟨Nat.lt_of_lt_of_le hk HPV.out.bel.size, fun e => by have := HAT.out.n1; omega⟩))), hz, HAT.out.n1, HZ3.out, HINV.out, HT0.out, HUP.out, fun r hr => by unfold upd; split; exact ⟨by omega, by omega⟩; exact ⟨(HAT.out.i0 r hr).1, HNB.out r hr⟩, by have := HWR.out; omega⟩
      case neg =>
        have hkb : (xk == 1) = false := by simpa using hx1
        clear hx1
        by_cases hx2 : xk = 2
        case pos =>
          have hkb2 : (xk == 2) = true := by simpa using hx2
          clear hx2
          obtain ⟨hr1, hst, hfn⟩ := kp_evict HAT.out.inv hq6
          have hev := evict_pv HF.out HAT.out.pv (q : Nat) hwr1
          obtain ⟨r, hr⟩ : ∃ r, p.evict stepK top (q : Nat) = r := ⟨_, rfl⟩
          rw [hr] at hev hr1 hst hfn
          obtain ⟨re, p', top'⟩ := r
          simp only at hr1 hst hfn
          subst hr1
          have HEV := Lib.hid hev
          have HST := Lib.hid hst
          have HFN := Lib.hid hfn
          clear hev hr hst hfn
          go_wp2_with fail
          refine HEV.out.mono ?_
          rintro e wz ⟨S', rfl, hpv, hft⟩
          have z1 := HAT.out.x1.growx hft.grow HAT.out.s1
          have hlt1 := HAT.out.x1.lt
          have HZ3 : Hid (¬ S' b1) := Lib.hid (fun hs => (hft.new b1 hs).elim HAT.out.s1 (fun e => by omega))
          have HPV := Lib.hid hpv
          have HZ1 := Lib.hid z1
          have hhas := has_pv HF.out hpv (q : Nat)
          rw [HFN.out] at hhas
          have HHAS := Lib.hid hhas
          clear hpv hft z1 hlt1 hhas
          go_wp2_with fail
          refine HHAS.out.mono ?_
          rintro e wy ⟨rfl, hpv, hbl⟩
          have HPVY := Lib.hid hpv
          have HZY := Lib.hid (HZ1.out.below hbl (Nat.le_refl _))
          clear hpv hbl
          go_wp2_with fail
          go_meet
          exact ⟨p', top', is, S', HPVY.out, HZY.out, HAT.out.n1, HZ3.out, HST.out.inv, Int.le_trans HAT.out.t0 HST.out.le, HST.out.up _ HTBN.out HNB.out, fun r hr => ⟨(HAT.out.i0 r hr).1, HNB.out r hr⟩, by have := HST.out.wr; omega⟩
        case neg =>
          have hkb2 : (xk == 2) = false := by simpa using hx2
          clear hx2
          go_wp2_with fail
          go_meet
          exact ⟨p, top, is, S, HAT.out.pv, HAT.out.x1, HAT.out.n1, HAT.out.s1, HAT.out.inv, HAT.out.t0, HTBN.out, fun r hr => ⟨(HAT.out.i0 r hr).1, HNB.out r hr⟩, by omega⟩
    case rest =>
      obtain ⟨p', top', is', S', hat'⟩ := hcut
      have HA := Lib.hid hat'
      have hwr2 : p'.wr + 1 ≤ 1000000000 := by have := hat'.wr; omega
      clear hat' HAT hw60 hwr1 HNB HTBN
      obtain ⟨hr1, hr2, hinv, hup, hwr'⟩ := kp_get HA.out.inv HA.out.pv.ok hq6
      have hle := kp_le2 HA.out.inv HA.out.pv.ok (q : Nat)
      have hget := get_pv HF.out HA.out.pv (q : Nat) hwr2
      obtain ⟨r, hr⟩ : ∃ r, p'.get 10 stepK top' (q : Nat) = r := ⟨_, rfl⟩
      rw [hr] at hget hr1 hr2 hinv hup hwr' hle
      obtain ⟨re, rb, p2, top2⟩ := r
      simp only at hr1 hr2 hinv hup hwr' hle
      subst hr1 hr2
      have hup2 := hup _ HA.out.tN (fun q hq => (HA.out.i0 q hq).2)
      have HGET := Lib.hid hget
      have HINV := Lib.hid hinv
      have HUP := Lib.hid hup2
      have HLE := Lib.hid hle
      have HWR := Lib.hid hwr'
      clear hr hget hinv hup hwr' hle hup2
      go_wp2_with fail
      refine HGET.out.mono ?_
      rintro e y8 ⟨v8, S8, rfl, hrow, _, _, hpv, hft⟩
      have z1 := HA.out.x1.growx hft.grow HA.out.s1
      have hlt1 := HA.out.x1.lt
      have HZ3 : Hid (¬ S8 b1) := Lib.hid (fun hs => (hft.new b1 hs).elim HA.out.s1 (fun e => by omega))
      have HPV := Lib.hid hpv
      have HZ1 := Lib.hid z1
      have hrw := (hrow rfl).1
      obtain ⟨ax, cx, evx⟩ := own_shape hrw
      subst evx
      obtain ⟨ba, hba⟩ : ∃ x, cont (is' q) = x := ⟨_, rfl⟩
      rw [hba] at hrw
      have HBA := Lib.hid hba
      have HBAL : Hid (ba.length = 512) := Lib.hid (by rw [← hba]; exact cont_len _)
      have HRD : Hid (Reads 1 y8 (.slice ax 512 cx) 512 (ba.map B)) := Lib.hid (Reads.of_own hrw)
      have hmk := make512
      have hal : Below y8.heap.size y8 (y8.alloc (.cells Z512 5)) := (Below.refl _ _).alloc (Nat.le_refl _) _
      have cq := (z1.below hal (Nat.le_refl _)).cell q _ (arr_at is' hq6)
      have clt := z1.lt
      have clt2 := Nat.lt_of_lt_of_le clt hal.size
      have HAL := Lib.hid hal
      have HBZ := Lib.hid (Buf.zero512 y8 0 0)
      clear hpv hft z1 hlt1 hrow hrw hba hal
      obtain ⟨bz, hbz⟩ : ∃ bz, decide (is' q > 0) = bz := ⟨_, rfl⟩
      have hbz2 : decide (0 < is' q) = bz := hbz
      have HBZQ := Lib.hid hbz
      go_upto_if 104 with (fail)
      clear cq hmk hbz hbz2
      have HSZ8 : Hid (y8.heap.size < (y8.alloc (.cells Z512 5)).heap.size) := Lib.hid HBZ.out.lt
      obtain ⟨gz, hgz⟩ : ∃ x, y8.heap.size = x := ⟨_, rfl⟩
      rw [hgz] at HBZ ⊢
      have HGZ := Lib.hid hgz
      clear hgz
      generalize y8.alloc (.cells Z512 5) = y9 at *
      have hpz : pageK 0 0 0 = zpage := by unfold pageK zpage; rw [List.range_zero, List.map_nil, List.nil_append, Nat.sub_zero]
      rw [hpz] at HBZ
      have cq9 := (HZ1.out.below HAL.out (Nat.le_refl _)).cell q _ (arr_at is' hq6)
      go_cut [17] (fun z wx => ∃ gw, z = .slice (some ⟨gw, 0, none⟩) 512 512 ∧ Buf wx gw ba ∧ Below y8.heap.size y8 wx)
      case first =>
        cases bz with
        | true =>
          have hp : 0 < is' q := of_decide_eq_true HBZQ.out
          have HCP : Hid (pageL 7 (is' q) = ba) := Lib.hid (by rw [← HBA.out, cont, if_pos hp])
          clear hp
          go_wp2_with fail
          refine (page_any _ 7 (is' q)).mono ?_
          rintro e yp ⟨gp, rfl, h1, h2, h3⟩
          rw [HCP.out] at h1
          have HB1 := Lib.hid h1
          have HG1 : Hid (Below y8.heap.size y8 yp) := Lib.hid (HAL.out.trans ⟨h3.os, h3.tape, h3.output, h3.size, fun k hk => h3.block k (by have := HSZ8.out; omega) (fun h => h)⟩)
          clear h1 h2 h3
          go_wp2_with fail
          go_meet
          exact ⟨gp, rfl, HB1.out, HG1.out⟩
        | false =>
          have hp : ¬ 0 < is' q := of_decide_eq_false HBZQ.out
          have HCP : Hid (zpage = ba) := Lib.hid (by rw [← HBA.out, cont, if_neg hp])
          clear hp
          go_wp2_with fail
          go_meet
          exact ⟨gz, rfl, by rw [← HCP.out]; exact HBZ.out, HAL.out⟩
      case rest =>
        obtain ⟨gw, rfl, hbw, hbel⟩ := hcut
        have hcv1 := run_str_reads Try.underlying37 Try.underlying5 Try.underlying9 ba (HRD.out.below hbel (Nat.le_refl _))
        have hcv2 := run_str_reads Try.underlying37 Try.underlying5 Try.underlying9 ba (hbw.reads512 HBAL.out)
        have hst2 : ((⟨ba.toArray⟩ : ByteArray).toList != (⟨ba.toArray⟩ : ByteArray).toList) = false := by simp
        have HPV9 := Lib.hid (HPV.out.below HF.out hbel)
        have HZ9 := Lib.hid (HZ1.out.below hbel (Nat.le_refl _))
        clear hbw hbel HRD HBZ HAL HZ1 HPV
        go_wp2_with fail
        clear hcv1 hcv2 hst2
        go_loopw [18] (fun i wx => ∃ q2 : Nat, q2 ≤ 10 ∧ i = .int .i64 q2 ∧ PV w g nn f dd 0 10 (.func (.func 26) #[] #[.pointer (some ⟨tb, 0, none⟩)]) (TF w tb) p2 top2 S8 wx ∧ Box wx b1 (arr is' 10)) (fun i _ => 10 - (intOf i).toNat)
        case atStart => exact ⟨0, Nat.zero_le _, rfl, HPV9.out, HZ9.out⟩
        case round =>
          obtain ⟨q2, hq2, rfl, hpv, hbx⟩ := hrel
          have HPR := Lib.hid hpv
          have HBR := Lib.hid hbx
          clear hpv hbx
          by_cases hq2l : q2 < 10
          case neg =>
            have hqb : decide ((q2 : Int) < 10) = false := by simp; omega
            go_wp2_with fail
            refine ⟨⟨k + 1, p2, top2, is', S8, by omega, by omega, by simp, ⟨HPR.out, HBR.out, HA.out.n1, HZ3.out, HINV.out, Int.le_trans HA.out.t0 HLE.out, by have := HUP.out; omega, fun r hr => ⟨(HA.out.i0 r hr).1, by have := (HA.out.i0 r hr).2; omega⟩, by have h1 := HWR.out; have h2 := HA.out.wr; omega⟩⟩, by simp [intOf]; omega⟩
          have hqb : decide ((q2 : Int) < 10) = true := by simp; omega
          go_wp2_with fail
          refine (fileread_pv HF.out HPR.out q2 hq2l).mono ?_
          rintro e wv ⟨vv, rfl, hrow, hpv, hgr⟩
          obtain ⟨ax2, cx2, evx⟩ := own_shape hrow
          subst evx
          obtain ⟨bv, hbv⟩ : ∃ x, p2.P q2 = x := ⟨_, rfl⟩
          rw [hbv] at hrow
          have HBV := Lib.hid hbv
          have HRV : Hid (Reads 1 wv (.slice ax2 512 cx2) 512 (bv.map B)) := Lib.hid (Reads.of_own hrow)
          have HPW := Lib.hid hpv
          have HBW := Lib.hid (HBR.out.growx hgr HZ3.out)
          have ct := hpv.top.cell 0 _ rfl
          have ctl := hpv.top.lt
          have ht1 : wrap64 (top2 + 1) = top2 + 1 := by have := HUP.out; have := HLE.out; have := HA.out.t0; rw [wrap64]; omega
          have HTT : Hid (0 ≤ top2 ∧ top2 ≤ (k : Int) + 1) := Lib.hid ⟨Int.le_trans HA.out.t0 HLE.out, HUP.out⟩
          clear hrow hpv hgr hbv
          go_wp2_with fail
          rw [ht1]
          clear ht1
          go_loopw [21] (fun z wy => ∃ l : Int, z = .int .i64 l ∧ top2 + 1 ≤ l ∧ l ≤ (k : Int) + 2 ∧ Below wv.heap.size wv wy) (fun z _ => ((k : Int) + 2 - intOf z).toNat)
          case atStart => exact ⟨top2 + 1, rfl, Int.le_refl _, by have := HTT.out; omega, Below.refl _ _⟩
          case round =>
            obtain ⟨lv, rfl, hl1, hl2, hby⟩ := hrel
            have HBY := Lib.hid hby
            clear hby
            by_cases hlk : lv ≤ (k : Int) + 1
            case neg =>
              have hlb : decide (lv ≤ (k : Int) + 1) = false := by simpa using hlk
              go_wp2_with fail
              exact ⟨⟨q2 + 1, by omega, by simp, HPW.out.below HF.out HBY.out, HBW.out.below HBY.out (Nat.le_refl _)⟩, by simp [intOf]; omega⟩
            have hlb : decide (lv ≤ (k : Int) + 1) = true := by simpa using hlk
            obtain ⟨bb, hbb⟩ : ∃ x, pageL 7 lv = x := ⟨_, rfl⟩
            have HBB := Lib.hid hbb
            have HBBL : Hid (bb.length = 512) := Lib.hid (by rw [← hbb]; exact pageL_len _ _)
            have HNEQ : Hid (((⟨bv.toArray⟩ : ByteArray).toList == (⟨bb.toArray⟩ : ByteArray).toList) = false) := Lib.hid (str_apart (by rw [← HBV.out, ← hbb]; exact HINV.out.apart hq2l HTT.out.1 (by omega) (by omega)))
            have HRDv := Lib.hid (HRV.out.below HBY.out (Nat.le_refl _))
            have HLW : Hid (wrap64 (lv + 1) = lv + 1) := Lib.hid (by have := HTT.out; rw [wrap64]; omega)
            have HNE2 : Hid ((bv == bb) = false) := Lib.hid (by rw [beq_eq_false_iff_ne]; rw [← HBV.out, ← hbb]; exact HINV.out.apart hq2l HTT.out.1 (by omega) (by omega))
            clear hbb
            go_upto_region 35 with (fail)
            have hB : Below wr.heap.size wr wr := Below.refl _ _
            obtain ⟨HS, hHS⟩ : ∃ x, wr.heap.size = x := ⟨_, rfl⟩
            refine wp_region_partsDC (WKp35 HS cx2 ax2 lv bv bb) 10 [[], [0], [], [2], [2, 3], [0, 1, 2, 3, 4], [0, 1, 2, 3, 4, 5], [0, 1, 2, 3, 4, 5, 6], [0, 1, 2, 3, 4, 5, 6, 7], [0, 1, 2, 3, 4, 5, 6, 7, 8]] [some 138, some 139, some 140, some 141, some 142, some 143, some 144, some 145, some 146, some 147, some 148] (by kernel_rfl) (by kernel_rfl) rfl (PKp35 HS cx2 ax2 lv bv bb) (PKp35_stable HS cx2 ax2 lv bv bb ) ?pKp35 ?_
            case pKp35 =>
              intro i hi o ho vs lo hx_ w' hg hp
              match i, hi with
              | 0, _ =>
                obtain rfl := Option.some.inj ho
                clear ho
                simp only [actsD, List.getD_cons_zero, List.getD_cons_succ, List.foldl_cons, List.foldl_nil, Act.put, List.setIfInBounds_toArray, List.set_cons_succ, List.set_cons_zero]
                have hsz := hg.size
                have hgB : Below wr.heap.size wr w' := hg.below (fun k hk => ⟨hk, fun o => by rintro ⟨j, _, _, _, hw⟩; exact False.elim hw⟩)
                go_wp2
                exact ⟨_, rfl, GrowC.refl _, rfl⟩
              | 1, _ =>
                obtain rfl := Option.some.inj ho
                clear ho
                simp only [actsD, List.getD_cons_zero, List.getD_cons_succ, List.foldl_cons, List.foldl_nil, Act.put, List.setIfInBounds_toArray, List.set_cons_succ, List.set_cons_zero]
                obtain ⟨_, _, _, h0⟩ := hp 0 (by simp)
                simp only [PKp35] at h0
                have hsz := hg.size
                have hgB : Below wr.heap.size wr w' := hg.below (fun k hk => ⟨hk, fun o => by rintro ⟨j, _, _, _, hw⟩; exact False.elim hw⟩)
                rw [h0]
                have hcv := run_str_reads Try.underlying37 Try.underlying5 Try.underlying9 bv (HRDv.out.growx (X := fun _ => False) (grow_below hgB) (fun _ _ h => h))
                go_wp2
                exact ⟨_, rfl, GrowC.refl _, rfl⟩
              | 2, _ =>
                obtain rfl := Option.some.inj ho
                clear ho
                simp only [actsD, List.getD_cons_zero, List.getD_cons_succ, List.foldl_cons, List.foldl_nil, Act.put, List.setIfInBounds_toArray, List.set_cons_succ, List.set_cons_zero]
                have hsz := hg.size
                have hgB : Below wr.heap.size wr w' := hg.below (fun k hk => ⟨hk, fun o => by rintro ⟨j, _, _, _, hw⟩; exact False.elim hw⟩)
                go_wp2
                exact ⟨_, rfl, GrowC.refl _, rfl⟩
              | 3, _ =>
                obtain rfl := Option.some.inj ho
                clear ho
                simp only [actsD, List.getD_cons_zero, List.getD_cons_succ, List.foldl_cons, List.foldl_nil, Act.put, List.setIfInBounds_toArray, List.set_cons_succ, List.set_cons_zero]
                obtain ⟨_, _, _, h2⟩ := hp 2 (by simp)
                simp only [PKp35] at h2
                have hsz := hg.size
                have hgB : Below wr.heap.size wr w' := hg.below (fun k hk => ⟨hk, fun o => by rintro ⟨j, _, _, _, hw⟩; exact False.elim hw⟩)
                rw [h2]
                go_wp2_with fail
                refine (page_any w' 7 lv).mono ?_
                rintro e wh ⟨g2, rfl, h1, h2, h3⟩
                go_wp2
                exact ⟨_, rfl, GrowC.of_grow ⟨h3.os, h3.tape, h3.output, h3.size, fun k hk => h3.block k hk (fun h => h)⟩, g2, rfl, by rw [← HBB.out]; exact h1⟩
              | 4, _ =>
                obtain rfl := Option.some.inj ho
                clear ho
                simp only [actsD, List.getD_cons_zero, List.getD_cons_succ, List.foldl_cons, List.foldl_nil, Act.put, List.setIfInBounds_toArray, List.set_cons_succ, List.set_cons_zero]
                obtain ⟨_, _, _, h3⟩ := hp 3 (by simp)
                simp only [PKp35] at h3
                have hsz := hg.size
                have hgB : Below wr.heap.size wr w' := hg.below (fun k hk => ⟨hk, fun o => by rintro ⟨j, _, _, _, hw⟩; exact False.elim hw⟩)
                obtain ⟨g2, e3, h3b⟩ := h3
                rw [e3]
                have hcv := run_str_reads Try.underlying37 Try.underlying5 Try.underlying9 bb (h3b.reads512 HBBL.out)
                go_wp2
                exact ⟨_, rfl, GrowC.refl _, rfl⟩
              | 5, _ =>
                obtain rfl := Option.some.inj ho
                clear ho
                simp only [actsD, List.getD_cons_zero, List.getD_cons_succ, List.foldl_cons, List.foldl_nil, Act.put, List.setIfInBounds_toArray, List.set_cons_succ, List.set_cons_zero]
                obtain ⟨_, _, _, h1⟩ := hp 1 (by simp)
                simp only [PKp35] at h1
                obtain ⟨_, _, _, h4⟩ := hp 4 (by simp)
                simp only [PKp35] at h4
                have hsz := hg.size
                have hgB : Below wr.heap.size wr w' := hg.below (fun k hk => ⟨hk, fun o => by rintro ⟨j, _, _, _, hw⟩; exact False.elim hw⟩)
                rw [h1, h4]
                have hst := HNEQ.out
                have hst2 := HNE2.out
                go_wp2
                exact ⟨_, rfl, GrowC.refl _, rfl⟩
              | 6, _ =>
                obtain rfl := Option.some.inj ho
                clear ho
                simp only [actsD, List.getD_cons_zero, List.getD_cons_succ, List.foldl_cons, List.foldl_nil, Act.put, List.setIfInBounds_toArray, List.set_cons_succ, List.set_cons_zero]
                obtain ⟨_, _, _, h5⟩ := hp 5 (by simp)
                simp only [PKp35] at h5
                have hsz := hg.size
                have hgB : Below wr.heap.size wr w' := hg.below (fun k hk => ⟨hk, fun o => by rintro ⟨j, _, _, _, hw⟩; exact False.elim hw⟩)
                rw [h5]
                go_wp2
                exact ⟨_, rfl, GrowC.refl _, rfl⟩
              | 7, _ =>
                obtain rfl := Option.some.inj ho
                clear ho
                simp only [actsD, List.getD_cons_zero, List.getD_cons_succ, List.foldl_cons, List.foldl_nil, Act.put, List.setIfInBounds_toArray, List.set_cons_succ, List.set_cons_zero]
                obtain ⟨_, _, _, h6⟩ := hp 6 (by simp)
                simp only [PKp35] at h6
                have hsz := hg.size
                have hgB : Below wr.heap.size wr w' := hg.below (fun k hk => ⟨hk, fun o => by rintro ⟨j, _, _, _, hw⟩; exact False.elim hw⟩)
                rw [h6]
                go_wp2
                exact ⟨_, rfl, GrowC.refl _, rfl⟩
              | 8, _ =>
                obtain rfl := Option.some.inj ho
                clear ho
                simp only [actsD, List.getD_cons_zero, List.getD_cons_succ, List.foldl_cons, List.foldl_nil, Act.put, List.setIfInBounds_toArray, List.set_cons_succ, List.set_cons_zero]
                obtain ⟨_, _, _, h6⟩ := hp 6 (by simp)
                simp only [PKp35] at h6
                obtain ⟨_, _, _, h7⟩ := hp 7 (by simp)
                simp only [PKp35] at h7
                have hsz := hg.size
                have hgB : Below wr.heap.size wr w' := hg.below (fun k hk => ⟨hk, fun o => by rintro ⟨j, _, _, _, hw⟩; exact False.elim hw⟩)
                rw [h6, h7]
                go_wp2
                exact ⟨_, rfl, GrowC.refl _, rfl⟩
              | 9, _ =>
                obtain rfl := Option.some.inj ho
                clear ho
                simp only [actsD, List.getD_cons_zero, List.getD_cons_succ, List.foldl_cons, List.foldl_nil, Act.put, List.setIfInBounds_toArray, List.set_cons_succ, List.set_cons_zero]
                obtain ⟨_, _, _, h6⟩ := hp 6 (by simp)
                simp only [PKp35] at h6
                obtain ⟨_, _, _, h8⟩ := hp 8 (by simp)
                simp only [PKp35] at h8
                have hsz := hg.size
                have hgB : Below wr.heap.size wr w' := hg.below (fun k hk => ⟨hk, fun o => by rintro ⟨j, _, _, _, hw⟩; exact False.elim hw⟩)
                rw [h6, h8]
                go_wp2
                exact ⟨_, rfl, GrowC.refl _, rfl⟩
              | (q + 10), hq => exact absurd hq (by omega)
            intro vS lo hi w5 hg hp hd
            obtain ⟨_, _, _, h0⟩ := hp 0 (by decide)
            obtain ⟨_, _, _, h1⟩ := hp 1 (by decide)
            obtain ⟨_, _, _, h2⟩ := hp 2 (by decide)
            obtain ⟨_, _, _, h3⟩ := hp 3 (by decide)
            obtain ⟨_, _, _, h4⟩ := hp 4 (by decide)
            obtain ⟨_, _, _, h5⟩ := hp 5 (by decide)
            obtain ⟨_, _, _, h6⟩ := hp 6 (by decide)
            obtain ⟨_, _, _, h7⟩ := hp 7 (by decide)
            obtain ⟨_, _, _, h8⟩ := hp 8 (by decide)
            obtain ⟨_, _, _, h9⟩ := hp 9 (by decide)
            simp only [PKp35] at h0 h1 h2 h3 h4 h5 h6 h7 h8 h9
            clear hp hd
            have hsz := hg.size
            replace hB := hB.trans (hg.below (fun k hk => ⟨by omega, fun o => by rintro ⟨j, _, hw⟩; exact False.elim hw⟩))
            have hr : List.range 10 = [0, 1, 2, 3, 4, 5, 6, 7, 8, 9] := rfl
            rw [hr]
            clear hr
            simp only [List.drop_succ_cons, List.drop_zero, List.drop_nil, actsD, List.getD_cons_zero, List.getD_cons_succ, List.foldl_cons, List.foldl_nil, Act.put, List.setIfInBounds_toArray, List.set_cons_succ, List.set_cons_zero, h0, h1, h2, h4, h5, h6, h7, h8, h9]
            clear h0 h1 h2 h4 h5 h6 h7 h8 h9
            go_wp2_with fail
            rw [HLW.out]
            exact ⟨⟨lv + 1, rfl, by omega, by omega, HBY.out.trans (hB.mono HBY.out.size)⟩, by simp [intOf]; omega⟩
end Go.Proofs.Ytdnjjdpenfhpeaa

/- The law PoolPlays. Conditions: none. -/
import Derived.Test.YtdnjjdpenfhpeaaPlRest
import Derived.Test.YtdnjjdpenfhpeaaPlXop
import Derived.Deep.DeepCutAuto
import Derived.Deep.CutBlock
import Derived.BigQuiet
namespace Go.Proofs.Ytdnjjdpenfhpeaa
set_option linter.unusedSimpArgs false
set_option linter.unusedVariables false
open Go.RowKit

def WQ (cA cB : Nat) (S1 S2 : Nat → Prop) (j b : Nat) : Prop := (j = cA ∧ S1 b) ∨ (j = cB ∧ S2 b)
def PoA (w : World) (g f dd nn tb bb : Nat) (bad : Int) (HZ : Nat) (S1 : Nat → Prop) (re : Int) (p2 : Pl) (fo2 : List Int) (v : Value) (lo hi : Nat) (wv : World) : Prop :=
  v = .int .i64 re ∧ HZ ≤ lo ∧ ∃ T, PV w g nn f dd 0 6 (.func (.func 17) #[] #[.pointer (some ⟨tb, 0, none⟩), .pointer (some ⟨bb, 0, none⟩)]) (PF w tb bb bad) p2 fo2 T wv ∧ (∀ k, T k → S1 k ∨ (lo ≤ k ∧ k < hi))
def PoB (w : World) (nn r : Nat) (bad : Int) (HZ : Nat) (S2 : Nat → Prop) (re : Int) (p2 : Pl) (fo2 : List Int) (v : Value) (lo hi : Nat) (wv : World) : Prop :=
  v = .int .i64 re ∧ HZ ≤ lo ∧ ∃ T, RV w r nn 6 bad 60 p2 fo2 T wv ∧ (∀ k, T k → S2 k ∨ (lo ≤ k ∧ k < hi))
theorem PoA.keep {w wv wv' : World} {g f dd nn tb bb : Nat} {bad : Int} {HZ : Nat} {S1 S2 X : Nat → Prop} {re : Int} {p2 : Pl} {fo2 : List Int} {v : Value} {lo hi : Nat} (h : PoA w g f dd nn tb bb bad HZ S1 re p2 fo2 v lo hi wv)
    (hS : ∀ k, S2 k → w.heap.size ≤ k ∧ k < HZ) (hD : Disj S1 S2) (hX : ∀ k, X k → S2 k) (hg : GrowX X wv wv') : PoA w g f dd nn tb bb bad HZ S1 re p2 fo2 v lo hi wv' := by
  obtain ⟨h0, hz, T, h1, h2⟩ := h
  refine ⟨h0, hz, T, h1.grow (force_plays w tb bb bad) hg (fun k hs hw => (h2 k hs).elim (fun hs => hD k hs (hX k hw)) (fun hq => by have := (hS k (hX k hw)).2; omega)) (h1.bel.trans (hg.below (fun k hk => ⟨Nat.lt_of_lt_of_le hk h1.bel.size, fun hw => by have := (hS k (hX k hw)).1; omega⟩))), h2⟩
theorem PoB.keep {w wv wv' : World} {nn r : Nat} {bad : Int} {HZ : Nat} {S1 S2 X : Nat → Prop} {re : Int} {p2 : Pl} {fo2 : List Int} {v : Value} {lo hi : Nat} (h : PoB w nn r bad HZ S2 re p2 fo2 v lo hi wv)
    (hS : ∀ k, S1 k → w.heap.size ≤ k ∧ k < HZ) (hD : Disj S1 S2) (hX : ∀ k, X k → S1 k) (hg : GrowX X wv wv') : PoB w nn r bad HZ S2 re p2 fo2 v lo hi wv' := by
  obtain ⟨h0, hz, T, h1, h2⟩ := h
  refine ⟨h0, hz, T, h1.grow hg (fun k hs hw => (h2 k hs).elim (fun hs => hD k (hX k hw) hs) (fun hq => by have := (hS k (hX k hw)).2; omega)) (h1.bel.trans (hg.below (fun k hk => ⟨Nat.lt_of_lt_of_le hk h1.bel.size, fun hw => by have := (hS k (hX k hw)).1; omega⟩))), h2⟩
theorem WQ.below {cA cB : Nat} {w wa w' : World} {HZ : Nat} {S R Y : Nat → Prop} (hS : ∀ k, S k → w.heap.size ≤ k ∧ k < HZ) (hR : ∀ k, R k → w.heap.size ≤ k ∧ k < HZ) (hY : ∀ b, Y b → ∃ j, WQ cA cB S R j b) (hg : GrowX Y wa w') (hb : Below w.heap.size w wa) : Below w.heap.size w w' :=
  hb.trans (hg.below (fun k hk => ⟨Nat.lt_of_lt_of_le hk hb.size, fun hy => by
    obtain ⟨j, h⟩ := hY k hy
    rcases h with h | h
    · have := (hS k h.2).1; omega
    · have := (hR k h.2).1; omega⟩))
def PPu (w : World) (g f dd nn tb bb r xb : Nat) (bad xp : Int) (HZ : Nat) (S1 S2 : Nat → Prop) (re : Int) (p2 : Pl) (fo2 : List Int) (gb : Nat) (bx : List UInt8) (xl : Int) (i : Nat) (v : Value) (lo hi : Nat) (wv : World) : Prop :=
  match i with
  | 0 => v = .pointer (some ⟨g, 0, none⟩)
  | 1 => v = .pointer (some ⟨xb, 1, none⟩)
  | 2 => v = .int .i64 xp
  | 3 => v = .slice (some ⟨gb, 0, none⟩) 512 512
  | 4 => v = .pointer (some ⟨xb, 3, none⟩)
  | 5 => v = .int .i64 xl
  | 6 => PoA w g f dd nn tb bb bad HZ S1 re p2 fo2 v lo hi wv
  | 7 => v = .pointer (some ⟨r, 0, none⟩)
  | 8 => v = .pointer (some ⟨xb, 1, none⟩)
  | 9 => v = .int .i64 xp
  | 10 => v = .slice (some ⟨gb, 0, none⟩) 512 512
  | 11 => v = .string ⟨bx.toArray⟩
  | 12 => v = .pointer (some ⟨xb, 3, none⟩)
  | 13 => v = .int .i64 xl
  | 14 => PoB w nn r bad HZ S2 re p2 fo2 v lo hi wv
  | _ => True
theorem PPu_stable (w : World) (g f dd nn tb bb r xb : Nat) (bad xp : Int) (HZ : Nat) (S1 S2 : Nat → Prop) (re : Int) (p2 : Pl) (fo2 : List Int) (gb : Nat) (bx : List UInt8) (xl : Int) (hS : ∀ k, S1 k → w.heap.size ≤ k ∧ k < HZ) (hR : ∀ k, S2 k → w.heap.size ≤ k ∧ k < HZ) (hD : Disj S1 S2) :
    ∀ i j, i < 15 → j < 15 → j ≠ i → j ∉ ([[], [], [1], [], [], [4], [0, 1, 2, 3, 4, 5], [], [], [8], [], [10], [], [12], [0, 1, 2, 3, 4, 5, 6, 7, 8, 9, 10, 11, 12, 13]] : List (List Nat)).getD i [] → (i, j) ∉ ([] : List (Nat × Nat)) → ∀ v lo hi wv wv', PPu w g f dd nn tb bb r xb bad xp HZ S1 S2 re p2 fo2 gb bx xl i v lo hi wv → GrowX (WQ 6 14 S1 S2 j) wv wv' → PPu w g f dd nn tb bb r xb bad xp HZ S1 S2 re p2 fo2 gb bx xl i v lo hi wv' := by
  intro i j hi hj hne hbs _ v lo hj2 wv wv' h hg
  match i, hi with
  | 0, _ => exact h
  | 1, _ => exact h
  | 2, _ => exact h
  | 3, _ => exact h
  | 4, _ => exact h
  | 5, _ => exact h
  | 6, _ => exact PoA.keep (S2 := S2) h hR hD (fun k hw => hw.elim (fun h => absurd h.1 hne) (fun h => h.2)) hg
  | 7, _ => exact h
  | 8, _ => exact h
  | 9, _ => exact h
  | 10, _ => exact h
  | 11, _ => exact h
  | 12, _ => exact h
  | 13, _ => exact h
  | 14, _ => exact PoB.keep (S1 := S1) h hS hD (fun k hw => hw.elim (fun h => h.2) (fun h => absurd h.1 hne)) hg
  | (q + 15), hq => exact absurd hq (by omega)
def PEv (w : World) (g f dd nn tb bb r xb : Nat) (bad xp : Int) (HZ : Nat) (S1 S2 : Nat → Prop) (re : Int) (p2 : Pl) (fo2 : List Int) (i : Nat) (v : Value) (lo hi : Nat) (wv : World) : Prop :=
  match i with
  | 0 => v = .pointer (some ⟨g, 0, none⟩)
  | 1 => v = .pointer (some ⟨xb, 1, none⟩)
  | 2 => v = .int .i64 xp
  | 3 => PoA w g f dd nn tb bb bad HZ S1 re p2 fo2 v lo hi wv
  | 4 => v = .pointer (some ⟨r, 0, none⟩)
  | 5 => v = .pointer (some ⟨xb, 1, none⟩)
  | 6 => v = .int .i64 xp
  | 7 => PoB w nn r bad HZ S2 re p2 fo2 v lo hi wv
  | _ => True
theorem PEv_stable (w : World) (g f dd nn tb bb r xb : Nat) (bad xp : Int) (HZ : Nat) (S1 S2 : Nat → Prop) (re : Int) (p2 : Pl) (fo2 : List Int) (hS : ∀ k, S1 k → w.heap.size ≤ k ∧ k < HZ) (hR : ∀ k, S2 k → w.heap.size ≤ k ∧ k < HZ) (hD : Disj S1 S2) :
    ∀ i j, i < 8 → j < 8 → j ≠ i → j ∉ ([[], [], [1], [0, 1, 2], [], [], [5], [0, 1, 2, 3, 4, 5, 6]] : List (List Nat)).getD i [] → (i, j) ∉ ([] : List (Nat × Nat)) → ∀ v lo hi wv wv', PEv w g f dd nn tb bb r xb bad xp HZ S1 S2 re p2 fo2 i v lo hi wv → GrowX (WQ 3 7 S1 S2 j) wv wv' → PEv w g f dd nn tb bb r xb bad xp HZ S1 S2 re p2 fo2 i v lo hi wv' := by
  intro i j hi hj hne hbs _ v lo hj2 wv wv' h hg
  match i, hi with
  | 0, _ => exact h
  | 1, _ => exact h
  | 2, _ => exact h
  | 3, _ => exact PoA.keep (S2 := S2) h hR hD (fun k hw => hw.elim (fun h => absurd h.1 hne) (fun h => h.2)) hg
  | 4, _ => exact h
  | 5, _ => exact h
  | 6, _ => exact h
  | 7, _ => exact PoB.keep (S1 := S1) h hS hD (fun k hw => hw.elim (fun h => h.2) (fun h => absurd h.1 hne)) hg
  | (q + 8), hq => exact absurd hq (by omega)
set_option maxRecDepth 100000 in
set_option maxHeartbeats 25600000 in
theorem plays_any (nf bad : Int) (sc : List Xop) (v : Value) (n : Nat) (hl : sc.length = n) (hn : n ≤ 9223372036854775807) (w : World) (hv : Reads 4 w v n (xcells sc)) :
    Calls Try.prog 4 #[.int .i64 nf, .int .i64 bad, v] w fun e w' => e = .returned (.bool true) ∧ Below w.heap.size w w' := by
  have HV := Lib.hid hv
  have HL := Lib.hid hl
  obtain ⟨av, cv, rfl, _⟩ := hv
  clear hl
  go_enter Try.func4, Try.ntmps4
  have hbx1 := Box.new w #[.int .i64 bad] 3 rfl
  have hb1 : Below w.heap.size w (w.alloc (.cells #[.int .i64 bad] 3)) := (Below.refl _ _).alloc (Nat.le_refl _) _
  have hs1 : (w.alloc (.cells #[.int .i64 bad] 3)).heap.size = w.heap.size + 1 := by simp
  obtain ⟨bb, hbb⟩ : ∃ x, w.heap.size = x := ⟨_, rfl⟩
  have HBB := Lib.hid hbb
  have HX1 : Hid (Box (w.alloc (.cells #[.int .i64 bad] 3)) bb [.int .i64 bad]) := Lib.hid (hbb ▸ hbx1)
  have HB1 := Lib.hid hb1
  have HS1 := Lib.hid hs1
  clear hbx1 hb1 hs1
  go_wp2_with fail
  try rw [hbb]
  clear hbb
  generalize w.alloc (.cells #[.int .i64 bad] 3) = w1 at *
  refine (dnew_dv w w1 HB1.out 40 (by decide) (by decide)).mono ?_
  rintro e y1 ⟨dd, Sd, rfl, hdv, hnw, hbl⟩
  have HD := Lib.hid hdv
  have HX2 := Lib.hid (HX1.out.below hbl (Nat.le_refl _))
  have HN2 : Hid (¬ Sd bb) := Lib.hid (fun hs => by have := hnw bb hs; have := HS1.out; have := HBB.out; omega)
  clear hdv hnw hbl HX1
  go_wp2_with fail
  refine (fopen_dv HD.out (new_good (by decide)) (by decide) 0 6 (by decide) (by decide) (new_sec _ _)).mono ?_
  rintro e y2 ⟨f, Sf, rfl, hfv, hft⟩
  have HFV : Hid (FV w f dd 0 6 P0 Sf y2) := Lib.hid (hfv.ext (fun q hq => new_page _ _))
  have HX3 := Lib.hid (HX2.out.growx hft.grow HN2.out)
  have HN3 : Hid (¬ Sf bb) := Lib.hid (fun hs => (hft.new bb hs).elim HN2.out (fun h => by have := HX2.out.lt; omega))
  clear hfv hft HX2 HN2
  have hal : Below y2.heap.size y2 (y2.alloc (.cells #[.slice none 0 0] 49)) := (Below.refl _ _).alloc (Nat.le_refl _) _
  have hbt := Box.new y2 #[.slice none 0 0] 49 rfl
  have HFV2 := Lib.hid (HFV.out.below hal)
  have HX4 := Lib.hid (HX3.out.below hal (Nat.le_refl _))
  have HLT := Lib.hid HX3.out.lt
  have hsz2 := HFV.out.bel.size
  obtain ⟨tb, htb⟩ : ∃ x, y2.heap.size = x := ⟨_, rfl⟩
  rw [htb] at hbt
  have HTB := Lib.hid htb
  have HSF : Hid (∀ k, Sf k → k ≠ tb) := Lib.hid (fun k hk => by have := (HFV.out.lt k hk).2; omega)
  have HBT := Lib.hid hbt
  clear hbt hal
  go_wp2_with fail
  try rw [htb]
  clear htb
  generalize y2.alloc (.cells #[.slice none 0 0] 49) = yt at *
  have HF := Lib.hid (force_plays w tb bb bad)
  by_cases hnf : nf < 1 ∨ 64 < nf
  case pos =>
    refine (pnew_bad _ f nf hnf _ _).mono ?_
    rintro e y3 ⟨rfl, rfl⟩
    have c0 := HX4.out.cell 0 _ rfl
    have clt := HX4.out.lt
    go_wp2_with fail
    refine (rnew_bad _ 6 nf bad 60 hnf).mono ?_
    rintro e y4 ⟨rfl, rfl⟩
    clear c0 clt hnf
    go_wp2_with fail
    refine (awake_any _).mono ?_
    rintro e wz ⟨rfl, hbz⟩
    have HTZ := Lib.hid (HBT.out.below hbz (Nat.le_refl _))
    have HBZ := Lib.hid (HFV2.out.bel.trans (hbz.mono HFV2.out.bel.size))
    clear hbz
    go_wp2_with fail
    go_loopw [16] (fun i wr => i = .int .i64 (0 : Nat) ∧ wr = wz) (fun _ _ => 0)
    case atStart => exact ⟨rfl, rfl⟩
    case round =>
      obtain ⟨rfl, rfl⟩ := hrel
      obtain ⟨bz, hbz⟩ : ∃ bz, decide (0 < n) = bz := ⟨_, rfl⟩
      have hbz2 : decide ((0 : Int) < (n : Int)) = bz := by rw [← hbz]; simp
      have ct := HTZ.out.cell 0 _ rfl
      have tlt := HTZ.out.lt
      cases bz <;> (go_wp2_with fail; go_loopw [29] (fun i wx => i = .int .i64 (0 : Nat) ∧ wx = wr) (fun _ _ => 0); (case atStart => exact ⟨rfl, rfl⟩); (case round => obtain ⟨rfl, rfl⟩ := hrel; go_wp2_with fail; go_ret; exact ⟨rfl, HBZ.out⟩))
  obtain ⟨nn, rfl⟩ := Int.eq_ofNat_of_zero_le (show 0 ≤ nf by omega)
  have hnn : 1 ≤ nn ∧ nn ≤ 64 := by omega
  refine (pnew_pv (n := nn) HF.out HFV2.out (s := ([] : List Int)) (S2 := fun k => k = tb ∨ k = bb ∨ (Value.slice none 0 0).ownBlock = some k) ⟨.slice none 0 0, HBT.out, HX4.out, World.ownsRow_nil _ _ _ _, by have := HTB.out; omega, by have := HBB.out; omega, by have := HTB.out; have := HLT.out; omega, (fun q e => by cases e), HFV2.out.bel, rfl⟩ (fun k hk e => by rcases e with e | e | e; exact HSF.out k hk e; exact HN3.out (e ▸ hk); cases e) hnn.1 hnn.2).mono ?_
  rintro e y3 ⟨g, S3, rfl, hpv, _⟩
  have HPV3 := Lib.hid hpv
  obtain ⟨ao0, co0, hv1, hv2, hv3, _, _⟩ := hpv.vars
  have c0 := hv2.cell 0 _ rfl
  have clt := hv2.lt
  clear hpv hnf hv1 hv2 hv3
  go_wp2_with fail
  refine (rnew_rv (W0 := w) HPV3.out.bel nn hnn.1 hnn.2 6 (by decide) (by decide) bad 60).mono ?_
  rintro e y4 ⟨r, S4, rfl, hrv, hnw, hbl⟩
  have HQ0 : Hid (QAt w g f dd nn tb bb r bad 0 (Pl.new nn P0) [] S3 S4 y4) := Lib.hid ⟨HPV3.out.below HF.out hbl, hrv, fun k h1 h2 => by have := (HPV3.out.lt HF.out k h1).2; have := hnw k h2; omega, UniqF.new nn, Nat.le_refl _, Nat.le_refl _⟩
  clear hrv hnw hbl c0 clt
  go_wp2_with fail
  refine (awake_any _).mono ?_
  rintro e y5 ⟨rfl, hbz⟩
  have HQ1 := Lib.hid (HQ0.out.below hbz)
  clear hbz
  go_wp2_with fail
  go_loopw [16] (fun i wr => ∃ (k : Nat) (p : Pl) (fo : List Int) (S1 S2 : Nat → Prop), k ≤ n ∧ k ≤ 100 ∧ i = .int .i64 k ∧ QAt w g f dd nn tb bb r bad k p fo S1 S2 wr) (fun i _ => n - (intOf i).toNat)
  case atStart => exact ⟨0, _, _, _, _, Nat.zero_le _, Nat.zero_le _, rfl, HQ1.out⟩
  case round =>
    obtain ⟨k, p, fo, S1, S2, hk, hk100, rfl, hat⟩ := hrel
    have HAT := Lib.hid hat
    clear hat
    by_cases hlt : k < n ∧ k < 100
    case neg =>
      have hml : fo.length ≤ 100 := Nat.le_trans HAT.out.m2 hk100
      obtain ⟨m, hm⟩ : ∃ m, fo.length = m := ⟨_, rfl⟩
      obtain ⟨ao, co, v1, v2, v3, _, _⟩ := HAT.out.pv.vars
      have ct := v1.cell 0 _ rfl
      have tlt := v1.lt
      rw [hm] at hml ct
      have HM := Lib.hid hm
      clear hm v1 v2 v3
      by_cases hkn : k < n
      case neg =>
        have hb1 : decide (k < n) = false := by simpa using hkn
        have hb2 : decide ((k : Int) < (n : Int)) = false := by simpa using hkn
        clear hlt hkn
        go_wp2_with fail
        go_loopw [29] (fun i wx => ∃ j : Nat, j ≤ m ∧ i = .int .i64 j ∧ QAt w g f dd nn tb bb r bad k p fo S1 S2 wx) (fun i _ => m - (intOf i).toNat)
        case atStart => exact ⟨0, Nat.zero_le _, rfl, HAT.out⟩
        case round =>
          obtain ⟨j, hj, rfl, hat⟩ := hrel
          have HA := Lib.hid hat
          obtain ⟨ax, cx, v1, v2, v3, _, _⟩ := hat.pv.vars
          obtain ⟨db, cd, fb, cf, ay, cy, u1, _, _, _, u3⟩ := hat.rv.view
          rw [HM.out] at v1 v3 u1 u3
          have cx0 := v1.cell 0 _ rfl
          have xlt := v1.lt
          have cy5 := u1.cell 5 _ rfl
          have ylt := u1.lt
          clear hat v1 v2 u1 ct tlt
          by_cases hjm : j < m
          case neg =>
            have hjb : decide (j < m) = false := by simpa using hjm
            clear v3 u3
            go_wp2_with fail
            go_ret
            exact ⟨rfl, HA.out.pv.bel⟩
          have hjb : decide (j < m) = true := by simpa using hjm
          obtain ⟨_, _, e3, _, _, h3⟩ := v3
          obtain ⟨b1, o1, e1, l1, g1⟩ := h3 (by omega)
          injection e3 with e31 _ _
          subst e31 e1
          obtain ⟨_, _, e4, _, _, h4⟩ := u3
          obtain ⟨b2, o2, e2, l2, g2⟩ := h4 (by omega)
          injection e4 with e41 _ _
          subst e41 e2
          have hjl : j < fo.length := by rw [HM.out]; exact hjm
          have hx1 := g1 j (.int .i64 fo[j]) (by rw [List.getElem?_map, List.getElem?_eq_getElem hjl]; rfl)
          have hx2 := g2 j (.int .i64 fo[j]) (by rw [List.getElem?_map, List.getElem?_eq_getElem hjl]; rfl)
          generalize fo[j] = z at *
          have hzz : (z != z) = false := by simp
          clear g1 g2 h3 h4
          go_wp2_with fail
          go_quiet (fail)
          go_wp2
          go_roundw
          · exact ⟨j + 1, by omega, by go_num, HA.out.below ⟨rfl, rfl, rfl, Nat.le_refl _, fun _ _ => rfl⟩⟩
          · simp [intOf]; omega
      case pos =>
        have hb1 : decide (k < n) = true := by simpa using hkn
        have hb2 : decide ((k : Int) < (n : Int)) = true := by simpa using hkn
        have hb3 : decide (k < 100) = false := by simp; omega
        have hb4 : decide ((k : Int) < 100) = false := by simp; omega
        clear hlt hkn
        go_wp2_with fail
        go_loopw [29] (fun i wx => ∃ j : Nat, j ≤ m ∧ i = .int .i64 j ∧ QAt w g f dd nn tb bb r bad k p fo S1 S2 wx) (fun i _ => m - (intOf i).toNat)
        case atStart => exact ⟨0, Nat.zero_le _, rfl, HAT.out⟩
        case round =>
          obtain ⟨j, hj, rfl, hat⟩ := hrel
          have HA := Lib.hid hat
          obtain ⟨ax, cx, v1, v2, v3, _, _⟩ := hat.pv.vars
          obtain ⟨db, cd, fb, cf, ay, cy, u1, _, _, _, u3⟩ := hat.rv.view
          rw [HM.out] at v1 v3 u1 u3
          have cx0 := v1.cell 0 _ rfl
          have xlt := v1.lt
          have cy5 := u1.cell 5 _ rfl
          have ylt := u1.lt
          clear hat v1 v2 u1 ct tlt
          by_cases hjm : j < m
          case neg =>
            have hjb : decide (j < m) = false := by simpa using hjm
            clear v3 u3
            go_wp2_with fail
            go_ret
            exact ⟨rfl, HA.out.pv.bel⟩
          have hjb : decide (j < m) = true := by simpa using hjm
          obtain ⟨_, _, e3, _, _, h3⟩ := v3
          obtain ⟨b1, o1, e1, l1, g1⟩ := h3 (by omega)
          injection e3 with e31 _ _
          subst e31 e1
          obtain ⟨_, _, e4, _, _, h4⟩ := u3
          obtain ⟨b2, o2, e2, l2, g2⟩ := h4 (by omega)
          injection e4 with e41 _ _
          subst e41 e2
          have hjl : j < fo.length := by rw [HM.out]; exact hjm
          have hx1 := g1 j (.int .i64 fo[j]) (by rw [List.getElem?_map, List.getElem?_eq_getElem hjl]; rfl)
          have hx2 := g2 j (.int .i64 fo[j]) (by rw [List.getElem?_map, List.getElem?_eq_getElem hjl]; rfl)
          generalize fo[j] = z at *
          have hzz : (z != z) = false := by simp
          clear g1 g2 h3 h4
          go_wp2_with fail
          go_quiet (fail)
          go_wp2
          go_roundw
          · exact ⟨j + 1, by omega, by go_num, HA.out.below ⟨rfl, rfl, rfl, Nat.le_refl _, fun _ _ => rfl⟩⟩
          · simp [intOf]; omega
    obtain ⟨hkn, hk1⟩ := hlt
    have hb1 : decide (k < n) = true := by simpa using hkn
    have hb2 : decide ((k : Int) < (n : Int)) = true := by simpa using hkn
    have hb3 : decide (k < 100) = true := by simpa using hk1
    have hb4 : decide ((k : Int) < 100) = true := by simp; omega
    have hkl : k < sc.length := by rw [HL.out]; exact hkn
    obtain ⟨b, o, c', e, hb, hc1, hc2, hc3, hc4⟩ := Xops.at HV.out k hkn sc[k] (List.getElem?_eq_getElem hkl)
    injection e with e1 e2 e3
    subst e1 e3
    generalize sc[k] = x at *
    obtain ⟨xk, xp, xa, xl⟩ := x
    have HAT0 := HAT.out.pv.bel
    have hd1 := (HAT0.cell (p := ⟨b, o + k * 4, none⟩) hb).trans hc1
    have hd2 := (HAT0.cell (p := ⟨b, o + k * 4 + 1, none⟩) hb).trans hc2
    have hd3 := (HAT0.cell (p := ⟨b, o + k * 4 + 2, none⟩) hb).trans hc3
    have hd4 := (HAT0.cell (p := ⟨b, o + k * 4 + 3, none⟩) hb).trans hc4
    try simp only at hd1 hd2 hd3 hd4
    have hbw : b < wr.heap.size := Nat.lt_of_lt_of_le hb HAT0.size
    clear hc1 hc2 hc3 hc4 hkl e2 HAT0
    go_upto_block 2 with (fail)
    have hbx := Box.new wr #[.int .i64 xk, .int .i64 xp, .int .i64 xa, .int .i64 xl] 36 rfl
    have hal : Below wr.heap.size wr (wr.alloc (.cells #[.int .i64 xk, .int .i64 xp, .int .i64 xa, .int .i64 xl] 36)) := (Below.refl _ _).alloc (Nat.le_refl _) _
    have HQ := Lib.hid (HAT.out.below hal)
    obtain ⟨xb, hxb⟩ : ∃ x, wr.heap.size = x := ⟨_, rfl⟩
    rw [hxb] at hbx ⊢
    have HBX := Lib.hid hbx
    have HSX : Hid (¬ S1 xb ∧ ¬ S2 xb ∧ w.heap.size ≤ xb) := Lib.hid ⟨fun h => by have := (HAT.out.lt1 xb h).2; omega, fun h => by have := (HAT.out.lt2 xb h).2; omega, by have := HAT.out.pv.bel.size; omega⟩
    clear hbx hal hxb hd1 hd2 hd3 hd4 hbw hb HAT
    generalize wr.alloc (.cells #[.int .i64 xk, .int .i64 xp, .int .i64 xa, .int .i64 xl] 36) = wb at *
    have hwr1 : p.wr + 1 ≤ 1000000000 := by have := HQ.out.m1; omega
    have hfo1 : fo.length + 1 ≤ 1000000 := by have := HQ.out.m2; omega
    have HW1 := Lib.hid hwr1
    have HF1 := Lib.hid hfo1
    clear hwr1 hfo1 hb1 hb2 hb3 hb4
    go_cut [18] (fun z wx => ∃ (p' : Pl) (fo' : List Int) (S1' S2' : Nat → Prop), z = .bool true ∧ QAt w g f dd nn tb bb r bad (k + 1) p' fo' S1' S2' wx)
    case first =>
      have c0 := HBX.out.cell 0 _ rfl
      have c1 := HBX.out.cell 1 _ rfl
      have cfz := HBX.out.free
      have clt := HBX.out.lt
      by_cases hx0 : xk = 0
      case pos =>
        have hkb : (xk == 0) = true := by simpa using hx0
        clear hx0
        have hget := get_pv HF.out HQ.out.pv xp HW1.out HF1.out
        have hst := get_st bad 60 fo HQ.out.pv.ok xp
        have hrg := fun (w' : World) (h : RV w r nn 6 bad 60 p fo S2 w') => rget_rv (by decide) h HQ.out.pv.page512 xp HW1.out HF1.out
        have hun := fun (y : World) (base : Nat) (v : Value) h1 h2 => get_uni (p := p) (pg := 6) (n := nn) (step := stepP bad 60) (s := fo) xp (y := y) (base := base) (v := v) h1 h2
        obtain ⟨rr, hrr⟩ : ∃ r, p.get 6 (stepP bad 60) fo xp = r := ⟨_, rfl⟩
        simp only [hrr] at hget hst hrg hun
        obtain ⟨re, rb, p', fo'⟩ := rr
        simp only at hst hrg hun
        have HST := Lib.hid hst
        have HGET := Lib.hid hget
        have HRG := Lib.hid hrg
        have HUN := Lib.hid hun
        clear hrr hget hst hrg hun
        go_wp2_with fail
        refine HGET.out.mono ?_
        rintro e wz ⟨v8, T1, rfl, hr1, hr2, hr3, hpv, hft⟩
        obtain ⟨m', hm', hmle, hrow⟩ := HUN.out _ _ _ hr1 hr2
        obtain ⟨ax, cx, evx⟩ := own_shape hrow
        subst evx
        have hrv := HQ.out.rv.grow hft.grow (fun k h2 h1 => HQ.out.dj k h1 h2) hpv.bel
        have HRV := Lib.hid hrv
        have HPV := Lib.hid hpv
        have hbz := HBX.out.growx hft.grow HSX.out.1
        have hlow : wb.heap.size ≤ wz.heap.size := hft.grow.size
        have HD1 : Hid (Disj T1 S2) := Lib.hid (hft.disj HQ.out.dj (fun k hk => (HQ.out.lt2 k hk).2))
        have HOWN : Hid (∀ k, (Value.slice ax m' cx).ownBlock = some k → ¬ T1 k ∧ ¬ S2 k ∧ wb.heap.size ≤ k ∧ k < wz.heap.size) := Lib.hid (fun k hk => ⟨hr3 k hk, fun h => by have := (HQ.out.lt2 k h).2; have := (hrow.lt k hk).1; omega, (hrow.lt k hk).1, (hrow.lt k hk).2⟩)
        have HROW := Lib.hid hrow
        have HML := Lib.hid hm'
        have HMLE := Lib.hid hmle
        have HBZ := Lib.hid hbz
        have e0 := hbz.cell 0 _ rfl
        have e1 := hbz.cell 1 _ rfl
        have zlt := hbz.lt
        clear hm' hmle hrow hr1 hr2 hr3 hpv hft hrv hbz hlow c0 c1 cfz clt
        go_wp2_with fail
        refine (HRG.out _ HRV.out).mono ?_
        rintro e wy ⟨T2, rfl, hrv2, hft2⟩
        have hpv2 := HPV.out.grow HF.out hft2.grow HD1.out hrv2.bel
        have hd2 : Disj T1 T2 := (hft2.disj HD1.out.symm (fun k hk => (HPV.out.lt HF.out k hk).2)).symm
        have HJ := Lib.hid (QAt.join hpv2 hrv2 hd2 HQ.out HST.out)
        have HRW2 := Lib.hid (own_growx HROW.out hft2.grow (fun q e => (HOWN.out q e).2.1))
        have HOW2 : Hid (∀ k, (Value.slice ax m' cx).ownBlock = some k → ¬ T1 k ∧ ¬ T2 k ∧ w.heap.size ≤ k) := Lib.hid (fun k hk => ⟨(HOWN.out k hk).1, fun h => (hft2.new k h).elim (HOWN.out k hk).2.1 (fun h => by have := (HOWN.out k hk).2.2.2; omega), by have := (HOWN.out k hk).2.2.1; have := HQ.out.pv.bel.size; omega⟩)
        have hcv := run_str_reads Try.underlying37 Try.underlying5 Try.underlying9 rb (Reads.of_own HRW2.out)
        have hee : (re == re) = true := by simp
        have hss := str_self rb
        clear hrv2 hft2 hpv2 hd2 e0 e1 zlt HRV HPV HD1 HOWN HROW
        simp only [S8]
        go_wp2_with fail
        go_loopw [23] (fun i wx => ∃ (j : Nat) (cs : List Value), j ≤ m' ∧ i = .int .i64 j ∧ wx.ownsRow wb.heap.size 5 1 (.slice ax m' cx) m' cs ∧ (∀ x ∈ cs, ∃ z, x = .int .u8 z) ∧ QAt w g f dd nn tb bb r bad (k + 1) p' fo' T1 T2 wx) (fun i _ => m' - (intOf i).toNat)
        case atStart => exact ⟨0, _, Nat.zero_le _, rfl, HRW2.out, (fun x hx => by obtain ⟨u, _, rfl⟩ := List.mem_map.1 hx; exact ⟨_, rfl⟩), HJ.out⟩
        case round =>
          obtain ⟨j, cs, hj, rfl, hrow, hcs, hat⟩ := hrel
          have HA := Lib.hid hat
          have HR := Lib.hid hrow
          have HCS := Lib.hid hcs
          have hm5 := HMLE.out
          clear hat hrow hcs hcv
          by_cases hjm : j < m'
          case neg =>
            have hjb : decide (j < m') = false := by simpa using hjm
            clear hjm
            go_wp2_with fail
            go_meet
            exact ⟨p', fo', T1, T2, rfl, HA.out⟩
          have hjb : decide (j < m') = true := by simpa using hjm
          obtain ⟨gq, cq, e⟩ := own_slice HR.out (by omega)
          injection e with e1 _ _
          subst e1
          have hjl : j < cs.length := by have := HR.out.1; omega
          obtain ⟨z, hz⟩ := HCS.out _ (List.getElem_mem hjl)
          have hcl := Reads.own_at HR.out (by omega) j _ (by rw [List.getElem?_eq_getElem hjl, hz])
          have hfz := own_free HR.out rfl
          have hglt := (HR.out.lt gq rfl).2
          have hno := HOW2.out gq rfl
          have HNO := Lib.hid hno
          clear hno hz hjl
          go_wp2_with fail
          go_roundw
          · have k3 := growX_setCell wr gq j (.int .u8 ((z + 1) % 256))
            exact ⟨j + 1, _, by omega, by go_num, own_set HR.out rfl j (by omega) _, (fun x hx => by rcases List.mem_or_eq_of_mem_set hx with hx | rfl; exact HCS.out x hx; exact ⟨_, rfl⟩), HA.out.mine gq HNO.out.2.2 HNO.out.1 HNO.out.2.1 (growX_setCell _ _ _ _)⟩
          · simp [intOf]; omega
      case neg =>
      have hkb0 : (xk == 0) = false := by simpa using hx0
      clear hx0
      have c2 := HBX.out.cell 2 _ rfl
      have c3 := HBX.out.cell 3 _ rfl
      by_cases hx1 : xk = 1
      case pos =>
        have hkb : (xk == 1) = true := by simpa using hx1
        clear hx1
        go_wp2_with fail
        refine (page_any _ xa xl).mono ?_
        rintro e wy ⟨gb, rfl, hbuf, hgb, hgr⟩
        obtain ⟨bx, hbx⟩ : ∃ b, pageL xa xl = b := ⟨_, rfl⟩
        rw [hbx] at hbuf
        have HBL : Hid (bx.length = 512) := Lib.hid (by rw [← hbx]; exact pageL_len _ _)
        have hb4 : Below wb.heap.size wb wy := ⟨hgr.os, hgr.tape, hgr.output, hgr.size, fun k hk => hgr.block k hk (fun h => h)⟩
        have HY := Lib.hid (HQ.out.below hb4)
        have HBY := Lib.hid (HBX.out.below hb4 (Nat.le_refl _))
        have HBUF := Lib.hid hbuf
        have HGB : Hid (¬ S1 gb ∧ ¬ S2 gb ∧ w.heap.size ≤ gb ∧ gb < wy.heap.size) := Lib.hid ⟨fun h => by have := (HQ.out.lt1 gb h).2; omega, fun h => by have := (HQ.out.lt2 gb h).2; omega, by have := HQ.out.pv.bel.size; omega, hbuf.lt⟩
        have HSL := Lib.hid HY.out.lt1
        have HRL := Lib.hid HY.out.lt2
        clear hbx hbuf hgb hgr hb4 c0 c1 c2 c3 cfz clt HQ HBX
        have hst := put_st bad 60 fo HY.out.pv.ok xp bx xl
        have hpu := fun (w' : World) (T : Nat → Prop) (h : PV w g nn f dd 0 6 (.func (.func 17) #[] #[.pointer (some ⟨tb, 0, none⟩), .pointer (some ⟨bb, 0, none⟩)]) (PF w tb bb bad) p fo T w') hv hsl => put_any HF.out h xp bx HBL.out xl (some ⟨gb, 0, none⟩) 512 hv hsl HW1.out HF1.out
        have hrp := fun (w' : World) (T : Nat → Prop) (h : RV w r nn 6 bad 60 p fo T w') => rput_any (by decide) h xp bx HBL.out xl HW1.out HF1.out
        obtain ⟨rr, hrr⟩ : ∃ r, p.put 6 (stepP bad 60) fo xp bx xl = r := ⟨_, rfl⟩
        simp only [hrr] at hst hpu hrp
        obtain ⟨re, p2, fo2⟩ := rr
        simp only at hst hpu hrp
        have HST := Lib.hid hst
        have HPU := Lib.hid hpu
        have HRP := Lib.hid hrp
        clear hrr hst hpu hrp
        go_upto_region 24 with (fail)
        obtain ⟨HZN, hHZN⟩ : ∃ x, wy.heap.size = x := ⟨_, rfl⟩
        rw [hHZN] at HSL HRL
        refine wp_region_partsDK (WQ 6 14 S1 S2) 15 [[], [], [1], [], [], [4], [0, 1, 2, 3, 4, 5], [], [], [8], [], [10], [], [12], [0, 1, 2, 3, 4, 5, 6, 7, 8, 9, 10, 11, 12, 13]] [some 130, some 131, some 132, some 133, some 134, some 135, some 136, some 137, some 138, some 139, some 140, some 141, some 142, some 143, some 144, some 145, some 18] [[], [], [1], [], [], [4], [0, 2, 3, 5], [], [], [8], [], [10], [], [12], [7, 9, 11, 13]] [6, 14] [] (by decide) (by kernel_rfl) (by kernel_rfl) rfl (PPu w g f dd nn tb bb r xb bad xp HZN S1 S2 re p2 fo2 gb bx xl) (PPu_stable w g f dd nn tb bb r xb bad xp HZN S1 S2 re p2 fo2 gb bx xl HSL.out HRL.out HY.out.dj) ?pPPu ?_
        case pPPu =>
          intro i hi o ho vs lo hx_ w' hg hp
          have hbel : Below w.heap.size w w' := WQ.below HSL.out HRL.out (fun b ⟨j, _, _, _, h⟩ => ⟨j, h⟩) hg HY.out.pv.bel
          have hzl : HZN ≤ w'.heap.size := by rw [← hHZN]; exact hg.size
          match i, hi with
          | 0, _ =>
            obtain rfl := Option.some.inj ho
            clear ho
            simp only [actsD, List.getD_cons_zero, List.getD_cons_succ, List.foldl_cons, List.foldl_nil, Act.put, List.setIfInBounds_toArray, List.set_cons_succ, List.set_cons_zero]
            go_wp2
            exact ⟨_, rfl, grow_below (Below.refl _ _), rfl⟩
          | 1, _ =>
            obtain rfl := Option.some.inj ho
            clear ho
            simp only [actsD, List.getD_cons_zero, List.getD_cons_succ, List.foldl_cons, List.foldl_nil, Act.put, List.setIfInBounds_toArray, List.set_cons_succ, List.set_cons_zero]
            go_wp2
            exact ⟨_, rfl, grow_below (Below.refl _ _), rfl⟩
          | 2, _ =>
            obtain rfl := Option.some.inj ho
            clear ho
            simp only [actsD, List.getD_cons_zero, List.getD_cons_succ, List.foldl_cons, List.foldl_nil, Act.put, List.setIfInBounds_toArray, List.set_cons_succ, List.set_cons_zero]
            obtain ⟨_, _, _, h1⟩ := hp 1 (by simp)
            simp only [PPu] at h1
            rw [h1]
            have e0 := (HBY.out.growx hg (by rintro ⟨j, _, _, _, hw⟩; exact hw.elim (fun h => HSX.out.1 h.2) (fun h => HSX.out.2.1 h.2))).cell 1 _ rfl
            go_wp2
            exact ⟨_, rfl, grow_below (Below.refl _ _), rfl⟩
          | 3, _ =>
            obtain rfl := Option.some.inj ho
            clear ho
            simp only [actsD, List.getD_cons_zero, List.getD_cons_succ, List.foldl_cons, List.foldl_nil, Act.put, List.setIfInBounds_toArray, List.set_cons_succ, List.set_cons_zero]
            go_wp2
            exact ⟨_, rfl, grow_below (Below.refl _ _), rfl⟩
          | 4, _ =>
            obtain rfl := Option.some.inj ho
            clear ho
            simp only [actsD, List.getD_cons_zero, List.getD_cons_succ, List.foldl_cons, List.foldl_nil, Act.put, List.setIfInBounds_toArray, List.set_cons_succ, List.set_cons_zero]
            go_wp2
            exact ⟨_, rfl, grow_below (Below.refl _ _), rfl⟩
          | 5, _ =>
            obtain rfl := Option.some.inj ho
            clear ho
            simp only [actsD, List.getD_cons_zero, List.getD_cons_succ, List.foldl_cons, List.foldl_nil, Act.put, List.setIfInBounds_toArray, List.set_cons_succ, List.set_cons_zero]
            obtain ⟨_, _, _, h4⟩ := hp 4 (by simp)
            simp only [PPu] at h4
            rw [h4]
            have e0 := (HBY.out.growx hg (by rintro ⟨j, _, _, _, hw⟩; exact hw.elim (fun h => HSX.out.1 h.2) (fun h => HSX.out.2.1 h.2))).cell 3 _ rfl
            go_wp2
            exact ⟨_, rfl, grow_below (Below.refl _ _), rfl⟩
          | 6, _ =>
            obtain rfl := Option.some.inj ho
            clear ho
            simp only [actsD, List.getD_cons_zero, List.getD_cons_succ, List.foldl_cons, List.foldl_nil, Act.put, List.setIfInBounds_toArray, List.set_cons_succ, List.set_cons_zero]
            obtain ⟨_, _, _, h0⟩ := hp 0 (by simp)
            simp only [PPu] at h0
            obtain ⟨_, _, _, h2⟩ := hp 2 (by simp)
            simp only [PPu] at h2
            obtain ⟨_, _, _, h3⟩ := hp 3 (by simp)
            simp only [PPu] at h3
            obtain ⟨_, _, _, h5⟩ := hp 5 (by simp)
            simp only [PPu] at h5
            rw [h0, h2, h3, h5]
            have htab := HY.out.pv.grow HF.out hg (fun k hs => by rintro ⟨j, _, hne, _, hw⟩; exact hw.elim (fun h => hne h.1) (fun h => HY.out.dj k hs h.2)) hbel
            have hrd := (HBUF.out.reads512 HBL.out).growx hg (fun k e hw => by have e2 : gb = k := (by simpa [Value.ownBlock] using e); subst e2; obtain ⟨j, _, _, _, hw⟩ := hw; exact hw.elim (fun h => HGB.out.1 h.2) (fun h => HGB.out.2.1 h.2))
            go_wp2_with fail
            refine (HPU.out _ _ htab hrd (fun k e hs => by have e2 : gb = k := (by simpa [Value.ownBlock] using e); subst e2; exact HGB.out.1 hs)).mono ?_
            rintro e wc ⟨T, rfl, h3, h4⟩
            go_wp2
            exact ⟨_, rfl, h4.grow.mono (fun k hk => .inl ⟨rfl, hk⟩), rfl, hzl, T, h3, fun k hk => (h4.new k hk).elim .inl (fun h => .inr ⟨h, (h3.lt HF.out k hk).2⟩)⟩
          | 7, _ =>
            obtain rfl := Option.some.inj ho
            clear ho
            simp only [actsD, List.getD_cons_zero, List.getD_cons_succ, List.foldl_cons, List.foldl_nil, Act.put, List.setIfInBounds_toArray, List.set_cons_succ, List.set_cons_zero]
            go_wp2
            exact ⟨_, rfl, grow_below (Below.refl _ _), rfl⟩
          | 8, _ =>
            obtain rfl := Option.some.inj ho
            clear ho
            simp only [actsD, List.getD_cons_zero, List.getD_cons_succ, List.foldl_cons, List.foldl_nil, Act.put, List.setIfInBounds_toArray, List.set_cons_succ, List.set_cons_zero]
            go_wp2
            exact ⟨_, rfl, grow_below (Below.refl _ _), rfl⟩
          | 9, _ =>
            obtain rfl := Option.some.inj ho
            clear ho
            simp only [actsD, List.getD_cons_zero, List.getD_cons_succ, List.foldl_cons, List.foldl_nil, Act.put, List.setIfInBounds_toArray, List.set_cons_succ, List.set_cons_zero]
            obtain ⟨_, _, _, h8⟩ := hp 8 (by simp)
            simp only [PPu] at h8
            rw [h8]
            have e0 := (HBY.out.growx hg (by rintro ⟨j, _, _, _, hw⟩; exact hw.elim (fun h => HSX.out.1 h.2) (fun h => HSX.out.2.1 h.2))).cell 1 _ rfl
            go_wp2
            exact ⟨_, rfl, grow_below (Below.refl _ _), rfl⟩
          | 10, _ =>
            obtain rfl := Option.some.inj ho
            clear ho
            simp only [actsD, List.getD_cons_zero, List.getD_cons_succ, List.foldl_cons, List.foldl_nil, Act.put, List.setIfInBounds_toArray, List.set_cons_succ, List.set_cons_zero]
            go_wp2
            exact ⟨_, rfl, grow_below (Below.refl _ _), rfl⟩
          | 11, _ =>
            obtain rfl := Option.some.inj ho
            clear ho
            simp only [actsD, List.getD_cons_zero, List.getD_cons_succ, List.foldl_cons, List.foldl_nil, Act.put, List.setIfInBounds_toArray, List.set_cons_succ, List.set_cons_zero]
            obtain ⟨_, _, _, h10⟩ := hp 10 (by simp)
            simp only [PPu] at h10
            rw [h10]
            have hrd := (HBUF.out.reads512 HBL.out).growx hg (fun k e hw => by have e2 : gb = k := (by simpa [Value.ownBlock] using e); subst e2; obtain ⟨j, _, _, _, hw⟩ := hw; exact hw.elim (fun h => HGB.out.1 h.2) (fun h => HGB.out.2.1 h.2))
            have hcv := run_str_reads Try.underlying37 Try.underlying5 Try.underlying9 bx hrd
            go_wp2
            exact ⟨_, rfl, grow_below (Below.refl _ _), rfl⟩
          | 12, _ =>
            obtain rfl := Option.some.inj ho
            clear ho
            simp only [actsD, List.getD_cons_zero, List.getD_cons_succ, List.foldl_cons, List.foldl_nil, Act.put, List.setIfInBounds_toArray, List.set_cons_succ, List.set_cons_zero]
            go_wp2
            exact ⟨_, rfl, grow_below (Below.refl _ _), rfl⟩
          | 13, _ =>
            obtain rfl := Option.some.inj ho
            clear ho
            simp only [actsD, List.getD_cons_zero, List.getD_cons_succ, List.foldl_cons, List.foldl_nil, Act.put, List.setIfInBounds_toArray, List.set_cons_succ, List.set_cons_zero]
            obtain ⟨_, _, _, h12⟩ := hp 12 (by simp)
            simp only [PPu] at h12
            rw [h12]
            have e0 := (HBY.out.growx hg (by rintro ⟨j, _, _, _, hw⟩; exact hw.elim (fun h => HSX.out.1 h.2) (fun h => HSX.out.2.1 h.2))).cell 3 _ rfl
            go_wp2
            exact ⟨_, rfl, grow_below (Below.refl _ _), rfl⟩
          | 14, _ =>
            obtain rfl := Option.some.inj ho
            clear ho
            simp only [actsD, List.getD_cons_zero, List.getD_cons_succ, List.foldl_cons, List.foldl_nil, Act.put, List.setIfInBounds_toArray, List.set_cons_succ, List.set_cons_zero]
            obtain ⟨_, _, _, h7⟩ := hp 7 (by simp)
            simp only [PPu] at h7
            obtain ⟨_, _, _, h9⟩ := hp 9 (by simp)
            simp only [PPu] at h9
            obtain ⟨_, _, _, h11⟩ := hp 11 (by simp)
            simp only [PPu] at h11
            obtain ⟨_, _, _, h13⟩ := hp 13 (by simp)
            simp only [PPu] at h13
            rw [h7, h9, h11, h13]
            have href := HY.out.rv.grow hg (fun k hs => by rintro ⟨j, _, hne, _, hw⟩; exact hw.elim (fun h => HY.out.dj k h.2 hs) (fun h => hne h.1)) hbel
            go_wp2_with fail
            refine (HRP.out _ _ href).mono ?_
            rintro e wc ⟨T, rfl, h3, h4⟩
            go_wp2
            exact ⟨_, rfl, h4.grow.mono (fun k hk => .inr ⟨rfl, hk⟩), rfl, hzl, T, h3, fun k hk => (h4.new k hk).elim .inl (fun h => .inr ⟨h, (h3.lt k hk).2⟩)⟩
          | (q + 15), hq => exact absurd hq (by omega)
        intro vS lo hi w5 hg hp
        generalize hLL : List.drop 15 _ = LL
        simp only [List.drop_succ_cons, List.drop_zero, List.drop_nil] at hLL
        intro hd
        obtain ⟨aA, bA, dA, hA⟩ := hp 6 (by decide)
        obtain ⟨aB, bB, dB, hB⟩ := hp 14 (by decide)
        replace hA := hA (by decide)
        replace hB := hB (by decide)
        have hdd := hd 6 14 (by omega) (by omega) (by omega)
        simp only [PPu] at hA hB
        obtain ⟨eA, zA, T1, qA, nA⟩ := hA
        obtain ⟨eB, zB, T2, qB, nB⟩ := hB
        clear hp hd
        have hsep5 : Disj T1 T2 := fun k hs hr => (nA k hs).elim (fun hs => (nB k hr).elim (fun hr => HY.out.dj k hs hr) (fun hr => by have := (HSL.out k hs).2; omega)) (fun hs => (nB k hr).elim (fun hr => by have := (HRL.out k hr).2; omega) (fun hr => by omega))
        have HJ := Lib.hid (QAt.join qA qB hsep5 HY.out HST.out)
        have hbe : (re == re) = true := by simp
        subst hLL
        have hr : List.range 15 = [0, 1, 2, 3, 4, 5, 6, 7, 8, 9, 10, 11, 12, 13, 14] := rfl
        rw [hr]
        clear hr
        simp only [List.drop_succ_cons, List.drop_zero, List.drop_nil, actsD, List.getD_cons_zero, List.getD_cons_succ, List.foldl_cons, List.foldl_nil, Act.put, List.setIfInBounds_toArray, List.set_cons_succ, List.set_cons_zero, eA, eB]
        have HJB : Hid (Buf w5 gb bx) := Lib.hid (HBUF.out.growx hg (by rintro ⟨j, _, hw⟩; exact hw.elim (fun h => HGB.out.1 h.2) (fun h => HGB.out.2.1 h.2)))
        have HGB2 : Hid (¬ T1 gb ∧ ¬ T2 gb ∧ w.heap.size ≤ gb) := Lib.hid ⟨fun h => (nA gb h).elim HGB.out.1 (fun h => by have := HGB.out.2.2.2; omega), fun h => (nB gb h).elim HGB.out.2.1 (fun h => by have := HGB.out.2.2.2; omega), HGB.out.2.2.1⟩
        clear zA qA nA zB qB nB hdd aA bA dA aB bB dB hsep5
        go_wp2_with fail
        have HBX2 := Lib.hid (show Buf w5 gb bx ∧ bx.length = 512 from ⟨HJB.out, HBL.out⟩)
        go_loopw [25] (fun i wx => ∃ (j : Nat) (cs : List UInt8), j ≤ 512 ∧ i = .int .i64 j ∧ Buf wx gb cs ∧ cs.length = 512 ∧ QAt w g f dd nn tb bb r bad (k + 1) p2 fo2 T1 T2 wx) (fun i _ => 512 - (intOf i).toNat)
        case atStart => exact ⟨0, _, Nat.zero_le _, rfl, HBX2.out.1, HBX2.out.2, HJ.out⟩
        case round =>
          obtain ⟨j, cs, hj, rfl, hbuf, hcs, hat⟩ := hrel
          have HA := Lib.hid hat
          have HR := Lib.hid hbuf
          have HCS := Lib.hid hcs
          by_cases hjm : j < 512
          case neg =>
            have hjb : decide (j < 512) = false := by simpa using hjm
            have hjb2 : decide ((j : Int) < 512) = false := by simp; omega
            clear hjm hat hbuf hcs
            go_wp2_with fail
            go_meet
            exact ⟨p2, fo2, T1, T2, rfl, HA.out⟩
          have hjb : decide (j < 512) = true := by simpa using hjm
          have hjb2 : decide ((j : Int) < 512) = true := by simp; omega
          have hjl : j < cs.length := by omega
          have hcl := hbuf.cell j (B cs[j]) (by rw [List.getElem?_map, List.getElem?_eq_getElem hjl]; rfl)
          generalize cs[j] = u8 at hcl
          have hfz := fun o => frozen_of_row' hbuf o
          have hglt := hbuf.lt
          clear hat hbuf hcs hjl
          go_wp2_with fail
          go_roundw
          · exact ⟨j + 1, _, by omega, by go_num, HR.out.set j (by have := HCS.out; omega) 1, (by rw [List.length_set]; exact HCS.out), HA.out.mine gb HGB2.out.2.2 HGB2.out.1 HGB2.out.2.1 (growX_setCell _ _ _ _)⟩
          · simp [intOf]; omega
      case neg =>
      have hkb1 : (xk == 1) = false := by simpa using hx1
      clear hx1
      by_cases hx2 : xk = 2
      case pos =>
        have hkb : (xk == 2) = true := by simpa using hx2
        clear hx2
        have HSL := Lib.hid HQ.out.lt1
        have HRL := Lib.hid HQ.out.lt2
        have HY := Lib.hid HQ.out
        have HBY := Lib.hid HBX.out
        clear c0 c1 c2 c3 cfz clt
        have c0 := HBX.out.cell 0 _ rfl
        have clt := HBX.out.lt
        have hst := evict_st bad 60 p fo xp
        have hpu := fun (w' : World) (T : Nat → Prop) (h : PV w g nn f dd 0 6 (.func (.func 17) #[] #[.pointer (some ⟨tb, 0, none⟩), .pointer (some ⟨bb, 0, none⟩)]) (PF w tb bb bad) p fo T w') => evict_pv HF.out h xp HW1.out HF1.out
        have hrp := fun (w' : World) (T : Nat → Prop) (h : RV w r nn 6 bad 60 p fo T w') => revict_rv (by decide) h xp HW1.out HF1.out
        obtain ⟨rr, hrr⟩ : ∃ r, p.evict (stepP bad 60) fo xp = r := ⟨_, rfl⟩
        simp only [hrr] at hst hpu hrp
        obtain ⟨re, p2, fo2⟩ := rr
        simp only at hst hpu hrp
        have HST := Lib.hid hst
        have HPU := Lib.hid hpu
        have HRP := Lib.hid hrp
        clear hrr hst hpu hrp
        obtain ⟨wy, hwy⟩ : ∃ x, x = wb := ⟨_, rfl⟩
        subst hwy
        go_upto_region 30 with (fail)
        clear c0 clt
        obtain ⟨HZN, hHZN⟩ : ∃ x, wy.heap.size = x := ⟨_, rfl⟩
        rw [hHZN] at HSL HRL
        refine wp_region_partsDK (WQ 3 7 S1 S2) 8 [[], [], [1], [0, 1, 2], [], [], [5], [0, 1, 2, 3, 4, 5, 6]] [some 157, some 158, some 159, some 160, some 161, some 162, some 163, some 164, some 165, some 18] [[], [], [1], [0, 2], [], [], [5], [4, 6]] [3, 7] [] (by decide) (by kernel_rfl) (by kernel_rfl) rfl (PEv w g f dd nn tb bb r xb bad xp HZN S1 S2 re p2 fo2) (PEv_stable w g f dd nn tb bb r xb bad xp HZN S1 S2 re p2 fo2 HSL.out HRL.out HY.out.dj) ?pPEv ?_
        case pPEv =>
          intro i hi o ho vs lo hx_ w' hg hp
          have hbel : Below w.heap.size w w' := WQ.below HSL.out HRL.out (fun b ⟨j, _, _, _, h⟩ => ⟨j, h⟩) hg HY.out.pv.bel
          have hzl : HZN ≤ w'.heap.size := by rw [← hHZN]; exact hg.size
          match i, hi with
          | 0, _ =>
            obtain rfl := Option.some.inj ho
            clear ho
            simp only [actsD, List.getD_cons_zero, List.getD_cons_succ, List.foldl_cons, List.foldl_nil, Act.put, List.setIfInBounds_toArray, List.set_cons_succ, List.set_cons_zero]
            go_wp2
            exact ⟨_, rfl, grow_below (Below.refl _ _), rfl⟩
          | 1, _ =>
            obtain rfl := Option.some.inj ho
            clear ho
            simp only [actsD, List.getD_cons_zero, List.getD_cons_succ, List.foldl_cons, List.foldl_nil, Act.put, List.setIfInBounds_toArray, List.set_cons_succ, List.set_cons_zero]
            go_wp2
            exact ⟨_, rfl, grow_below (Below.refl _ _), rfl⟩
          | 2, _ =>
            obtain rfl := Option.some.inj ho
            clear ho
            simp only [actsD, List.getD_cons_zero, List.getD_cons_succ, List.foldl_cons, List.foldl_nil, Act.put, List.setIfInBounds_toArray, List.set_cons_succ, List.set_cons_zero]
            obtain ⟨_, _, _, h1⟩ := hp 1 (by simp)
            simp only [PEv] at h1
            rw [h1]
            have e0 := (HBY.out.growx hg (by rintro ⟨j, _, _, _, hw⟩; exact hw.elim (fun h => HSX.out.1 h.2) (fun h => HSX.out.2.1 h.2))).cell 1 _ rfl
            go_wp2
            exact ⟨_, rfl, grow_below (Below.refl _ _), rfl⟩
          | 3, _ =>
            obtain rfl := Option.some.inj ho
            clear ho
            simp only [actsD, List.getD_cons_zero, List.getD_cons_succ, List.foldl_cons, List.foldl_nil, Act.put, List.setIfInBounds_toArray, List.set_cons_succ, List.set_cons_zero]
            obtain ⟨_, _, _, h0⟩ := hp 0 (by simp)
            simp only [PEv] at h0
            obtain ⟨_, _, _, h2⟩ := hp 2 (by simp)
            simp only [PEv] at h2
            rw [h0, h2]
            have htab := HY.out.pv.grow HF.out hg (fun k hs => by rintro ⟨j, _, hne, _, hw⟩; exact hw.elim (fun h => hne h.1) (fun h => HY.out.dj k hs h.2)) hbel
            go_wp2_with fail
            refine (HPU.out _ _ htab).mono ?_
            rintro e wc ⟨T, rfl, h3, h4⟩
            go_wp2
            exact ⟨_, rfl, h4.grow.mono (fun k hk => .inl ⟨rfl, hk⟩), rfl, hzl, T, h3, fun k hk => (h4.new k hk).elim .inl (fun h => .inr ⟨h, (h3.lt HF.out k hk).2⟩)⟩
          | 4, _ =>
            obtain rfl := Option.some.inj ho
            clear ho
            simp only [actsD, List.getD_cons_zero, List.getD_cons_succ, List.foldl_cons, List.foldl_nil, Act.put, List.setIfInBounds_toArray, List.set_cons_succ, List.set_cons_zero]
            go_wp2
            exact ⟨_, rfl, grow_below (Below.refl _ _), rfl⟩
          | 5, _ =>
            obtain rfl := Option.some.inj ho
            clear ho
            simp only [actsD, List.getD_cons_zero, List.getD_cons_succ, List.foldl_cons, List.foldl_nil, Act.put, List.setIfInBounds_toArray, List.set_cons_succ, List.set_cons_zero]
            go_wp2
            exact ⟨_, rfl, grow_below (Below.refl _ _), rfl⟩
          | 6, _ =>
            obtain rfl := Option.some.inj ho
            clear ho
            simp only [actsD, List.getD_cons_zero, List.getD_cons_succ, List.foldl_cons, List.foldl_nil, Act.put, List.setIfInBounds_toArray, List.set_cons_succ, List.set_cons_zero]
            obtain ⟨_, _, _, h5⟩ := hp 5 (by simp)
            simp only [PEv] at h5
            rw [h5]
            have e0 := (HBY.out.growx hg (by rintro ⟨j, _, _, _, hw⟩; exact hw.elim (fun h => HSX.out.1 h.2) (fun h => HSX.out.2.1 h.2))).cell 1 _ rfl
            go_wp2
            exact ⟨_, rfl, grow_below (Below.refl _ _), rfl⟩
          | 7, _ =>
            obtain rfl := Option.some.inj ho
            clear ho
            simp only [actsD, List.getD_cons_zero, List.getD_cons_succ, List.foldl_cons, List.foldl_nil, Act.put, List.setIfInBounds_toArray, List.set_cons_succ, List.set_cons_zero]
            obtain ⟨_, _, _, h4⟩ := hp 4 (by simp)
            simp only [PEv] at h4
            obtain ⟨_, _, _, h6⟩ := hp 6 (by simp)
            simp only [PEv] at h6
            rw [h4, h6]
            have href := HY.out.rv.grow hg (fun k hs => by rintro ⟨j, _, hne, _, hw⟩; exact hw.elim (fun h => HY.out.dj k h.2 hs) (fun h => hne h.1)) hbel
            go_wp2_with fail
            refine (HRP.out _ _ href).mono ?_
            rintro e wc ⟨T, rfl, h3, h4⟩
            go_wp2
            exact ⟨_, rfl, h4.grow.mono (fun k hk => .inr ⟨rfl, hk⟩), rfl, hzl, T, h3, fun k hk => (h4.new k hk).elim .inl (fun h => .inr ⟨h, (h3.lt k hk).2⟩)⟩
          | (q + 8), hq => exact absurd hq (by omega)
        intro vS lo hi w5 hg hp
        generalize hLL : List.drop 8 _ = LL
        simp only [List.drop_succ_cons, List.drop_zero, List.drop_nil] at hLL
        intro hd
        obtain ⟨aA, bA, dA, hA⟩ := hp 3 (by decide)
        obtain ⟨aB, bB, dB, hB⟩ := hp 7 (by decide)
        replace hA := hA (by decide)
        replace hB := hB (by decide)
        have hdd := hd 3 7 (by omega) (by omega) (by omega)
        simp only [PEv] at hA hB
        obtain ⟨eA, zA, T1, qA, nA⟩ := hA
        obtain ⟨eB, zB, T2, qB, nB⟩ := hB
        clear hp hd
        have hsep5 : Disj T1 T2 := fun k hs hr => (nA k hs).elim (fun hs => (nB k hr).elim (fun hr => HY.out.dj k hs hr) (fun hr => by have := (HSL.out k hs).2; omega)) (fun hs => (nB k hr).elim (fun hr => by have := (HRL.out k hr).2; omega) (fun hr => by omega))
        have HJ := Lib.hid (QAt.join qA qB hsep5 HY.out HST.out)
        have hbe : (re == re) = true := by simp
        subst hLL
        have hr : List.range 8 = [0, 1, 2, 3, 4, 5, 6, 7] := rfl
        rw [hr]
        clear hr
        simp only [List.drop_succ_cons, List.drop_zero, List.drop_nil, actsD, List.getD_cons_zero, List.getD_cons_succ, List.foldl_cons, List.foldl_nil, Act.put, List.setIfInBounds_toArray, List.set_cons_succ, List.set_cons_zero, eA, eB]
        clear zA qA nA zB qB nB hdd aA bA dA aB bB dB hsep5
        go_wp2_with fail
        go_meet
        exact ⟨p2, fo2, T1, T2, rfl, HJ.out⟩
      case neg =>
        have hkb2 : (xk == 2) = false := by simpa using hx2
        clear hx2
        go_wp2_with fail
        go_meet
        exact ⟨p, fo, S1, S2, rfl, HQ.out.more (by omega)⟩
    case rest =>
      obtain ⟨p', fo', S1', S2', rfl, hat⟩ := hcut
      have HA := Lib.hid hat
      rename_i hK
      clear hat HBX HSX HQ HW1 HF1
      refine hK _ _ (rest_any w wc bad n nn k g f dd tb bb r p' fo' S1' S2' _ _ _ _ _ _ _ _ _ _ _ _ _ _ _ _ _ _ _ _ _ _ _ _ _ _ _ _ _ _ _ _ _ _ _ _ _ _ _ _ _ _ _ _ _ _ _ _ _ _ _ _ _ _ _ _ _ _ _ _ _ _ _ _ _ _ _ _ _ _ _ _ _ _ _ _ _ _ _ _ _ _ _ _ _ _ _ _ _ _ _ _ _ _ _ _ _ _ _ _ _ _ _ _ _ _ _ _ _ _ _ _ _ _ _ _ _ _ _ _ _ _ _ _ _ _ _ _ _ _ _ _ _ _ _ _ _ _ _ _ _ _ _ _ _ _ _ _ _ _ _ _ _ _ _ _ _ _ _ _ _ _ _ _ _ _ _ _ _ _ _ _ _ _ _ _ _ _ _ _ _ _ _ _ _ _ _ _ _ _ _ _ _ _ _ _ _ _ _ _ _ _ _ _ _ _ _ _ _ _ _ _ _ _ _ _ _ _ _ _ _ _ _ _ _ _ _ _ _ _ _ _ _ _ _ _ _ _ _ _ _ _ _ hn hnn hkn hk1 HF HA _ (Lib.hid ?_))
      intro t6 t17 t18 t19 t20 t21 t22 t23 t24 t25 t26 t27 t28 t66 t67 t68 t69 t70 t71 t72 t73 t74 t75 t76 t77 t78 t79 t80 t81 t82 t83 t84 t85 t86 t87 t88 t89 t90 t91 t92 t93 t94 t95 t96 t97 t98 t99 t100 t101 t102 t103 t104 t105 t106 t107 t108 t109 t110 t111 t112 t113 t114 t115 t116 t117 t118 t119 t120 t121 t122 t123 t124 t125 t126 t127 t128 t129 t130 t131 t132 t133 t134 t135 t136 t137 t138 t139 t140 t141 t142 t143 t144 t145 t146 t147 t148 t149 t150 t151 t152 t153 t154 t155 t156 t157 t158 t159 t160 t161 t162 t163 t164 t165 t166 t167 t168 t169 t170 t171 t172 t173 t174 t175 t176 t177 t178 t179 t180 t181 t182 t183 t184 t185 t186 t187 t188 t189 t190 t191 t192 t193 t194 t195 t196 t197 t198 t199 t200 t201 t202 t203 t204 t205 t206 t207 t208 t209 t210 t211 t212 t213 t214 t215 t216 t217 t218 t219 t220 t221 t222 t223 t224 t225 t226 t227 t228 t229 wq hwq
      have HWQ := Lib.hid hwq
      clear hwq HA
      go_wp2_with fail
      go_roundw
      · exact ⟨k + 1, p', fo', S1', S2', by omega, by omega, by go_num, HWQ.out⟩
      · simp [intOf]; omega
end Go.Proofs.Ytdnjjdpenfhpeaa

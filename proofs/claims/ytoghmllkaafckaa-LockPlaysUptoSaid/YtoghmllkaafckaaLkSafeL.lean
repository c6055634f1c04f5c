/- The law LockSafe, walked. Conditions: at most 349525 wants in all. -/
import Derived.Test.YtoghmllkaafckaaLkSafe
namespace Go.Proofs.Ytoghmllkaafckaa
set_option linter.unusedSimpArgs false
set_option linter.unusedVariables false
open Go.RowKit

theorem Scs.at {w : World} {v : Value} {n : Nat} {l : List Sc} (h : Reads 3 w v n (ocells l)) (k : Nat) (hk : k < n) (e : Sc) (hu : l[k]? = some e) :
    ∃ b o c, v = .slice (some ⟨b, o, none⟩) n c ∧ b < w.heap.size ∧ n ≤ c ∧ w.cell? ⟨b, o + k * 3, none⟩ = some (.int .i64 e.1) ∧ w.cell? ⟨b, o + k * 3 + 1, none⟩ = some (.int .i64 e.2.1) ∧ w.cell? ⟨b, o + k * 3 + 2, none⟩ = some e.2.2.1 := by
  obtain ⟨ao, c, rfl, hl, hc, hr⟩ := h
  obtain ⟨b, o, rfl, hb, hcell⟩ := hr (by omega)
  obtain ⟨h1, h2, h3⟩ := ocells_at l k e hu
  exact ⟨b, o, c, rfl, hb, hc, hcell _ _ h1, hcell _ _ h2, hcell _ _ h3⟩
theorem scW_snoc (l : List Sc) (x : Sc) : scW (l ++ [x]) = scW l + x.2.2.2.length := by simp [scW]
theorem scW_take (l : List Sc) (k : Nat) : scW (l.take k) ≤ scW l := by
  have h : l = l.take k ++ l.drop k := (List.take_append_drop k l).symm
  have : scW l = scW (l.take k) + scW (l.drop k) := by
    simp only [scW]
    rw [← List.sum_append, ← List.map_append, List.take_append_drop]
  omega
theorem scW_mem {l : List Sc} {x : Sc} (h : x ∈ l) : x.2.2.2.length ≤ scW l := by
  induction l with
  | nil => cases h
  | cons y r ih =>
    rcases List.mem_cons.1 h with rfl | h
    · simp [scW]
    · have := ih h; simp only [scW, List.map_cons, List.sum_cons] at *; omega

def WSf23 (tb ib q cb ax bx N : Nat) (T : List Hd) (xa xb : Int) (j b o : Nat) : Prop := False
def PSf23 (tb ib q cb ax bx N : Nat) (T : List Hd) (xa xb : Int) (i : Nat) (v : Value) (lo hi : Nat) (w : World) : Prop :=
  match i with
  | 0 => v = .slice (some ⟨ib, 0, none⟩) q cb
  | 1 => v = .int .i64 ((ax : Nat) : Int)
  | 2 => v = .pointer (some ⟨ib, ax, none⟩)
  | 3 => v = .int .i64 xa
  | 4 => v = .slice (some ⟨ib, 0, none⟩) q cb
  | 5 => v = .int .i64 ((bx : Nat) : Int)
  | 6 => v = .pointer (some ⟨ib, bx, none⟩)
  | 7 => v = .int .i64 xb
  | 8 => v = .bool true
  | 9 => v = .bool true
  | 10 => v = .pointer (some ⟨tb, 0, none⟩)
  | 11 => v = .slice (some ⟨ib, 0, none⟩) q cb
  | 12 => v = .int .i64 ((ax : Nat) : Int)
  | 13 => v = .pointer (some ⟨ib, ax, none⟩)
  | 14 => v = .int .i64 xa
  | 15 => ∃ c ao m cp, v = .slice ao m cp ∧ IsHeld T xa c ∧ c.length = m ∧ m ≤ N ∧ Reads 2 w (.slice ao m cp) m (wcells c)
  | 16 => v = .pointer (some ⟨tb, 0, none⟩)
  | 17 => v = .slice (some ⟨ib, 0, none⟩) q cb
  | 18 => v = .int .i64 ((bx : Nat) : Int)
  | 19 => v = .pointer (some ⟨ib, bx, none⟩)
  | 20 => v = .int .i64 xb
  | 21 => ∃ c ao m cp, v = .slice ao m cp ∧ IsHeld T xb c ∧ c.length = m ∧ m ≤ N ∧ Reads 2 w (.slice ao m cp) m (wcells c)
  | 22 => v = .bool true
  | 23 => v = .bool false
  | _ => True
theorem PSf23_stable (tb ib q cb ax bx N : Nat) (T : List Hd) (xa xb : Int)  : ∀ i j, i < 24 → j < 24 → j ≠ i → j ∉ ([[], [], [0, 1], [0, 1, 2], [], [], [4, 5], [4, 5, 6], [0, 1, 2, 3, 4, 5, 6, 7], [0, 1, 2, 3, 4, 5, 6, 7, 8], [0, 1, 2, 3, 4, 5, 6, 7, 8, 9], [0, 1, 2, 3, 4, 5, 6, 7, 8, 9], [0, 1, 2, 3, 4, 5, 6, 7, 8, 9], [0, 1, 2, 3, 4, 5, 6, 7, 8, 9, 11, 12], [0, 1, 2, 3, 4, 5, 6, 7, 8, 9, 11, 12, 13], [0, 1, 2, 3, 4, 5, 6, 7, 8, 9, 10, 11, 12, 13, 14], [0, 1, 2, 3, 4, 5, 6, 7, 8, 9], [0, 1, 2, 3, 4, 5, 6, 7, 8, 9], [0, 1, 2, 3, 4, 5, 6, 7, 8, 9], [0, 1, 2, 3, 4, 5, 6, 7, 8, 9, 17, 18], [0, 1, 2, 3, 4, 5, 6, 7, 8, 9, 17, 18, 19], [0, 1, 2, 3, 4, 5, 6, 7, 8, 9, 10, 11, 12, 13, 14, 15, 16, 17, 18, 19, 20], [0, 1, 2, 3, 4, 5, 6, 7, 8, 9, 10, 11, 12, 13, 14, 15, 16, 17, 18, 19, 20, 21], [0, 1, 2, 3, 4, 5, 6, 7, 8, 9, 10, 11, 12, 13, 14, 15, 16, 17, 18, 19, 20, 21, 22]] : List (List Nat)).getD i [] → ∀ v lo hi w w', PSf23 tb ib q cb ax bx N T xa xb i v lo hi w → GrowC (WSf23 tb ib q cb ax bx N T xa xb j) w w' → PSf23 tb ib q cb ax bx N T xa xb i v lo hi w' := by
  intro i j hi hj hne hbs v lo hj2 w w' h hg
  match i, hi with
  | 0, _ =>
    simp only [PSf23] at h ⊢
    exact h
  | 1, _ =>
    simp only [PSf23] at h ⊢
    exact h
  | 2, _ =>
    simp only [PSf23] at h ⊢
    exact h
  | 3, _ =>
    simp only [PSf23] at h ⊢
    exact h
  | 4, _ =>
    simp only [PSf23] at h ⊢
    exact h
  | 5, _ =>
    simp only [PSf23] at h ⊢
    exact h
  | 6, _ =>
    simp only [PSf23] at h ⊢
    exact h
  | 7, _ =>
    simp only [PSf23] at h ⊢
    exact h
  | 8, _ =>
    simp only [PSf23] at h ⊢
    exact h
  | 9, _ =>
    simp only [PSf23] at h ⊢
    exact h
  | 10, _ =>
    simp only [PSf23] at h ⊢
    exact h
  | 11, _ =>
    simp only [PSf23] at h ⊢
    exact h
  | 12, _ =>
    simp only [PSf23] at h ⊢
    exact h
  | 13, _ =>
    simp only [PSf23] at h ⊢
    exact h
  | 14, _ =>
    simp only [PSf23] at h ⊢
    exact h
  | 15, _ =>
    simp only [PSf23] at h ⊢
    obtain ⟨c, ao, m, cp, h1, h2, h3, h4, h5⟩ := h
    exact ⟨c, ao, m, cp, h1, h2, h3, h4, h5.below (hg.below (fun k hk => ⟨hk, fun o hw => hw⟩)) (Nat.le_refl _)⟩
  | 16, _ =>
    simp only [PSf23] at h ⊢
    exact h
  | 17, _ =>
    simp only [PSf23] at h ⊢
    exact h
  | 18, _ =>
    simp only [PSf23] at h ⊢
    exact h
  | 19, _ =>
    simp only [PSf23] at h ⊢
    exact h
  | 20, _ =>
    simp only [PSf23] at h ⊢
    exact h
  | 21, _ =>
    simp only [PSf23] at h ⊢
    obtain ⟨c, ao, m, cp, h1, h2, h3, h4, h5⟩ := h
    exact ⟨c, ao, m, cp, h1, h2, h3, h4, h5.below (hg.below (fun k hk => ⟨hk, fun o hw => hw⟩)) (Nat.le_refl _)⟩
  | 22, _ =>
    simp only [PSf23] at h ⊢
    exact h
  | 23, _ =>
    simp only [PSf23] at h ⊢
    exact h
  | (q + 24), hq => exact absurd hq (by omega)

/-- where the walk of a script stands -/
structure At5 (w : World) (tb : Nat) (T : List Hd) (N : Nat) (S : Nat → Prop) (bo : Option Addr) (q cb : Nat) (ids : List Int) (wr : World) : Prop where
  own : wr.ownsRow w.heap.size 3 1 (.slice bo q cb) q (ids.map (Value.int .i64))
  len : ids.length = q
  tab : LT w tb T N S wr
  sep : Disj S (rowOf (.slice bo q cb))
  uniq : Uniq T
  safe : SafeL T
theorem At5.below {w wr wr' : World} {tb N q cb : Nat} {T : List Hd} {S : Nat → Prop} {bo : Option Addr} {ids : List Int} (h : At5 w tb T N S bo q cb ids wr) (hb : Below wr.heap.size wr wr') : At5 w tb T N S bo q cb ids wr' :=
  ⟨own_below h.own hb (fun q e => (h.own.lt q e).2), h.len, h.tab.below hb, h.sep, h.uniq, h.safe⟩

set_option maxRecDepth 100000 in
set_option maxHeartbeats 12800000 in
theorem safe_any (sc : List Sc) (v : Value) (n : Nat) (hl : sc.length = n) (hn : n ≤ maxLen) (hw : 3 * scW sc ≤ 1048576) (w : World) (hv : Reads 3 w v n (ocells sc)) (hr : ∀ o ∈ sc, Reads 2 w o.2.2.1 o.2.2.2.length (wcells o.2.2.2)) :
    Calls Try.prog 5 #[v] w (True2 w) := by
  have hn' : n ≤ 9223372036854775807 := hn
  clear hn
  obtain ⟨av, cv, rfl⟩ := hv.shape
  have HL := Lib.hid hl
  have HV := Lib.hid hv
  have HR := Lib.hid hr
  clear hl hv hr
  go_enter Try.func5, Try.ntmps5
  go_wp2_with fail
  refine (new_lt w w (Below.refl _ _)).mono ?_
  rintro e w1 ⟨tb, S0, rfl, ht, _, hb1⟩
  have HT1 := Lib.hid ht
  clear ht hb1
  go_wp2_with fail
  go_loopw [4, 5] (fun s i wr => ∃ (k q cb : Nat) (bo : Option Addr) (ids : List Int) (T : List Hd) (S : Nat → Prop), k ≤ n ∧ k ≤ 50 ∧ i = .int .i64 k ∧ s = .slice bo q cb ∧ q ≤ k ∧
      At5 w tb T (scW (sc.take k)) S bo q cb ids wr) (fun _ i _ => n - (intOf i).toNat)
  case atStart => exact ⟨0, 0, 0, none, [], [], S0, Nat.zero_le _, Nat.zero_le _, rfl, rfl, Nat.le_refl _, ⟨World.ownsRow_nil _ _ _ _, rfl, HT1.out, (fun k _ h => by cases h), uniq_nil, safe_nil⟩⟩
  case round =>
    obtain ⟨k, q, cb, bo, ids, T, S, hk, hk50, rfl, rfl, hqk, hat⟩ := hrel
    have HAT := Lib.hid hat
    clear hat HT1
    have hswk := scW_take sc k
    by_cases hlt : k < n
    case neg =>
      have hb1 : decide (k < n) = false := by simpa using hlt
      go_wp2_with (go_at_call 12; refine (awake_any _).mono ?_; rintro e wz ⟨rfl, hbz⟩)
      go_ret
      exact ⟨rfl, HAT.out.tab.bel.trans (hbz.mono HAT.out.tab.bel.size)⟩
    have hb1 : decide (k < n) = true := by simpa using hlt
    by_cases h50 : k < 50
    case neg =>
      have hb2 : decide (k < 50) = false := by simpa using h50
      have hb3 : decide ((k : Int) < 50) = false := by simp; omega
      go_wp2_with (go_at_call 12; refine (awake_any _).mono ?_; rintro e wz ⟨rfl, hbz⟩)
      go_ret
      exact ⟨rfl, HAT.out.tab.bel.trans (hbz.mono HAT.out.tab.bel.size)⟩
    have hb3 : decide ((k : Int) < 50) = true := by simp; omega
    have hkl : k < sc.length := by rw [HL.out]; exact hlt
    have hts : scW (sc.take (k + 1)) = scW (sc.take k) + sc[k].2.2.2.length := by rw [List.take_succ_eq_append_getElem hkl, scW_snoc]
    have hsm := scW_take sc (k + 1)
    obtain ⟨b, o, c', e, hb, _, hc1, hc2, hc3⟩ := Scs.at HV.out k hlt sc[k] (List.getElem?_eq_getElem hkl)
    injection e with e1 e2 e3
    subst e1 e3
    have HRO := Lib.hid (HR.out sc[k] (List.getElem_mem hkl))
    generalize sc[k] = x at *
    obtain ⟨x1, x2, vl, lw⟩ := x
    obtain ⟨al, cl, hvl⟩ := HRO.out.shape
    simp only at hc1 hc2 hc3 hts hvl
    subst hvl
    obtain ⟨N, hN0⟩ : ∃ N, scW (sc.take k) = N := ⟨_, rfl⟩
    obtain ⟨nl, hnl⟩ : ∃ nl, lw.length = nl := ⟨_, rfl⟩
    rw [hnl] at hts HRO hc3
    rw [hN0] at hts HAT hswk
    have HNL := Lib.hid hnl
    have HTS := Lib.hid hts
    have hNb : N + nl ≤ 349525 := by omega
    have HAT0 := HAT.out.tab.bel
    have hd1 := (HAT0.cell (p := ⟨b, o + k * 3, none⟩) hb).trans hc1
    have hd2 := (HAT0.cell (p := ⟨b, o + k * 3 + 1, none⟩) hb).trans hc2
    have hd3 := (HAT0.cell (p := ⟨b, o + k * 3 + 2, none⟩) hb).trans hc3
    try simp only at hd1 hd2 hd3
    clear hc1 hc2 hc3 hkl e2 hnl hts hsm hswk hN0
    obtain ⟨gx, hgx⟩ : ∃ g, wr.heap.size = g := ⟨_, rfl⟩
    have HGX := Lib.hid hgx
    have hal : Below wr.heap.size wr (wr.alloc (.cells #[.int .i64 x1, .int .i64 x2, .slice al nl cl] 32)) := (Below.refl wr.heap.size wr).alloc (Nat.le_refl _) _
    have HBX := Lib.hid (Box.new wr #[.int .i64 x1, .int .i64 x2, .slice al nl cl] 32 hgx.symm)
    have HAT1 := Lib.hid (HAT.out.below hal)
    have HSX : Hid (∀ k, S k → k ≠ gx) := Lib.hid (fun k hk => by have := (HAT.out.tab.lt k hk).2; omega)
    have HQX : Hid (∀ k, rowOf (.slice bo q cb) k → k ≠ gx) := Lib.hid (fun k hk => by have := (HAT.out.own.lt k hk).2; omega)
    clear hal HAT0 HAT hgx hb
    by_cases hx1 : x1 = 2
    case pos =>
      have hb4 : (x1 == 2) = true := by simp [hx1]
      clear hx1
      go_wp2_with fail
      try rw [HGX.out]
      refine (release_lt HAT1.out.tab (by omega) x2).mono ?_
      rintro e w2 ⟨S2, rfl, ht2, hf2⟩
      have hbx2 := HBX.out.growx hf2.grow (fun hx => HSX.out gx hx rfl)
      have cx1 := hbx2.cell 1 _ rfl
      have HBX2 := Lib.hid hbx2
      have HAT2 : Hid (At5 w tb (releaseL T x2) N S2 bo q cb ids w2) := Lib.hid ⟨own_growx HAT1.out.own hf2.grow (fun k e hs => HAT1.out.sep k hs e), HAT1.out.len, ht2, hf2.disj HAT1.out.sep (fun k hk => (HAT1.out.own.lt k hk).2), uniq_releaseL HAT1.out.uniq x2, safe_release HAT1.out.safe x2⟩
      clear hbx2 ht2 hf2
      go_wp2_with fail
      refine (held_lt HAT2.out.tab (by omega) x2).mono ?_
      rintro e w3 ⟨c, ao, m, cp, rfl, g1, g2, _, _, g5⟩
      obtain rfl : m = 0 := by rw [← g2, g1.perm.length_eq, heldRaw_release]; rfl
      have HAT3 := Lib.hid (HAT2.out.below g5)
      clear g1 g2 g5 cx1
      go_wp2_with fail
      go_roundw
      case rel => exact ⟨k + 1, q, cb, bo, ids, _, S2, by omega, by omega, by go_num, rfl, by omega, ⟨HAT3.out.own, HAT3.out.len, HAT3.out.tab.more (by rw [HTS.out]; omega), HAT3.out.sep, HAT3.out.uniq, HAT3.out.safe⟩⟩
      case measure => simp [intOf]; omega
    case neg =>
      have hb4 : (x1 == 2) = false := by simp [hx1]
      clear hx1
      go_wp2_with fail
      try rw [HGX.out]
      refine (ask_lt HAT1.out.tab (by omega) x2 lw _ nl HNL.out (by omega) (HRO.out.below HAT1.out.tab.bel (Nat.le_refl _))).mono ?_
      rintro e w2 ⟨c, ao, m, cp, rfl, hask, hcm, hmb, _, hb2⟩
      have hbx2 := HBX.out.below hb2 (Nat.le_refl _)
      have cx1 := hbx2.cell 1 _ rfl
      have cx2 := hbx2.cell 2 _ rfl
      have HBX2 := Lib.hid hbx2
      have HAT2 := Lib.hid (HAT1.out.below hb2)
      obtain ⟨bt, hbt⟩ : ∃ bt, decide (0 < m) = bt := ⟨_, rfl⟩
      obtain ⟨T2, hT2⟩ : ∃ T2, (if m = 0 then tookL T x2 lw else T) = T2 := ⟨_, rfl⟩
      have HU2 : Hid (Uniq T2 ∧ SafeL T2) := Lib.hid (by
        rw [← hT2]
        split
        · rename_i h0
          have hc0 : c = [] := List.eq_nil_of_length_eq_zero (by rw [hcm, h0])
          rw [hc0] at hask
          exact ⟨uniq_tookL HAT1.out.uniq x2 lw, safe_took HAT1.out.safe hask⟩
        · exact ⟨HAT1.out.uniq, HAT1.out.safe⟩)
      have HTK : Hid (∀ W, LT w tb T N S W → Calls Try.prog 17 #[.pointer (some ⟨tb, 0, none⟩), .int .i64 x2, .slice al nl cl] W fun e w' => ∃ S', e = .returned (.bool (!bt)) ∧ LT w tb T2 (N + nl) S' w' ∧ Foot S S' W w') := Lib.hid (by
        intro W hW
        refine (take_lt hW (by omega) x2 lw _ nl HNL.out (by omega) (HRO.out.below hW.bel (Nat.le_refl _))).mono ?_
        rintro e w' ⟨c2, S', h1, rfl, h3, h4⟩
        have hcc : c2 = c := h1.eq HAT1.out.uniq HAT1.out.uniq (fun _ => Iff.rfl) hask
        rw [hcc, hcm] at h3 ⊢
        rw [hT2] at h3
        refine ⟨S', ?_, h3, h4⟩
        rw [← hbt]
        by_cases h0 : m = 0
        · simp [h0]
        · have : 0 < m := by omega
          simp [h0, this])
      clear hbx2 hb2 hask hcm hT2 HAT1 HBX
      go_wp2_with fail
      refine (HTK.out w2 HAT2.out.tab).mono ?_
      rintro e w3 ⟨S3, rfl, ht3, hf3⟩
      have hbx3 := HBX2.out.growx hf3.grow (fun hx => HSX.out gx hx rfl)
      have cy1 := hbx3.cell 1 _ rfl
      have HAT3 : Hid (At5 w tb T2 (N + nl) S3 bo q cb ids w3) := Lib.hid ⟨own_growx HAT2.out.own hf3.grow (fun k e hs => HAT2.out.sep k hs e), HAT2.out.len, ht3, hf3.disj HAT2.out.sep (fun k hk => (HAT2.out.own.lt k hk).2), HU2.out.1, HU2.out.2⟩
      have hbq : (!bt == bt) = false := by cases bt <;> rfl
      have hGw : w.heap.size ≤ w3.heap.size := ht3.bel.size
      clear hbx3 ht3 hf3 HTK HAT2 HU2 cx1 cx2
      have HAL3 : Hid ((w3.alloc (.cells #[.int .i64 x2] 3)).ownsRow w.heap.size 3 1 (.slice bo q cb) q (ids.map (Value.int .i64))) := Lib.hid (HAT3.out.own.alloc _)
      go_wp2_with (at_builtin; refine wpList_append_k intsOf (.tmp 56) (.tmp 59) rfl rfl (base := w.heap.size) rfl HAL3.out rfl rfl (news := [.int .i64 x2]) (by intro j u hu; rw [Addr.add_lit, World.cell?_alloc_at _ _ _ _ rfl]; simpa using hu) (by intro u hu; simp at hu; rcases hu with rfl; rfl) (by omega) (by omega) (by simp; omega) (by omega) ?_; intro ob cb4 w4 hown4 hgr4 hor4)
      have hal3 : Below w3.heap.size w3 (w3.alloc (.cells #[.int .i64 x2] 3)) := (Below.refl _ _).alloc (Nat.le_refl _) _
      have hgx4 : GrowX (rowOf (.slice bo q cb)) (w3.alloc (.cells #[.int .i64 x2] 3)) w4 := GrowX.of_growC hgr4 (fun k o h => h.1)
      have HAT4 : Hid (At5 w tb T2 (N + nl) S3 (some ⟨ob, 0, none⟩) (q + 1) cb4 (ids ++ [x2]) w4) := Lib.hid (by
        have h3 := HAT3.out.below hal3
        have hbel4 : Below w.heap.size w w4 := h3.tab.bel.trans (hgx4.below (fun k hk => ⟨by simp; omega, fun e => by have := (h3.own.lt k e).1; omega⟩))
        refine ⟨by rw [List.map_append]; exact hown4, by rw [List.length_append, h3.len]; rfl, h3.tab.grow hgx4 h3.sep hbel4, fun k hs e => ?_, h3.uniq, h3.safe⟩
        have e' : ob = k := by simpa [rowOf, Value.ownBlock] using e
        subst e'
        rcases hor4 with e2 | e2
        · exact h3.sep _ hs e2
        · have := (h3.tab.lt _ hs).2; omega)
      clear hal3 hgx4 hown4 hgr4 hor4 HAL3 HAT3 HBX2 cy1 hbq HSX HQX HGX HRO
      have hq50 : q + 1 ≤ 51 := by omega
      obtain ⟨wo, rfl⟩ : ∃ wo : World, wo = wr := ⟨_, rfl⟩
      go_loopw [8] (fun i wr => ∃ a : Nat, a ≤ q + 1 ∧ i = .int .i64 a ∧ At5 w tb T2 (N + nl) S3 (some ⟨ob, 0, none⟩) (q + 1) cb4 (ids ++ [x2]) wr) (fun i _ => q + 1 - (intOf i).toNat)
      case atStart => exact ⟨0, Nat.zero_le _, rfl, HAT4.out⟩
      case round =>
        obtain ⟨a, ha, rfl, hat⟩ := hrel
        have HAT := Lib.hid hat
        clear hat HAT4
        by_cases haq : a < q + 1
        · have hbq1 : decide ((a : Int) < (q : Int) + 1) = true := by simp; omega
          obtain ⟨wp, rfl⟩ : ∃ wp : World, wp = wr := ⟨_, rfl⟩
          go_wp2_with fail
          go_loopw [9] (fun i wr => ∃ b : Nat, b ≤ a ∧ i = .int .i64 b ∧ At5 w tb T2 (N + nl) S3 (some ⟨ob, 0, none⟩) (q + 1) cb4 (ids ++ [x2]) wr) (fun i _ => a - (intOf i).toNat)
          case atStart => exact ⟨0, Nat.zero_le _, rfl, HAT.out⟩
          case round =>
            obtain ⟨bx, hbx, rfl, hat⟩ := hrel
            have HAU := Lib.hid hat
            clear hat HAT hbq1
            by_cases hba : bx < a
            · have hla : a < (ids ++ [x2]).length := by rw [HAU.out.len]; exact haq
              have hlb : bx < (ids ++ [x2]).length := by rw [HAU.out.len]; omega
              obtain ⟨b1, o1, c1, e1, hb1l, _, hd1⟩ := Reads.at (Reads.of_own HAU.out.own) a haq (.int .i64 (ids ++ [x2])[a]) (by rw [List.getElem?_map, List.getElem?_eq_getElem hla]; rfl)
              obtain ⟨b2, o2, c2, e2, _, _, hd2⟩ := Reads.at (Reads.of_own HAU.out.own) bx (by omega) (.int .i64 (ids ++ [x2])[bx]) (by rw [List.getElem?_map, List.getElem?_eq_getElem hlb]; rfl)
              injection e1 with e11 e12 e13
              injection e11 with e11
              injection e11 with e11 e14
              subst e11 e14 e13
              clear e12
              injection e2 with e21 e22 e23
              injection e21 with e21
              injection e21 with e21 e24
              subst e21 e24
              clear e22 e23
              generalize (ids ++ [x2])[a] = xa at *
              generalize (ids ++ [x2])[bx] = xb at *
              simp only [Nat.zero_add] at hd1 hd2
              clear hla hlb
              by_cases hxab : xa = xb
              · have hbe : (xa != xb) = false := by simp [hxab]
                clear hxab
                go_wp2_with fail
                go_quiet (fail)
                have hq := below_dn (Below.refl wr.heap.size wr) nq
                go_wp2_with fail
                go_roundw
                case rel => exact ⟨bx + 1, by omega, by go_num, HAU.out.below hq⟩
                case measure => simp [intOf]; omega
              · have HLT := Lib.hid HAU.out.tab
                have hN : N + nl ≤ 1048576 := by omega
                have HSAFE := Lib.hid HAU.out.safe
                have hib := hb1l
                have hB : Below wr.heap.size wr wr := Below.refl _ _
                go_wp2_with fail
                refine wp_region_partsDC (WSf23 tb ob (q + 1) cb4 a bx (N + nl) T2 xa xb) 24 [[], [], [0, 1], [0, 1, 2], [], [], [4, 5], [4, 5, 6], [0, 1, 2, 3, 4, 5, 6, 7], [0, 1, 2, 3, 4, 5, 6, 7, 8], [0, 1, 2, 3, 4, 5, 6, 7, 8, 9], [0, 1, 2, 3, 4, 5, 6, 7, 8, 9], [0, 1, 2, 3, 4, 5, 6, 7, 8, 9], [0, 1, 2, 3, 4, 5, 6, 7, 8, 9, 11, 12], [0, 1, 2, 3, 4, 5, 6, 7, 8, 9, 11, 12, 13], [0, 1, 2, 3, 4, 5, 6, 7, 8, 9, 10, 11, 12, 13, 14], [0, 1, 2, 3, 4, 5, 6, 7, 8, 9], [0, 1, 2, 3, 4, 5, 6, 7, 8, 9], [0, 1, 2, 3, 4, 5, 6, 7, 8, 9], [0, 1, 2, 3, 4, 5, 6, 7, 8, 9, 17, 18], [0, 1, 2, 3, 4, 5, 6, 7, 8, 9, 17, 18, 19], [0, 1, 2, 3, 4, 5, 6, 7, 8, 9, 10, 11, 12, 13, 14, 15, 16, 17, 18, 19, 20], [0, 1, 2, 3, 4, 5, 6, 7, 8, 9, 10, 11, 12, 13, 14, 15, 16, 17, 18, 19, 20, 21], [0, 1, 2, 3, 4, 5, 6, 7, 8, 9, 10, 11, 12, 13, 14, 15, 16, 17, 18, 19, 20, 21, 22]] [some 72, some 73, some 74, some 75, some 76, some 77, some 78, some 79, some 80, some 81, some 82, some 83, some 84, some 85, some 86, some 87, some 88, some 89, some 90, some 91, some 92, some 93, some 94, some 95, some 96] (by kernel_rfl) (by kernel_rfl) rfl (PSf23 tb ob (q + 1) cb4 a bx (N + nl) T2 xa xb) (PSf23_stable tb ob (q + 1) cb4 a bx (N + nl) T2 xa xb ) ?pSf23 ?_
                case pSf23 =>
                  intro i hi o ho vs lo hx_ w' hg hp
                  match i, hi with
                  | 0, _ =>
                    obtain rfl := Option.some.inj ho
                    clear ho
                    simp only [actsD, List.getD_cons_zero, List.getD_cons_succ, List.foldl_cons, List.foldl_nil, Act.put, List.setIfInBounds_toArray, List.set_cons_succ, List.set_cons_zero]
                    have hsz := hg.size
                    have hgB : Below wr.heap.size wr w' := hg.below (fun k hk => ⟨hk, fun o => by rintro ⟨j, _, _, _, hw⟩; exact False.elim hw⟩)
                    go_wp2
                    exact ⟨_, rfl, GrowC.refl _, rfl⟩
                  | 1, _ =>
                    obtain rfl := Option.some.inj ho
                    clear ho
                    simp only [actsD, List.getD_cons_zero, List.getD_cons_succ, List.foldl_cons, List.foldl_nil, Act.put, List.setIfInBounds_toArray, List.set_cons_succ, List.set_cons_zero]
                    have hsz := hg.size
                    have hgB : Below wr.heap.size wr w' := hg.below (fun k hk => ⟨hk, fun o => by rintro ⟨j, _, _, _, hw⟩; exact False.elim hw⟩)
                    go_wp2
                    exact ⟨_, rfl, GrowC.refl _, rfl⟩
                  | 2, _ =>
                    obtain rfl := Option.some.inj ho
                    clear ho
                    simp only [actsD, List.getD_cons_zero, List.getD_cons_succ, List.foldl_cons, List.foldl_nil, Act.put, List.setIfInBounds_toArray, List.set_cons_succ, List.set_cons_zero]
                    obtain ⟨_, _, _, h0⟩ := hp 0 (by simp)
                    simp only [PSf23] at h0
                    obtain ⟨_, _, _, h1⟩ := hp 1 (by simp)
                    simp only [PSf23] at h1
                    have hsz := hg.size
                    have hgB : Below wr.heap.size wr w' := hg.below (fun k hk => ⟨hk, fun o => by rintro ⟨j, _, _, _, hw⟩; exact False.elim hw⟩)
                    rw [h0, h1]
                    go_wp2
                    exact ⟨_, rfl, GrowC.refl _, rfl⟩
                  | 3, _ =>
                    obtain rfl := Option.some.inj ho
                    clear ho
                    simp only [actsD, List.getD_cons_zero, List.getD_cons_succ, List.foldl_cons, List.foldl_nil, Act.put, List.setIfInBounds_toArray, List.set_cons_succ, List.set_cons_zero]
                    obtain ⟨_, _, _, h2⟩ := hp 2 (by simp)
                    simp only [PSf23] at h2
                    have hsz := hg.size
                    have hgB : Below wr.heap.size wr w' := hg.below (fun k hk => ⟨hk, fun o => by rintro ⟨j, _, _, _, hw⟩; exact False.elim hw⟩)
                    rw [h2]
                    have e0 := (hgB.cell (p := ⟨ob, a, none⟩) hib).trans hd1
                    go_wp2
                    exact ⟨_, rfl, GrowC.refl _, rfl⟩
                  | 4, _ =>
                    obtain rfl := Option.some.inj ho
                    clear ho
                    simp only [actsD, List.getD_cons_zero, List.getD_cons_succ, List.foldl_cons, List.foldl_nil, Act.put, List.setIfInBounds_toArray, List.set_cons_succ, List.set_cons_zero]
                    have hsz := hg.size
                    have hgB : Below wr.heap.size wr w' := hg.below (fun k hk => ⟨hk, fun o => by rintro ⟨j, _, _, _, hw⟩; exact False.elim hw⟩)
                    go_wp2
                    exact ⟨_, rfl, GrowC.refl _, rfl⟩
                  | 5, _ =>
                    obtain rfl := Option.some.inj ho
                    clear ho
                    simp only [actsD, List.getD_cons_zero, List.getD_cons_succ, List.foldl_cons, List.foldl_nil, Act.put, List.setIfInBounds_toArray, List.set_cons_succ, List.set_cons_zero]
                    have hsz := hg.size
                    have hgB : Below wr.heap.size wr w' := hg.below (fun k hk => ⟨hk, fun o => by rintro ⟨j, _, _, _, hw⟩; exact False.elim hw⟩)
                    go_wp2
                    exact ⟨_, rfl, GrowC.refl _, rfl⟩
                  | 6, _ =>
                    obtain rfl := Option.some.inj ho
                    clear ho
                    simp only [actsD, List.getD_cons_zero, List.getD_cons_succ, List.foldl_cons, List.foldl_nil, Act.put, List.setIfInBounds_toArray, List.set_cons_succ, List.set_cons_zero]
                    obtain ⟨_, _, _, h4⟩ := hp 4 (by simp)
                    simp only [PSf23] at h4
                    obtain ⟨_, _, _, h5⟩ := hp 5 (by simp)
                    simp only [PSf23] at h5
                    have hsz := hg.size
                    have hgB : Below wr.heap.size wr w' := hg.below (fun k hk => ⟨hk, fun o => by rintro ⟨j, _, _, _, hw⟩; exact False.elim hw⟩)
                    rw [h4, h5]
                    go_wp2
                    exact ⟨_, rfl, GrowC.refl _, rfl⟩
                  | 7, _ =>
                    obtain rfl := Option.some.inj ho
                    clear ho
                    simp only [actsD, List.getD_cons_zero, List.getD_cons_succ, List.foldl_cons, List.foldl_nil, Act.put, List.setIfInBounds_toArray, List.set_cons_succ, List.set_cons_zero]
                    obtain ⟨_, _, _, h6⟩ := hp 6 (by simp)
                    simp only [PSf23] at h6
                    have hsz := hg.size
                    have hgB : Below wr.heap.size wr w' := hg.below (fun k hk => ⟨hk, fun o => by rintro ⟨j, _, _, _, hw⟩; exact False.elim hw⟩)
                    rw [h6]
                    have e0 := (hgB.cell (p := ⟨ob, bx, none⟩) hib).trans hd2
                    go_wp2
                    exact ⟨_, rfl, GrowC.refl _, rfl⟩
                  | 8, _ =>
                    obtain rfl := Option.some.inj ho
                    clear ho
                    simp only [actsD, List.getD_cons_zero, List.getD_cons_succ, List.foldl_cons, List.foldl_nil, Act.put, List.setIfInBounds_toArray, List.set_cons_succ, List.set_cons_zero]
                    obtain ⟨_, _, _, h3⟩ := hp 3 (by simp)
                    simp only [PSf23] at h3
                    obtain ⟨_, _, _, h7⟩ := hp 7 (by simp)
                    simp only [PSf23] at h7
                    have hsz := hg.size
                    have hgB : Below wr.heap.size wr w' := hg.below (fun k hk => ⟨hk, fun o => by rintro ⟨j, _, _, _, hw⟩; exact False.elim hw⟩)
                    rw [h3, h7]
                    have hb1 : (xa != xb) = true := by simpa using hxab
                    go_wp2
                    exact ⟨_, rfl, GrowC.refl _, rfl⟩
                  | 9, _ =>
                    obtain rfl := Option.some.inj ho
                    clear ho
                    simp only [actsD, List.getD_cons_zero, List.getD_cons_succ, List.foldl_cons, List.foldl_nil, Act.put, List.setIfInBounds_toArray, List.set_cons_succ, List.set_cons_zero]
                    obtain ⟨_, _, _, h8⟩ := hp 8 (by simp)
                    simp only [PSf23] at h8
                    have hsz := hg.size
                    have hgB : Below wr.heap.size wr w' := hg.below (fun k hk => ⟨hk, fun o => by rintro ⟨j, _, _, _, hw⟩; exact False.elim hw⟩)
                    rw [h8]
                    go_wp2
                    exact ⟨_, rfl, GrowC.refl _, rfl⟩
                  | 10, _ =>
                    obtain rfl := Option.some.inj ho
                    clear ho
                    simp only [actsD, List.getD_cons_zero, List.getD_cons_succ, List.foldl_cons, List.foldl_nil, Act.put, List.setIfInBounds_toArray, List.set_cons_succ, List.set_cons_zero]
                    obtain ⟨_, _, _, h9⟩ := hp 9 (by simp)
                    simp only [PSf23] at h9
                    have hsz := hg.size
                    have hgB : Below wr.heap.size wr w' := hg.below (fun k hk => ⟨hk, fun o => by rintro ⟨j, _, _, _, hw⟩; exact False.elim hw⟩)
                    rw [h9]
                    go_wp2
                    exact ⟨_, rfl, GrowC.refl _, rfl⟩
                  | 11, _ =>
                    obtain rfl := Option.some.inj ho
                    clear ho
                    simp only [actsD, List.getD_cons_zero, List.getD_cons_succ, List.foldl_cons, List.foldl_nil, Act.put, List.setIfInBounds_toArray, List.set_cons_succ, List.set_cons_zero]
                    obtain ⟨_, _, _, h9⟩ := hp 9 (by simp)
                    simp only [PSf23] at h9
                    have hsz := hg.size
                    have hgB : Below wr.heap.size wr w' := hg.below (fun k hk => ⟨hk, fun o => by rintro ⟨j, _, _, _, hw⟩; exact False.elim hw⟩)
                    rw [h9]
                    go_wp2
                    exact ⟨_, rfl, GrowC.refl _, rfl⟩
                  | 12, _ =>
                    obtain rfl := Option.some.inj ho
                    clear ho
                    simp only [actsD, List.getD_cons_zero, List.getD_cons_succ, List.foldl_cons, List.foldl_nil, Act.put, List.setIfInBounds_toArray, List.set_cons_succ, List.set_cons_zero]
                    obtain ⟨_, _, _, h9⟩ := hp 9 (by simp)
                    simp only [PSf23] at h9
                    have hsz := hg.size
                    have hgB : Below wr.heap.size wr w' := hg.below (fun k hk => ⟨hk, fun o => by rintro ⟨j, _, _, _, hw⟩; exact False.elim hw⟩)
                    rw [h9]
                    go_wp2
                    exact ⟨_, rfl, GrowC.refl _, rfl⟩
                  | 13, _ =>
                    obtain rfl := Option.some.inj ho
                    clear ho
                    simp only [actsD, List.getD_cons_zero, List.getD_cons_succ, List.foldl_cons, List.foldl_nil, Act.put, List.setIfInBounds_toArray, List.set_cons_succ, List.set_cons_zero]
                    obtain ⟨_, _, _, h9⟩ := hp 9 (by simp)
                    simp only [PSf23] at h9
                    obtain ⟨_, _, _, h11⟩ := hp 11 (by simp)
                    simp only [PSf23] at h11
                    obtain ⟨_, _, _, h12⟩ := hp 12 (by simp)
                    simp only [PSf23] at h12
                    have hsz := hg.size
                    have hgB : Below wr.heap.size wr w' := hg.below (fun k hk => ⟨hk, fun o => by rintro ⟨j, _, _, _, hw⟩; exact False.elim hw⟩)
                    rw [h9, h11, h12]
                    go_wp2
                    exact ⟨_, rfl, GrowC.refl _, rfl⟩
                  | 14, _ =>
                    obtain rfl := Option.some.inj ho
                    clear ho
                    simp only [actsD, List.getD_cons_zero, List.getD_cons_succ, List.foldl_cons, List.foldl_nil, Act.put, List.setIfInBounds_toArray, List.set_cons_succ, List.set_cons_zero]
                    obtain ⟨_, _, _, h9⟩ := hp 9 (by simp)
                    simp only [PSf23] at h9
                    obtain ⟨_, _, _, h13⟩ := hp 13 (by simp)
                    simp only [PSf23] at h13
                    have hsz := hg.size
                    have hgB : Below wr.heap.size wr w' := hg.below (fun k hk => ⟨hk, fun o => by rintro ⟨j, _, _, _, hw⟩; exact False.elim hw⟩)
                    rw [h9, h13]
                    have e0 := (hgB.cell (p := ⟨ob, a, none⟩) hib).trans hd1
                    go_wp2
                    exact ⟨_, rfl, GrowC.refl _, rfl⟩
                  | 15, _ =>
                    obtain rfl := Option.some.inj ho
                    clear ho
                    simp only [actsD, List.getD_cons_zero, List.getD_cons_succ, List.foldl_cons, List.foldl_nil, Act.put, List.setIfInBounds_toArray, List.set_cons_succ, List.set_cons_zero]
                    obtain ⟨_, _, _, h9⟩ := hp 9 (by simp)
                    simp only [PSf23] at h9
                    obtain ⟨_, _, _, h10⟩ := hp 10 (by simp)
                    simp only [PSf23] at h10
                    obtain ⟨_, _, _, h14⟩ := hp 14 (by simp)
                    simp only [PSf23] at h14
                    have hsz := hg.size
                    have hgB : Below wr.heap.size wr w' := hg.below (fun k hk => ⟨hk, fun o => by rintro ⟨j, _, _, _, hw⟩; exact False.elim hw⟩)
                    rw [h9, h10, h14]
                    go_wp2_with fail
                    refine (held_lt (HLT.out.below hgB) hN xa).mono ?_
                    rintro e wc ⟨c, ao, m, cp, rfl, g1, g2, g3, g4, g5⟩
                    go_wp2
                    exact ⟨_, rfl, GrowC.of_grow g5, c, ao, m, cp, rfl, g1, g2, g3, g4⟩
                  | 16, _ =>
                    obtain rfl := Option.some.inj ho
                    clear ho
                    simp only [actsD, List.getD_cons_zero, List.getD_cons_succ, List.foldl_cons, List.foldl_nil, Act.put, List.setIfInBounds_toArray, List.set_cons_succ, List.set_cons_zero]
                    obtain ⟨_, _, _, h9⟩ := hp 9 (by simp)
                    simp only [PSf23] at h9
                    have hsz := hg.size
                    have hgB : Below wr.heap.size wr w' := hg.below (fun k hk => ⟨hk, fun o => by rintro ⟨j, _, _, _, hw⟩; exact False.elim hw⟩)
                    rw [h9]
                    go_wp2
                    exact ⟨_, rfl, GrowC.refl _, rfl⟩
                  | 17, _ =>
                    obtain rfl := Option.some.inj ho
                    clear ho
                    simp only [actsD, List.getD_cons_zero, List.getD_cons_succ, List.foldl_cons, List.foldl_nil, Act.put, List.setIfInBounds_toArray, List.set_cons_succ, List.set_cons_zero]
                    obtain ⟨_, _, _, h9⟩ := hp 9 (by simp)
                    simp only [PSf23] at h9
                    have hsz := hg.size
                    have hgB : Below wr.heap.size wr w' := hg.below (fun k hk => ⟨hk, fun o => by rintro ⟨j, _, _, _, hw⟩; exact False.elim hw⟩)
                    rw [h9]
                    go_wp2
                    exact ⟨_, rfl, GrowC.refl _, rfl⟩
                  | 18, _ =>
                    obtain rfl := Option.some.inj ho
                    clear ho
                    simp only [actsD, List.getD_cons_zero, List.getD_cons_succ, List.foldl_cons, List.foldl_nil, Act.put, List.setIfInBounds_toArray, List.set_cons_succ, List.set_cons_zero]
                    obtain ⟨_, _, _, h9⟩ := hp 9 (by simp)
                    simp only [PSf23] at h9
                    have hsz := hg.size
                    have hgB : Below wr.heap.size wr w' := hg.below (fun k hk => ⟨hk, fun o => by rintro ⟨j, _, _, _, hw⟩; exact False.elim hw⟩)
                    rw [h9]
                    go_wp2
                    exact ⟨_, rfl, GrowC.refl _, rfl⟩
                  | 19, _ =>
                    obtain rfl := Option.some.inj ho
                    clear ho
                    simp only [actsD, List.getD_cons_zero, List.getD_cons_succ, List.foldl_cons, List.foldl_nil, Act.put, List.setIfInBounds_toArray, List.set_cons_succ, List.set_cons_zero]
                    obtain ⟨_, _, _, h9⟩ := hp 9 (by simp)
                    simp only [PSf23] at h9
                    obtain ⟨_, _, _, h17⟩ := hp 17 (by simp)
                    simp only [PSf23] at h17
                    obtain ⟨_, _, _, h18⟩ := hp 18 (by simp)
                    simp only [PSf23] at h18
                    have hsz := hg.size
                    have hgB : Below wr.heap.size wr w' := hg.below (fun k hk => ⟨hk, fun o => by rintro ⟨j, _, _, _, hw⟩; exact False.elim hw⟩)
                    rw [h9, h17, h18]
                    go_wp2
                    exact ⟨_, rfl, GrowC.refl _, rfl⟩
                  | 20, _ =>
                    obtain rfl := Option.some.inj ho
                    clear ho
                    simp only [actsD, List.getD_cons_zero, List.getD_cons_succ, List.foldl_cons, List.foldl_nil, Act.put, List.setIfInBounds_toArray, List.set_cons_succ, List.set_cons_zero]
                    obtain ⟨_, _, _, h9⟩ := hp 9 (by simp)
                    simp only [PSf23] at h9
                    obtain ⟨_, _, _, h19⟩ := hp 19 (by simp)
                    simp only [PSf23] at h19
                    have hsz := hg.size
                    have hgB : Below wr.heap.size wr w' := hg.below (fun k hk => ⟨hk, fun o => by rintro ⟨j, _, _, _, hw⟩; exact False.elim hw⟩)
                    rw [h9, h19]
                    have e0 := (hgB.cell (p := ⟨ob, bx, none⟩) hib).trans hd2
                    go_wp2
                    exact ⟨_, rfl, GrowC.refl _, rfl⟩
                  | 21, _ =>
                    obtain rfl := Option.some.inj ho
                    clear ho
                    simp only [actsD, List.getD_cons_zero, List.getD_cons_succ, List.foldl_cons, List.foldl_nil, Act.put, List.setIfInBounds_toArray, List.set_cons_succ, List.set_cons_zero]
                    obtain ⟨_, _, _, h9⟩ := hp 9 (by simp)
                    simp only [PSf23] at h9
                    obtain ⟨_, _, _, h16⟩ := hp 16 (by simp)
                    simp only [PSf23] at h16
                    obtain ⟨_, _, _, h20⟩ := hp 20 (by simp)
                    simp only [PSf23] at h20
                    have hsz := hg.size
                    have hgB : Below wr.heap.size wr w' := hg.below (fun k hk => ⟨hk, fun o => by rintro ⟨j, _, _, _, hw⟩; exact False.elim hw⟩)
                    rw [h9, h16, h20]
                    go_wp2_with fail
                    refine (held_lt (HLT.out.below hgB) hN xb).mono ?_
                    rintro e wc ⟨c, ao, m, cp, rfl, g1, g2, g3, g4, g5⟩
                    go_wp2
                    exact ⟨_, rfl, GrowC.of_grow g5, c, ao, m, cp, rfl, g1, g2, g3, g4⟩
                  | 22, _ =>
                    obtain rfl := Option.some.inj ho
                    clear ho
                    simp only [actsD, List.getD_cons_zero, List.getD_cons_succ, List.foldl_cons, List.foldl_nil, Act.put, List.setIfInBounds_toArray, List.set_cons_succ, List.set_cons_zero]
                    obtain ⟨_, _, _, h9⟩ := hp 9 (by simp)
                    simp only [PSf23] at h9
                    obtain ⟨_, _, _, h15⟩ := hp 15 (by simp)
                    simp only [PSf23] at h15
                    obtain ⟨_, _, _, h21⟩ := hp 21 (by simp)
                    simp only [PSf23] at h21
                    have hsz := hg.size
                    have hgB : Below wr.heap.size wr w' := hg.below (fun k hk => ⟨hk, fun o => by rintro ⟨j, _, _, _, hw⟩; exact False.elim hw⟩)
                    rw [h9]
                    obtain ⟨cA, aA, mA, pA, e15, hA1, hA2, hA3, hA4⟩ := h15
                    obtain ⟨cB, aB, mB, pB, e21, hB1, hB2, hB3, hB4⟩ := h21
                    rw [e15, e21]
                    go_wp2_with fail
                    refine (apart_any cA cB _ _ mA mB hA2 hB2 (by omega) (by omega) (fun x hx y hy hn => HSAFE.out (xa, x) (mem_heldRaw.1 (hA1.perm.mem_iff.1 hx)) (xb, y) (mem_heldRaw.1 (hB1.perm.mem_iff.1 hy)) hxab hn) _ hA4 hB4).mono ?_
                    rintro e wc ⟨rfl, hbc⟩
                    go_wp2
                    exact ⟨_, rfl, GrowC.of_grow hbc, rfl⟩
                  | 23, _ =>
                    obtain rfl := Option.some.inj ho
                    clear ho
                    simp only [actsD, List.getD_cons_zero, List.getD_cons_succ, List.foldl_cons, List.foldl_nil, Act.put, List.setIfInBounds_toArray, List.set_cons_succ, List.set_cons_zero]
                    obtain ⟨_, _, _, h9⟩ := hp 9 (by simp)
                    simp only [PSf23] at h9
                    obtain ⟨_, _, _, h22⟩ := hp 22 (by simp)
                    simp only [PSf23] at h22
                    have hsz := hg.size
                    have hgB : Below wr.heap.size wr w' := hg.below (fun k hk => ⟨hk, fun o => by rintro ⟨j, _, _, _, hw⟩; exact False.elim hw⟩)
                    rw [h9, h22]
                    go_wp2
                    exact ⟨_, rfl, GrowC.refl _, rfl⟩
                  | (q + 24), hq => exact absurd hq (by omega)
                intro vS lo hi w5 hg hp
                generalize hLL : List.drop 24 _ = LL
                simp only [List.drop_succ_cons, List.drop_zero, List.drop_nil] at hLL
                intro hd
                obtain ⟨_, _, _, h0⟩ := hp 0 (by decide)
                obtain ⟨_, _, _, h1⟩ := hp 1 (by decide)
                obtain ⟨_, _, _, h2⟩ := hp 2 (by decide)
                obtain ⟨_, _, _, h3⟩ := hp 3 (by decide)
                obtain ⟨_, _, _, h4⟩ := hp 4 (by decide)
                obtain ⟨_, _, _, h5⟩ := hp 5 (by decide)
                obtain ⟨_, _, _, h6⟩ := hp 6 (by decide)
                obtain ⟨_, _, _, h7⟩ := hp 7 (by decide)
                obtain ⟨_, _, _, h8⟩ := hp 8 (by decide)
                obtain ⟨_, _, _, h9⟩ := hp 9 (by decide)
                obtain ⟨_, _, _, h10⟩ := hp 10 (by decide)
                obtain ⟨_, _, _, h11⟩ := hp 11 (by decide)
                obtain ⟨_, _, _, h12⟩ := hp 12 (by decide)
                obtain ⟨_, _, _, h13⟩ := hp 13 (by decide)
                obtain ⟨_, _, _, h14⟩ := hp 14 (by decide)
                obtain ⟨_, _, _, h15⟩ := hp 15 (by decide)
                obtain ⟨_, _, _, h16⟩ := hp 16 (by decide)
                obtain ⟨_, _, _, h17⟩ := hp 17 (by decide)
                obtain ⟨_, _, _, h18⟩ := hp 18 (by decide)
                obtain ⟨_, _, _, h19⟩ := hp 19 (by decide)
                obtain ⟨_, _, _, h20⟩ := hp 20 (by decide)
                obtain ⟨_, _, _, h21⟩ := hp 21 (by decide)
                obtain ⟨_, _, _, h22⟩ := hp 22 (by decide)
                obtain ⟨_, _, _, h23⟩ := hp 23 (by decide)
                simp only [PSf23] at h0 h1 h2 h3 h4 h5 h6 h7 h8 h9 h10 h11 h12 h13 h14 h15 h16 h17 h18 h19 h20 h21 h22 h23
                clear hp hd
                have hsz := hg.size
                replace hB := hB.trans (hg.below (fun k hk => ⟨by omega, fun o => by rintro ⟨j, _, hw⟩; exact False.elim hw⟩))
                subst hLL
                have hr : List.range 24 = [0, 1, 2, 3, 4, 5, 6, 7, 8, 9, 10, 11, 12, 13, 14, 15, 16, 17, 18, 19, 20, 21, 22, 23] := rfl
                rw [hr]
                clear hr
                simp only [List.drop_succ_cons, List.drop_zero, List.drop_nil, actsD, List.getD_cons_zero, List.getD_cons_succ, List.foldl_cons, List.foldl_nil, Act.put, List.setIfInBounds_toArray, List.set_cons_succ, List.set_cons_zero, h0, h1, h2, h3, h4, h5, h6, h7, h8, h9, h10, h11, h12, h13, h14, h16, h17, h18, h19, h20, h22, h23]
                clear h0 h1 h2 h3 h4 h5 h6 h7 h8 h9 h10 h11 h12 h13 h14 h16 h17 h18 h19 h20 h22 h23
                go_wp2_with fail
                go_roundw
                case rel => exact ⟨bx + 1, by omega, by go_num, HAU.out.below hB⟩
                case measure => simp [intOf]; omega
            · go_wp2_with fail
              go_roundw
              case rel => exact ⟨a + 1, by omega, by go_num, HAU.out⟩
              case measure => simp [intOf]; omega
        · have hbq1 : decide ((a : Int) < (q : Int) + 1) = false := by simp; omega
          go_wp2_with fail
          go_roundw
          case rel => exact ⟨k + 1, q + 1, cb4, some ⟨ob, 0, none⟩, ids ++ [x2], T2, S3, by omega, by omega, by go_num, rfl, by omega, by rw [HTS.out]; exact HAT.out⟩
          case measure => simp [intOf]; omega
end Go.Proofs.Ytoghmllkaafckaa

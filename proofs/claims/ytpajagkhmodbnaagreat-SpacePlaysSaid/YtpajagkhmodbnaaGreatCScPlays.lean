/- The law SpacePlays. Conditions: none. -/
import Derived.Test.YtpajagkhmodbnaaGreatCScAwake
import Derived.Test.YtpajagkhmodbnaaGreatCScOpen
namespace Go.Proofs.YtpajagkhmodbnaaGreat
set_option linter.unusedSimpArgs false
set_option linter.unusedVariables false
open Go.RowKit
def C94 : Array Value := (List.replicate 94 (Value.bool false)).toArray
theorem make94 (w : World) : (Instr.makeSlice 32 (.int .i64 94) (.int .i64 94)).run Tryz.prog w = .ok (.slice (some ⟨w.heap.size, 0, none⟩) 94 94) (w.alloc (.cells C94 4)) := by
 obtain ⟨i0, hi, hz0, hz1, hz2⟩ := info_parts (P := Tryz.prog) (e := 4) (z := .bool false) (size := 1) (bytes := 1) (by kernel_rfl)
 have h := run_make (P := Tryz.prog) w 32 4 i0 (.bool false) Tryz.underlying32 hi hz0 .i64 .i64 94 94 (by decide) (by decide) (by rw [hz2]; decide) (by decide)
 rw [h, hz1]
 have e : madeCells (Value.bool false).cells (Int.toNat 94 * 1) = C94 := by
  apply Array.ext'
  have e1 := toList_madeCells_one (.bool false) 94
  show (madeCells #[.bool false] 94).toList = _
  rw [e1]
  unfold C94
  rfl
 rw [e]
 rfl
def bcells (T : List Bool) : List Value := T.map Value.bool
theorem bcells_at {T : List Bool} {q : Nat} (h : q < T.length) : (bcells T)[q]? = some (.bool (T.getD q false)) := by
 unfold bcells
 rw [List.getElem?_map, List.getD_eq_getElem?_getD, List.getElem?_eq_getElem h]; rfl
theorem bcells_set (T : List Bool) (q : Nat) (v : Bool) : (bcells T).set q (.bool v) = bcells (T.set q v) := by unfold bcells; rw [List.map_set]
theorem countP_set {T : List Bool} {q : Nat} (h : q < T.length) (v : Bool) : (T.set q v).countP id + (if T.getD q false then 1 else 0) = T.countP id + (if v then 1 else 0) := by
 induction T generalizing q with
 | nil => cases h
 | cons a r ih =>
  cases q with
  | zero => cases a <;> cases v <;> simp
  | succ q =>
   have := ih (q := q) (by simpa using h)
   simp only [List.set_cons_succ, List.countP_cons, List.getD_cons_succ] at this ⊢
   omega
theorem countP_le' (T : List Bool) : T.countP id ≤ T.length := List.countP_le_length
structure PAt (w : World) (A : Adr) (gt k : Nat) (T : List Bool) (wr : World) : Prop where
 at_ : ∃ σ S W, At8 w A (4 + 8 * k) (483 + 195 * k) σ S T 512 wr W ∧ ¬ S gt
 box : Box wr gt (bcells T)
 len : T.length = 94
 gt : w.heap.size ≤ gt
theorem PAt.bel {w wr : World} {A : Adr} {gt k : Nat} {T : List Bool} (h : PAt w A gt k T wr) : Below w.heap.size w wr := by
 obtain ⟨σ, S, W, h1, _⟩ := h.at_
 exact h1.st.bel
theorem b512 {k : Nat} (h : k ≤ 25) : 483 + 195 * k + 195 + 2048 ≤ ((Cf.of 512).n - 1) * 118 := by rw [cf512]; show _ ≤ (128 - 1) * 118; omega
theorem b512s {k : Nat} (h : k < 25) : 483 + 195 * (k + 1) + 2048 ≤ ((Cf.of 512).n - 1) * 118 := by rw [cf512]; show _ ≤ (128 - 1) * 118; omega
section
variable {w wr : World} {A : Adr} {gt k : Nat} {T : List Bool}
theorem PAt.take (h : PAt w A gt k T wr) (hk : k < 25) (r : Nat) (h3 : ∀ j, j < r → T[j]? = some true) (h4 : T[r]? = some false) :
  Calls Tryz.prog 23 #[.pointer (some ⟨A.sb, 0, none⟩), .int .i64 1] wr fun e w' => e = .returned (.tuple #[.int .i64 (r : Nat), .int .i64 0]) ∧ (∃ σ S W, At8 w A (8 + 8 * k) (483 + 195 * (k + 1)) σ S (T.set r true) 512 w' W ∧ ¬ S gt) ∧ Box w' gt (bcells T) := by
 obtain ⟨σ, S, W, h1, hn⟩ := h.at_
 refine (take8 h1 (by omega) (b512 (by omega)) r h3 h4).mono ?_
 rintro e w' ⟨σ', S', W', rfl, h5, h6⟩
 refine ⟨rfl, ⟨σ', S', W', ⟨h5.st.le (by omega) (by omega) (b512s hk), h5.so, h5.rel, h5.pg, h5.p1⟩, fun hs => (h6.new gt hs).elim hn (fun e => by have := h.box.lt; omega)⟩, h.box.growx h6.grow hn⟩
theorem PAt.full (h : PAt w A gt k T wr) (hk : k < 25) (h3 : ∀ j, j < T.length → T[j]? = some true) :
  Calls Tryz.prog 23 #[.pointer (some ⟨A.sb, 0, none⟩), .int .i64 1] wr fun e w' => e = .returned (.tuple #[.int .i64 0, .int .i64 60]) ∧ PAt w A gt (k + 1) T w' := by
 obtain ⟨σ, S, W, h1, hn⟩ := h.at_
 refine (take8_full h1 (by omega) (b512 (by omega)) h3).mono ?_
 rintro e w' ⟨σ', S', rfl, h5, h6⟩
 exact ⟨rfl, ⟨σ', S', W, ⟨h5.st.le (by omega) (by omega) (b512s hk), h5.so, h5.rel, h5.pg, h5.p1⟩, fun hs => (h6.new gt hs).elim hn (fun e => by have := h.box.lt; omega)⟩, h.box.growx h6.grow hn, h.len, h.gt⟩
structure PMid (w : World) (A : Adr) (gt k : Nat) (T : List Bool) (wr : World) : Prop where
 at_ : ∃ σ S W, At8 w A (8 + 8 * k) (483 + 195 * (k + 1)) σ S T 512 wr W ∧ ¬ S gt
 box : Box wr gt (bcells T)
 len : T.length = 94
 gt : w.heap.size ≤ gt
theorem PMid.bel (h : PMid w A gt k T wr) : Below w.heap.size w wr := by
 obtain ⟨σ, S, W, h1, _⟩ := h.at_
 exact h1.st.bel
theorem PMid.count (h : PMid w A gt k T wr) (hk : k < 25) :
  Calls Tryz.prog 26 #[.pointer (some ⟨A.sb, 0, none⟩)] wr fun e w' => e = .returned (.tuple #[.int .i64 (T.countP id : Nat), .int .i64 0]) ∧ PAt w A gt (k + 1) T w' := by
 obtain ⟨σ, S, W, h1, hn⟩ := h.at_
 refine (count8 h1 (by omega)).mono ?_
 rintro e w' ⟨σ', S', rfl, h5, h6⟩
 exact ⟨rfl, ⟨σ', S', W, ⟨h5.st.more _ (by omega), h5.so, h5.rel, h5.pg, h5.p1⟩, fun hs => (h6.new gt hs).elim hn (fun e => by have := h.box.lt; omega)⟩, h.box.growx h6.grow hn, h.len, h.gt⟩
theorem PAt.mid (h : PAt w A gt k T wr) (hk : k < 25) : PMid w A gt k T wr := by
 obtain ⟨σ, S, W, h1, hn⟩ := h.at_
 exact ⟨⟨σ, S, W, ⟨h1.st.le (by omega) (by omega) (b512s hk), h1.so, h1.rel, h1.pg, h1.p1⟩, hn⟩, h.box, h.len, h.gt⟩
theorem PAt.give (h : PAt w A gt k T wr) (hk : k < 25) (p : Int) (hi : okInt p) :
  Calls Tryz.prog 24 #[.pointer (some ⟨A.sb, 0, none⟩), .int .i64 1, .int .i64 p] wr fun e w' => e = .returned (.int .i64 (if (decide (1 ≤ p ∧ p < (T.length : Int)) && T.getD p.toNat false) = true then 0 else 1)) ∧
   (∃ σ S W, At8 w A (8 + 8 * k) (483 + 195 * (k + 1)) σ S (if (decide (1 ≤ p ∧ p < (T.length : Int)) && T.getD p.toNat false) = true then T.set p.toNat false else T) 512 w' W ∧ ¬ S gt) ∧ Box w' gt (bcells T) := by
 obtain ⟨σ, S, W, h1, hn⟩ := h.at_
 refine (give8 h1 (by omega) (b512 (by omega)) p hi.1 hi.2).mono ?_
 rintro e w' ⟨σ', S', W', rfl, h5, h6⟩
 exact ⟨rfl, ⟨σ', S', W', ⟨h5.st.le (by omega) (by omega) (b512s hk), h5.so, h5.rel, h5.pg, h5.p1⟩, fun hs => (h6.new gt hs).elim hn (fun e => by have := h.box.lt; omega)⟩, h.box.growx h6.grow hn⟩
theorem PAt.taken (h : PAt w A gt k T wr) (hk : k < 25) (p : Int) (hi : okInt p) :
  Calls Tryz.prog 25 #[.pointer (some ⟨A.sb, 0, none⟩), .int .i64 p] wr fun e w' => e = .returned (.tuple #[.bool (if p < 0 ∨ (T.length : Int) ≤ p then (false, 1) else (T.getD p.toNat false, 0) : Bool × Int).1, .int .i64 (if p < 0 ∨ (T.length : Int) ≤ p then (false, 1) else (T.getD p.toNat false, 0) : Bool × Int).2]) ∧ PMid w A gt k T w' := by
 obtain ⟨σ, S, W, h1, hn⟩ := h.at_
 refine (taken8 h1 (by omega) p hi.1 hi.2).mono ?_
 rintro e w' ⟨σ', S', rfl, h5, h6⟩
 exact ⟨rfl, ⟨σ', S', W, ⟨h5.st.le (by omega) (by omega) (b512s hk), h5.so, h5.rel, h5.pg, h5.p1⟩, fun hs => (h6.new gt hs).elim hn (fun e => by have := h.box.lt; omega)⟩, h.box.growx h6.grow hn, h.len, h.gt⟩
theorem PMid.mark {T2 : List Bool} {q : Nat} {v : Bool} (h1 : ∃ σ S W, At8 w A (8 + 8 * k) (483 + 195 * (k + 1)) σ S T2 512 wr W ∧ ¬ S gt) (h2 : Box wr gt (bcells T)) (he : T2 = T.set q v) (hl : T.length = 94) (hg : w.heap.size ≤ gt) : PMid w A gt k T2 (wr.setCell ⟨gt, q, none⟩ (.bool v)) := by
 obtain ⟨σ, S, W, h3, hn⟩ := h1
 have hx := growX_setCell wr gt q (.bool v)
 refine ⟨⟨σ, S, W, ⟨h3.st.grow hx (fun k h5 h6 => hn (h6 ▸ h5)) (h3.st.bel.trans (hx.below (fun k hk => ⟨by have := h3.st.bel.size; omega, fun e => by omega⟩))), h3.so, h3.rel, h3.pg, h3.p1⟩, hn⟩, ?_, by rw [he, List.length_set]; exact hl, hg⟩
 rw [he, ← bcells_set]
 exact h2.setCell q (.bool v)
end
set_option maxRecDepth 100000 in
set_option maxHeartbeats 12800000 in
theorem plays8_any (l : List Op8) (v : Value) (n : Nat) (hl : l.length = n ∧ ∀ x ∈ l, okInt x.2) (hm : n ≤ 9223372036854775807) (w : World) (hr : Reads 2 w v n (ocells l)) :
  Calls Tryz.prog 5 #[v] w fun e w' => e = .returned (.bool true) ∧ Below w.heap.size w w' := by
 have hpg : (Cf.of 512).pg = 94 := by rw [cf512]
 have HO := Lib.hid (formatted8 w 512 8 (by decide) (by decide) (by decide) (by decide) (by rw [hpg]; decide) (by rw [hpg]; decide))
 rw [hpg] at HO
 have HR := Lib.hid hr
 have hsh : ∃ ao cap, v = .slice ao n cap := by obtain ⟨ao, cap, e, _⟩ := hr; exact ⟨ao, cap, e⟩
 obtain ⟨ao, cap, hv⟩ := hsh
 have HV := Lib.hid hv
 have HL := Lib.hid hl.1
 have HI := Lib.hid hl.2
 have hmk := make94
 rw [hv]
 clear hr hl hv
 go_enter Tryz.func5, Tryz.ntmps5
 go_wp2_with fail
 refine HO.out.mono ?_
 rintro e y1 ⟨A, σ, S, rfl, hat, hS, hbl⟩
 have HAT := Lib.hid hat
 have HS := Lib.hid hS
 have HBL := Lib.hid hbl
 clear hat hS hbl HO
 go_wp2_with fail
 refine (awake8_any _).mono ?_
 rintro e y2 ⟨rfl, hb2⟩
 have HB2 := Lib.hid hb2
 have HP := Lib.hid (pages_st (HAT.out.st.below hb2))
 rw [hpg] at HP
 clear hb2
 go_wp2_with fail
 refine HP.out.mono ?_
 rintro e y3 ⟨rfl, rfl⟩
 obtain ⟨gt, hgt⟩ : ∃ g, y3.heap.size = g := ⟨_, rfl⟩
 have HGT := Lib.hid hgt
 have hm1 := hmk y3
 have bx := Box.new y3 C94 4 rfl
 have hal := (Below.refl y3.heap.size y3).alloc (Nat.le_refl _) (.cells C94 4)
 rw [hgt] at bx hm1
 have hc0 := bx.cell 0 _ rfl
 have hlt := bx.lt
 have hfz := bx.free
 have HBX := Lib.hid bx
 have HAL := Lib.hid hal
 clear hmk bx hal HP
 go_wp2_with fail
 have hst : PAt w A gt 0 (newT 94) (y3.alloc (.cells (C94.setIfInBounds 0 (.bool true)) 4)) := by
  have hb3 : Below y1.heap.size y1 y3 := HB2.out
  have hgs : ∀ q, S q → q < y1.heap.size := fun q hq => (HAT.out.st.lt q hq).2
  have hsz := hb3.size
  have hg1 := HGT.out
  have hbx := Box.new y3 (C94.setIfInBounds 0 (.bool true)) 4 rfl
  have hal := (Below.refl y3.heap.size y3).alloc (Nat.le_refl _) (.cells (C94.setIfInBounds 0 (.bool true)) 4)
  have e : (C94.setIfInBounds 0 (.bool true)).toList = bcells (newT 94) := by kernel_rfl
  rw [e, hg1] at hbx
  exact ⟨⟨σ, S, fmtW, ⟨(HAT.out.st.below hb3).below hal, HAT.out.so, HAT.out.rel, HAT.out.pg, HAT.out.p1⟩, fun hs => by have := hgs gt hs; omega⟩, hbx, newT_len (by decide), by have := HBL.out.size; omega⟩
 have HST := Lib.hid hst
 generalize y3.alloc (.cells (C94.setIfInBounds 0 (.bool true)) 4) = y4 at *
 clear hst hc0 hlt hfz hm1
 have hcnt : (newT 94).countP id = 1 := by decide
 go_loopw [7, 8, 9, 10, 11, 12, 13, 14, 15, 16, 17] (fun z7 z8 z9 z10 z11 z12 z13 z14 z15 z16 z17 wr => ∃ (k : Nat) (T : List Bool), k ≤ n ∧ k ≤ 25 ∧ z8 = .int .i64 (k : Nat) ∧ z7 = .int .i64 (T.countP id : Nat) ∧ PAt w A gt k T wr) (fun _ z8 _ _ _ _ _ _ _ _ _ _ => 25 - (intOf z8).toNat)
 case atStart => exact ⟨0, newT 94, Nat.zero_le _, Nat.zero_le _, rfl, by rw [hcnt]; rfl, HST.out⟩
 case round =>
  obtain ⟨k, T, hkn, hk25, rfl, rfl, hat⟩ := hrel
  have HATK := Lib.hid hat
  have hT := countP_le' T
  rw [hat.len] at hT
  obtain ⟨cT, hcT⟩ : ∃ x, T.countP id = x := ⟨_, rfl⟩
  have HCT := Lib.hid hcT
  rw [hcT] at hT ⊢
  clear hat hcT hcnt
  by_cases h1 : k < n
  ·have hb1 : decide ((k : Int) < (n : Int)) = true := by simpa using h1
   have hb1n : decide (k < n) = true := by simpa using h1
   by_cases h2 : k < 25
   ·have hb2 : decide ((k : Int) < 25) = true := by simp; omega
    have hb2n : decide (k < 25) = true := by simpa using h2
    obtain ⟨x, hx⟩ : ∃ x, l[k]? = some x := ⟨_, List.getElem?_eq_getElem (by rw [HL.out]; exact h1)⟩
    have hok := HI.out x (List.mem_of_getElem? hx)
    obtain ⟨b, o, cc, hv2, hbl2, hx1, hx2⟩ := Op8.at (HR.out.below HATK.out.bel (Nat.le_refl _)) k h1 x hx
    rw [HV.out] at hv2
    injection hv2 with e1 e2 e3
    subst e1 e3
    obtain ⟨kd, p⟩ := x
    simp only at hx1 hx2 hok
    have HOK := Lib.hid hok
    clear hx hok e2
    by_cases k0 : kd = 0
    ·subst k0
     have hbx := HATK.out.box
     have hlen := HATK.out.len
     go_wp2_with fail
     go_loopw [10] (fun z10 wq => ∃ q : Nat, q ≤ 94 ∧ z10 = .int .i64 (q : Nat) ∧ (∀ j, j < q → T[j]? = some true) ∧ wq = wr) (fun z10 _ => 94 - (intOf z10).toNat)
     case atStart => exact ⟨0, Nat.zero_le _, rfl, fun j hj => absurd hj (Nat.not_lt_zero _), rfl⟩
     case round =>
      obtain ⟨q, hq, rfl, hal, rfl⟩ := hrel
      have HALL := Lib.hid hal
      clear hal
      have hqb : decide ((q : Int) < 94) = decide (q < 94) := by by_cases h : q < 94 <;> simp [h] <;> omega
      by_cases hq94 : q < 94
      ·have hc := hbx.cell q _ (bcells_at (by rw [hlen]; exact hq94))
       have hgq : T[q]? = some (T.getD q false) := by rw [List.getD_eq_getElem?_getD, List.getElem?_eq_getElem (by rw [hlen]; exact hq94)]; rfl
       cases hv : T.getD q false with
       | true =>
        rw [hv] at hc hgq
        have HGQ := Lib.hid hgq
        clear hgq hv
        have hlb := hbx.lt
        go_wp2_with fail
        go_roundw
        ·exact ⟨q + 1, by omega, by go_num, fun j hj => (by rcases Nat.lt_succ_iff_lt_or_eq.1 hj with h | rfl <;> first | exact HALL.out _ h | exact HGQ.out), trivial⟩
        ·simp [intOf]; omega
       | false =>
        rw [hv] at hc hgq
        have HGQ := Lib.hid hgq
        have HV2 := Lib.hid hv
        clear hgq hv
        have hlb := hbx.lt
        have HTK := Lib.hid (HATK.out.take h2 q HALL.out HGQ.out)
        have hne : ¬ q = 94 := by omega
        have hne2 : decide ((q : Int) = 94) = false := by simp; omega
        go_wp2_with fail
        refine HTK.out.mono ?_
        rintro e y5 ⟨rfl, h5, hb5⟩
        have c5 := hb5.cell q _ (bcells_at (by rw [hlen]; exact hq94))
        have f5 := hb5.free
        have l5 := hb5.lt
        have hcs : (T.set q true).countP id = cT + 1 := by
         have := countP_set (T := T) (q := q) (by rw [hlen]; exact hq94) true
         rw [HV2.out, HCT.out] at this
         simpa using this
        have hcn := (PMid.mark (T2 := T.set q true) h5 hb5 rfl hlen HATK.out.gt).count h2
        rw [hcs] at hcn
        have HCN := Lib.hid hcn
        have HCS := Lib.hid hcs
        clear h5 hb5 hcn hcs HTK
        go_wp2_with fail
        refine HCN.out.mono ?_
        rintro e y6 ⟨rfl, hp⟩
        have HP6 := Lib.hid hp
        clear hp HCN
        go_wp2_with fail
        go_roundw
        ·exact ⟨k + 1, T.set q true, by omega, by omega, by go_num, by rw [HCS.out]; rfl, HP6.out⟩
        ·simp [intOf]; omega
      ·obtain rfl : q = 94 := by omega
       have HTK := Lib.hid (HATK.out.full h2 (fun j hj => HALL.out j (by rw [hlen] at hj; exact hj)))
       go_wp2_with fail
       refine HTK.out.mono ?_
       rintro e y5 ⟨rfl, hp⟩
       have HP5 := Lib.hid hp
       clear hp HTK
       go_wp2_with fail
       go_roundw
       ·exact ⟨k + 1, T, by omega, by omega, by go_num, by rw [HCT.out], HP5.out⟩
       ·simp [intOf]; omega
    ·have hk0 : decide (kd = 0) = false := by simpa using k0
     by_cases k1 : kd = 1
     ·subst k1
      have hgv := HATK.out.give h2 p HOK.out
      have hlen := HATK.out.len
      have hbx := HATK.out.box
      rw [hlen] at hgv
      by_cases hin : 1 ≤ p ∧ p < 94
      ·obtain ⟨q, rfl⟩ : ∃ q : Nat, p = (q : Int) := ⟨p.toNat, by omega⟩
       have hq94 : q < 94 := by omega
       rw [Int.toNat_natCast, decide_eq_true (show 1 ≤ (q : Int) ∧ (q : Int) < ((94 : Nat) : Int) by omega), Bool.true_and] at hgv
       have b1 : decide ((q : Int) ≥ 1) = true := by simp; omega
       have b2 : decide (1 ≤ (q : Int)) = true := by simp; omega
       have b3 : decide ((q : Int) < 94) = true := by simp; omega
       have b4 : decide (1 ≤ q) = true := by simp; omega
       have b5 : decide (q < 94) = true := by simp; omega
       cases hv : T.getD q false with
       | true =>
        rw [hv] at hgv
        simp only [if_true] at hgv
        have HV2 := Lib.hid hv
        have HGV := Lib.hid hgv
        clear hgv hv
        go_wp2_with fail
        refine HGV.out.mono ?_
        rintro e y5 ⟨rfl, h5, hb5⟩
        have c5 : y5.cell? ⟨gt, q, none⟩ = some (.bool true) := by rw [← HV2.out]; exact hb5.cell q _ (bcells_at (by rw [hlen]; exact hq94))
        have f5 := hb5.free
        have l5 := hb5.lt
        have hcs : (T.set q false).countP id + 1 = cT := by
         have := countP_set (T := T) (q := q) (by rw [hlen]; exact hq94) false
         rw [HV2.out, HCT.out] at this
         simpa using this
        obtain ⟨cS, hcS⟩ : ∃ x, (T.set q false).countP id = x := ⟨_, rfl⟩
        rw [hcS] at hcs
        have hcn := (PMid.mark (T2 := T.set q false) h5 hb5 rfl hlen HATK.out.gt).count h2
        rw [hcS] at hcn
        have HCN := Lib.hid hcn
        have HCS := Lib.hid hcS
        obtain rfl := hcs
        clear h5 hb5 hcn hcS
        go_wp2_with fail
        refine HCN.out.mono ?_
        rintro e y6 ⟨rfl, hp⟩
        have HP6 := Lib.hid hp
        clear hp HCN
        go_wp2_with fail
        go_roundw
        ·exact ⟨k + 1, T.set q false, by omega, by omega, by go_num, by rw [HCS.out], HP6.out⟩
        ·simp [intOf]; omega
       | false =>
        rw [hv] at hgv
        simp only [Bool.false_eq_true, if_false] at hgv
        have HV2 := Lib.hid hv
        have HGV := Lib.hid hgv
        clear hgv hv
        go_wp2_with fail
        refine HGV.out.mono ?_
        rintro e y5 ⟨rfl, h5, hb5⟩
        have c5 : y5.cell? ⟨gt, q, none⟩ = some (.bool false) := by rw [← HV2.out]; exact hb5.cell q _ (bcells_at (by rw [hlen]; exact hq94))
        have l5 := hb5.lt
        have hcn := (PMid.mk h5 hb5 hlen HATK.out.gt).count h2
        rw [HCT.out] at hcn
        have HCN := Lib.hid hcn
        clear h5 hb5 hcn
        go_wp2_with fail
        refine HCN.out.mono ?_
        rintro e y6 ⟨rfl, hp⟩
        have HP6 := Lib.hid hp
        clear hp HCN
        go_wp2_with fail
        go_roundw
        ·exact ⟨k + 1, T, by omega, by omega, by go_num, by rw [HCT.out], HP6.out⟩
        ·simp [intOf]; omega
      ·rw [decide_eq_false (show ¬ (1 ≤ p ∧ p < ((94 : Nat) : Int)) by omega), Bool.false_and] at hgv
       simp only [Bool.false_eq_true, if_false] at hgv
       have HGV := Lib.hid hgv
       clear hgv
       by_cases hp1 : 1 ≤ p
       ·have b1 : decide (p ≥ 1) = true := by simpa using hp1
        have b2 : decide (1 ≤ p) = true := by simpa using hp1
        have b3 : decide (p < 94) = false := by simp; omega
        go_wp2_with fail
        refine HGV.out.mono ?_
        rintro e y5 ⟨rfl, h5, hb5⟩
        have hcn := (PMid.mk h5 hb5 hlen HATK.out.gt).count h2
        rw [HCT.out] at hcn
        have HCN := Lib.hid hcn
        clear h5 hb5 hcn
        go_wp2_with fail
        refine HCN.out.mono ?_
        rintro e y6 ⟨rfl, hp⟩
        have HP6 := Lib.hid hp
        clear hp HCN
        go_wp2_with fail
        go_roundw
        ·exact ⟨k + 1, T, by omega, by omega, by go_num, by rw [HCT.out], HP6.out⟩
        ·simp [intOf]; omega
       ·have b1 : decide (p ≥ 1) = false := by simpa using hp1
        have b2 : decide (1 ≤ p) = false := by simpa using hp1
        go_wp2_with fail
        refine HGV.out.mono ?_
        rintro e y5 ⟨rfl, h5, hb5⟩
        have hcn := (PMid.mk h5 hb5 hlen HATK.out.gt).count h2
        rw [HCT.out] at hcn
        have HCN := Lib.hid hcn
        clear h5 hb5 hcn
        go_wp2_with fail
        refine HCN.out.mono ?_
        rintro e y6 ⟨rfl, hp⟩
        have HP6 := Lib.hid hp
        clear hp HCN
        go_wp2_with fail
        go_roundw
        ·exact ⟨k + 1, T, by omega, by omega, by go_num, by rw [HCT.out], HP6.out⟩
        ·simp [intOf]; omega
     ·have hk1 : decide (kd = 1) = false := by simpa using k1
      by_cases k2 : kd = 2
      ·subst k2
       have htk := HATK.out.taken h2 p HOK.out
       have hlen := HATK.out.len
       rw [hlen] at htk
       by_cases hp0 : p < 0
       ·rw [if_pos (.inl hp0)] at htk
        have b1 : decide (p < 0) = true := by simpa using hp0
        have HTK := Lib.hid htk
        clear htk
        go_wp2_with fail
        refine HTK.out.mono ?_
        rintro e y5 ⟨rfl, hmid⟩
        have hcn := hmid.count h2
        rw [HCT.out] at hcn
        have HCN := Lib.hid hcn
        clear hmid hcn
        go_wp2_with fail
        refine HCN.out.mono ?_
        rintro e y6 ⟨rfl, hp⟩
        have HP6 := Lib.hid hp
        clear hp HCN
        go_wp2_with fail
        go_roundw
        ·exact ⟨k + 1, T, by omega, by omega, by go_num, by rw [HCT.out], HP6.out⟩
        ·simp [intOf]; omega
       ·have b1 : decide (p < 0) = false := by simpa using hp0
        by_cases hp9 : 94 ≤ p
        ·rw [if_pos (.inr (by omega))] at htk
         have b2 : decide (p ≥ 94) = true := by simpa using hp9
         have b3 : decide (94 ≤ p) = true := by simpa using hp9
         have HTK := Lib.hid htk
         clear htk
         go_wp2_with fail
         refine HTK.out.mono ?_
         rintro e y5 ⟨rfl, hmid⟩
         have hcn := hmid.count h2
         rw [HCT.out] at hcn
         have HCN := Lib.hid hcn
         clear hmid hcn
         go_wp2_with fail
         refine HCN.out.mono ?_
         rintro e y6 ⟨rfl, hp⟩
         have HP6 := Lib.hid hp
         clear hp HCN
         go_wp2_with fail
         go_roundw
         ·exact ⟨k + 1, T, by omega, by omega, by go_num, by rw [HCT.out], HP6.out⟩
         ·simp [intOf]; omega
        ·obtain ⟨q, rfl⟩ : ∃ q : Nat, p = (q : Int) := ⟨p.toNat, by omega⟩
         have hq94 : q < 94 := by omega
         rw [if_neg (by omega), Int.toNat_natCast] at htk
         have b2 : decide ((q : Int) ≥ 94) = false := by simp; omega
         have b3 : decide (94 ≤ (q : Int)) = false := by simp; omega
         have b4 : decide (94 ≤ q) = false := by simp; omega
         have b5 : decide ((q : Int) < 0) = false := by simp
         cases hv : T.getD q false with
         | true =>
          rw [hv] at htk
          have HV2 := Lib.hid hv
          have HTK := Lib.hid htk
          clear htk hv
          go_wp2_with fail
          refine HTK.out.mono ?_
          rintro e y5 ⟨rfl, hmid⟩
          have c5 : y5.cell? ⟨gt, q, none⟩ = some (.bool true) := by rw [← HV2.out]; exact hmid.box.cell q _ (bcells_at (by rw [hlen]; exact hq94))
          have l5 := hmid.box.lt
          have hcn := hmid.count h2
          rw [HCT.out] at hcn
          have HCN := Lib.hid hcn
          clear hmid hcn
          go_wp2_with fail
          refine HCN.out.mono ?_
          rintro e y6 ⟨rfl, hp⟩
          have HP6 := Lib.hid hp
          clear hp HCN
          go_wp2_with fail
          go_roundw
          ·exact ⟨k + 1, T, by omega, by omega, by go_num, by rw [HCT.out], HP6.out⟩
          ·simp [intOf]; omega
         | false =>
          rw [hv] at htk
          have HV2 := Lib.hid hv
          have HTK := Lib.hid htk
          clear htk hv
          go_wp2_with fail
          refine HTK.out.mono ?_
          rintro e y5 ⟨rfl, hmid⟩
          have c5 : y5.cell? ⟨gt, q, none⟩ = some (.bool false) := by rw [← HV2.out]; exact hmid.box.cell q _ (bcells_at (by rw [hlen]; exact hq94))
          have l5 := hmid.box.lt
          have hcn := hmid.count h2
          rw [HCT.out] at hcn
          have HCN := Lib.hid hcn
          clear hmid hcn
          go_wp2_with fail
          refine HCN.out.mono ?_
          rintro e y6 ⟨rfl, hp⟩
          have HP6 := Lib.hid hp
          clear hp HCN
          go_wp2_with fail
          go_roundw
          ·exact ⟨k + 1, T, by omega, by omega, by go_num, by rw [HCT.out], HP6.out⟩
          ·simp [intOf]; omega
      ·have hk2 : decide (kd = 2) = false := by simpa using k2
       have hcn := (HATK.out.mid h2).count h2
       rw [HCT.out] at hcn
       have HCN := Lib.hid hcn
       clear hcn
       go_wp2_with fail
       refine HCN.out.mono ?_
       rintro e y6 ⟨rfl, hp⟩
       have HP6 := Lib.hid hp
       clear hp HCN
       go_wp2_with fail
       go_roundw
       ·exact ⟨k + 1, T, by omega, by omega, by go_num, by rw [HCT.out], HP6.out⟩
       ·simp [intOf]; omega
   ·obtain rfl : k = 25 := by omega
    have hb2 : decide ((25 : Int) < 25) = false := by decide
    go_wp2_with fail
    go_ret
    exact ⟨rfl, HATK.out.bel⟩
  ·obtain rfl : k = n := by omega
   go_wp2_with fail
   go_ret
   exact ⟨rfl, HATK.out.bel⟩
end Go.Proofs.YtpajagkhmodbnaaGreat

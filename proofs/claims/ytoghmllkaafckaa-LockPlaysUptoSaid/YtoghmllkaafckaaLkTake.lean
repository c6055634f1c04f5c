/- lock: the table that a transaction manager owns; New, Release, Take. Conditions: at most 2^20 locks and wants. -/
import Derived.Test.YtoghmllkaafckaaLkHeld
import Derived.Test.YtoghmllkaafckaaAppK
namespace Go.Proofs.Ytoghmllkaafckaa
set_option linter.unusedSimpArgs false
set_option linter.unusedVariables false
open Go.RowKit

/-- a table that may be written: its slice lies in a row of its own -/
structure TabO (w : World) (G tb : Nat) (v : Value) (n : Nat) (L : List Hd) : Prop where
  box : Box w tb [v]
  own : w.ownsRow G 62 3 v n (hcells L)
  sep : ¬ v.ownBlock = some tb
  len : L.length = n
theorem TabO.read {w : World} {G tb n : Nat} {v : Value} {L : List Hd} (h : TabO w G tb v n L) : ∃ ao c, v = .slice ao n c ∧ TabR w tb n c ao L := by
  obtain ⟨ao, c, e⟩ := (Reads.of_own h.own).shape
  subst e
  exact ⟨ao, c, rfl, h.box, Reads.of_own h.own, h.len⟩
theorem TabO.grow {X : Nat → Prop} {w w' : World} {G tb n : Nat} {v : Value} {L : List Hd} (h : TabO w G tb v n L) (hg : GrowX X w w') (h1 : ¬ X tb) (h2 : ∀ q, v.ownBlock = some q → ¬ X q) : TabO w' G tb v n L :=
  ⟨h.box.growx hg h1, own_growx h.own hg h2, h.sep, h.len⟩
theorem TabO.below {w w' : World} {G tb n : Nat} {v : Value} {L : List Hd} (h : TabO w G tb v n L) (hb : Below w.heap.size w w') : TabO w' G tb v n L :=
  h.grow (X := fun _ => False) (grow_below hb) (fun h => h) (fun _ _ h => h)

theorem new_any (G : Nat) (w : World) (hG : G ≤ w.heap.size) : Calls Try.prog 13 #[] w fun e w' => e = .returned (.pointer (some ⟨w.heap.size, 0, none⟩)) ∧ TabO w' G w.heap.size (.slice none 0 0) 0 [] ∧ Below w.heap.size w w' := by
  have hbx := Box.new w #[.slice none 0 0] 59 rfl
  have HBX := Lib.hid hbx
  clear hbx
  go_enter Try.func13, Try.ntmps13
  go_wp2
  go_ret
  exact ⟨rfl, ⟨HBX.out, World.ownsRow_nil _ _ _ _, by simp [Value.ownBlock], rfl⟩, (Below.refl _ _).alloc (Nat.le_refl _) _⟩

theorem del_none (c : Nat) (ao : Option Addr) (fv : Value) (w : World) : Calls Try.prog 31 #[.slice ao 0 c, fv] w fun e w' => e = .returned (.slice ao 0 c) ∧ Below w.heap.size w w' := by
  go_enter Try.func31, Try.ntmps31
  go_wp2_with (go_at_call 43; refine (idxH_none ao c fv _).mono ?_; rintro e w1 ⟨rfl, hb1⟩)
  go_ret
  exact ⟨rfl, hb1⟩

/-- what DeleteFunc leaves of a table's row -/
def DelEnd (G : Nat) (v : Value) (n : Nat) (M : List Hd) (w : World) (e : Ending) (w' : World) : Prop :=
  ∃ (a5 : Option Addr) (c5 m : Nat), e = .returned (.slice a5 m c5) ∧ M.length = m ∧ m ≤ n ∧ w'.ownsRow G 62 3 (.slice a5 m c5) m (hcells M) ∧ (Value.slice a5 m c5).ownBlock = v.ownBlock ∧ GrowX (fun k => v.ownBlock = some k) w w'
theorem del_all (L : List Hd) (v : Value) (n G : Nat) (fn : Nat) (lb : Array Value) (p : Hd → Bool) (F : World → Prop) (eg : ∀ args w, (callFunc fn args).run Try.prog w = .ok (.enter fn args) w) (hP : PredOf fn lb p v.ownBlock F) (hl : L.length = n) (hn : n ≤ 1099511627776) (w : World) (hF : F w) (hown : w.ownsRow G 62 3 v n (hcells L)) :
    Calls Try.prog 31 #[v, .func (.func fn) #[] lb] w (DelEnd G v n (L.filter fun x => !p x) w) := by
  rcases Nat.eq_zero_or_pos n with e | e
  · subst e
    obtain rfl : L = [] := List.eq_nil_of_length_eq_zero hl
    obtain ⟨ao, c, rfl⟩ := (Reads.of_own hown).shape
    refine (del_none c ao _ w).mono ?_
    rintro e w' ⟨rfl, hb⟩
    exact ⟨_, _, 0, rfl, rfl, Nat.le_refl _, own_below hown hb (fun q e => (hown.lt q e).2), rfl, grow_below hb⟩
  · have hown' := hown
    rcases hown.2 with ⟨_, h0⟩ | ⟨g, cap, cur, rfl, _⟩
    · omega
    refine (del_any L n cap G g fn lb p F eg hP hl hn e w hF hown').mono ?_
    rintro e w' ⟨m, rfl, hm, hmn, ho, hg⟩
    exact ⟨_, _, m, rfl, hm, hmn, ho, rfl, ⟨hg.os, hg.tape, hg.output, hg.size, fun k hk hx => hg.block k hk (fun e => hx (by rw [e]; rfl))⟩⟩

theorem rclos_any (g : Nat) (id : Int) (x : Hd) (w : World) (hb : Box w g [.int .i64 id]) :
    Calls Try.prog 32 #[.agg #[.int .i64 x.1, .string x.2.1, .int .i64 x.2.2], .pointer (some ⟨g, 0, none⟩)] w fun e w' => e = .returned (.bool (decide (x.1 = id))) ∧ Below w.heap.size w w' := by
  have hc0 := hb.cell 0 _ rfl
  have hlt := hb.lt
  clear hb
  go_enter Try.func32, Try.ntmps32
  go_wp2
  go_ret
  exact ⟨rfl, (Below.refl _ _).alloc (Nat.le_refl _) _⟩

theorem tclos_any (g gw : Nat) (id : Int) (y1 : ByteArray) (y2 : Int) (x : Hd) (w : World) (hb : Box w g [.int .i64 id]) (hw : Box w gw [.string y1, .int .i64 y2]) :
    Calls Try.prog 40 #[.agg #[.int .i64 x.1, .string x.2.1, .int .i64 x.2.2], .pointer (some ⟨g, 0, none⟩), .pointer (some ⟨gw, 0, none⟩)] w fun e w' => e = .returned (.bool (decide (x.1 = id ∧ x.2.1 = y1))) ∧ Below w.heap.size w w' := by
  have hc0 := hb.cell 0 _ rfl
  have hlt := hb.lt
  have hw0 := hw.cell 0 _ rfl
  have hwl := hw.lt
  clear hb hw
  by_cases h1 : x.1 = id
  · by_cases h2 : x.2.1 = y1
    · have hb1 : (x.1 == id) = true := by simp [h1]
      have hb2 : (x.2.1.toList == y1.toList) = true := str_eq h2
      have HB : Hid (decide (x.1 = id ∧ x.2.1 = y1) = true) := Lib.hid (by simp [h1, h2])
      clear h1 h2
      go_enter Try.func40, Try.ntmps40
      go_wp2
      go_ret
      exact ⟨by rw [HB.out]; rfl, (Below.refl _ _).alloc (Nat.le_refl _) _⟩
    · have hb1 : (x.1 == id) = true := by simp [h1]
      have hb2 : (x.2.1.toList == y1.toList) = false := str_ne h2
      have HB : Hid (decide (x.1 = id ∧ x.2.1 = y1) = false) := Lib.hid (by simp [h2])
      clear h1 h2
      go_enter Try.func40, Try.ntmps40
      go_wp2
      go_ret
      exact ⟨by rw [HB.out]; rfl, (Below.refl _ _).alloc (Nat.le_refl _) _⟩
  · have hb1 : (x.1 == id) = false := by simp [h1]
    have HB : Hid (decide (x.1 = id ∧ x.2.1 = y1) = false) := Lib.hid (by simp [h1])
    clear h1
    go_enter Try.func40, Try.ntmps40
    go_wp2
    go_ret
    exact ⟨by rw [HB.out]; rfl, (Below.refl _ _).alloc (Nat.le_refl _) _⟩

def releaseL (L : List Hd) (id : Int) : List Hd := L.filter fun x => !decide (x.1 = id)
/-- what a call that changes a table leaves -/
def TabStep (G tb : Nat) (v : Value) (M : List Hd) (N : Nat) (w w' : World) : Prop :=
  ∃ (v' : Value) (n' : Nat), TabO w' G tb v' n' M ∧ n' ≤ N ∧ (∀ q, v'.ownBlock = some q → v.ownBlock = some q ∨ w.heap.size ≤ q) ∧ GrowX (fun k => k = tb ∨ v.ownBlock = some k) w w'

set_option maxHeartbeats 1600000 in
theorem release_any (L : List Hd) (G tb n : Nat) (v : Value) (hn : n ≤ 1099511627776) (id : Int) (w : World) (ht : TabO w G tb v n L) :
    Calls Try.prog 14 #[.pointer (some ⟨tb, 0, none⟩), .int .i64 id] w fun e w' => e = .returned (.tuple #[]) ∧ TabStep G tb v (releaseL L id) n w w' := by
  have hc0 := ht.box.cell 0 _ rfl
  have hlt := ht.box.lt
  have HT := Lib.hid ht
  obtain ⟨gi, hgi⟩ : ∃ g, w.heap.size = g := ⟨_, rfl⟩
  have HGI := Lib.hid hgi
  have hbx := Box.new w #[.int .i64 id] 3 hgi.symm
  have hal : Below w.heap.size w (w.alloc (.cells #[.int .i64 id] 3)) := (Below.refl w.heap.size w).alloc (Nat.le_refl _) _
  have HBX := Lib.hid hbx
  have HT1 := Lib.hid (ht.below hal)
  have HAL := Lib.hid hal
  have HNE : Hid (¬ some gi = v.ownBlock) := Lib.hid (fun e => by have := (ht.own.lt gi e.symm).2; omega)
  clear ht hbx hal
  have eg : ∀ args w, (callFunc 32 args).run Try.prog w = .ok (.enter 32 args) w := enters_of Try.func32 (by kernel_rfl) rfl
  have HEG := Lib.hid eg
  have HP : Hid (PredOf 32 #[.pointer (some ⟨gi, 0, none⟩)] (fun x => decide (x.1 = id)) v.ownBlock (fun W => Box W gi [.int .i64 id])) :=
    Lib.hid ⟨fun W W' hF hg => hF.growx hg HNE.out, fun W x hF => rclos_any gi id x W hF⟩
  clear eg hgi
  go_enter Try.func14, Try.ntmps14
  go_wp2_with fail
  rw [HGI.out]
  refine (del_all L v n G _ _ _ _ HEG.out HP.out HT.out.len hn _ HBX.out HT1.out.own).mono ?_
  rintro e w1 ⟨a5, c5, m, rfl, hm, hmn, ho, hvb, hg⟩
  have hb1 := HT1.out.box.growx hg HT.out.sep
  have hd0 := hb1.cell 0 _ rfl
  have hd1 := hb1.free
  have HB1 := Lib.hid hb1
  have HO := Lib.hid ho
  have HM := Lib.hid hm
  have HV := Lib.hid hvb
  have HG := Lib.hid hg
  clear hb1 ho hm hvb hg hc0 hlt
  go_wp2
  go_end0
  refine ⟨rfl, (.slice a5 m c5), m, ⟨HB1.out.setCell 0 (.slice a5 m c5), own_growx HO.out (growX_setCell w1 tb 0 (.slice a5 m c5)) (fun q e1 e2 => HT.out.sep (by rw [← HV.out, e1, e2])), by rw [HV.out]; exact HT.out.sep, HM.out⟩, hmn, fun q e => .inl (by rw [← HV.out]; exact e), ?_⟩
  exact (grow_below HAL.out).trans ((HG.out.mono (fun k hk => .inr hk)).trans ((growX_setCell w1 tb 0 (.slice a5 m c5)).mono (fun k hk => .inl hk)))

def takeF (id : Int) (L : List Hd) (w : Wn) : List Hd := L.filter (fun x => !decide (x.1 = id ∧ x.2.1 = w.1)) ++ [(id, w.1, w.2)]
def takeL (L : List Hd) (id : Int) (W : List Wn) : List Hd := W.foldl (takeF id) L
theorem takeL_snoc (L : List Hd) (id : Int) (W : List Wn) (x : Wn) : takeL L id (W ++ [x]) = takeF id (takeL L id W) x := by simp [takeL, List.foldl_append]
theorem GrowX.step {X Y : Nat → Prop} {a b c : World} (h : GrowX X a b) (k : GrowX Y b c) (hY : ∀ q, q < a.heap.size → Y q → X q) : GrowX X a c :=
  ⟨k.os.trans h.os, k.tape.trans h.tape, k.output.trans h.output, Nat.le_trans h.size k.size, fun i hi hx => (k.block i (Nat.lt_of_lt_of_le hi h.size) (fun y => hx (hY i hi y))).trans (h.block i hi hx)⟩

def WTk7 (tb gi gw : Nat) (id : Int) (y1 : ByteArray) (y2 : Int) (vt : Value) (HS G n : Nat) (L : List Hd) (j b o : Nat) : Prop := (j = 9 ∧ vt.ownBlock = some b)
def PTk7 (tb gi gw : Nat) (id : Int) (y1 : ByteArray) (y2 : Int) (vt : Value) (HS G n : Nat) (L : List Hd) (i : Nat) (v : Value) (lo hi : Nat) (w : World) : Prop :=
  match i with
  | 0 => v = .pointer (some ⟨tb, 0, none⟩)
  | 1 => v = .pointer (some ⟨tb, 0, none⟩)
  | 2 => v = .pointer (some ⟨tb, 0, none⟩)
  | 3 => v = .pointer (some ⟨tb, 0, none⟩)
  | 4 => v = vt
  | 5 => v = .int .i64 id
  | 6 => v = .agg #[.string y1, .int .i64 y2]
  | 7 => v = .agg #[.int .i64 id, .string y1, .int .i64 y2]
  | 8 => v = .slice (some ⟨lo, 0, none⟩) 1 1 ∧ HS ≤ lo ∧ lo < w.heap.size ∧ w.cell? ⟨lo, 0, none⟩ = some (.int .i64 id) ∧ w.cell? ⟨lo, 1, none⟩ = some (.string y1) ∧ w.cell? ⟨lo, 2, none⟩ = some (.int .i64 y2)
  | 9 => ∃ ob cp, v = .slice (some ⟨ob, 0, none⟩) (n + 1) cp ∧ w.ownsRow G 62 3 v (n + 1) (hcells (L ++ [(id, y1, y2)])) ∧ (vt.ownBlock = some ob ∨ HS ≤ ob)
  | 10 => v = .pointer (some ⟨tb, 0, none⟩)
  | 11 => v = .pointer (some ⟨tb, 0, none⟩)
  | _ => True
theorem PTk7_stable (tb gi gw : Nat) (id : Int) (y1 : ByteArray) (y2 : Int) (vt : Value) (HS G n : Nat) (L : List Hd) (hsb : ∀ k, vt.ownBlock = some k → k < HS) : ∀ i j, i < 12 → j < 12 → j ≠ i → j ∉ ([[], [], [1], [1, 2], [1, 2, 3], [], [], [5, 6], [5, 6, 7], [1, 2, 3, 4, 5, 6, 7, 8], [0, 1, 2, 3, 4, 5, 6, 7, 8, 9], [0, 1, 2, 3, 4, 5, 6, 7, 8, 9, 10]] : List (List Nat)).getD i [] → ∀ v lo hi w w', PTk7 tb gi gw id y1 y2 vt HS G n L i v lo hi w → GrowC (WTk7 tb gi gw id y1 y2 vt HS G n L j) w w' → PTk7 tb gi gw id y1 y2 vt HS G n L i v lo hi w' := by
  intro i j hi hj hne hbs v lo hj2 w w' h hg
  match i, hi with
  | 0, _ =>
    simp only [PTk7] at h ⊢
    exact h
  | 1, _ =>
    simp only [PTk7] at h ⊢
    exact h
  | 2, _ =>
    simp only [PTk7] at h ⊢
    exact h
  | 3, _ =>
    simp only [PTk7] at h ⊢
    exact h
  | 4, _ =>
    simp only [PTk7] at h ⊢
    exact h
  | 5, _ =>
    simp only [PTk7] at h ⊢
    exact h
  | 6, _ =>
    simp only [PTk7] at h ⊢
    exact h
  | 7, _ =>
    simp only [PTk7] at h ⊢
    exact h
  | 8, _ =>
    simp only [PTk7] at h ⊢
    exact ⟨h.1, h.2.1, Nat.lt_of_lt_of_le h.2.2.1 hg.size, (hg.cell _ _ h.2.2.1 (fun hw => by simp only [WTk7] at hw; have := hsb _ hw.2; omega)).trans h.2.2.2.1, (hg.cell _ _ h.2.2.1 (fun hw => by simp only [WTk7] at hw; have := hsb _ hw.2; omega)).trans h.2.2.2.2.1, (hg.cell _ _ h.2.2.1 (fun hw => by simp only [WTk7] at hw; have := hsb _ hw.2; omega)).trans h.2.2.2.2.2⟩
  | 9, _ =>
    simp only [PTk7] at h ⊢
    obtain ⟨ob, cp, e, ho, hor⟩ := h
    exact ⟨ob, cp, e, own_growx (X := fun _ => False) ho (GrowX.of_growC hg (fun k o hw => hne hw.1)) (fun _ _ h => h), hor⟩
  | 10, _ =>
    simp only [PTk7] at h ⊢
    exact h
  | 11, _ =>
    simp only [PTk7] at h ⊢
    exact h
  | (q + 12), hq => exact absurd hq (by omega)

set_option maxRecDepth 100000 in
set_option maxHeartbeats 6400000 in
theorem take_any (L : List Hd) (G tb n : Nat) (v : Value) (hn : n ≤ 1048576) (id : Int) (l : List Wn) (vl : Value) (nl : Nat) (hl : l.length = nl) (hnl : nl ≤ 1048576) (w : World) (hGw : G ≤ w.heap.size) (ht : TabO w G tb v n L) (hv : Reads 2 w vl nl (wcells l)) :
    Calls Try.prog 17 #[.pointer (some ⟨tb, 0, none⟩), .int .i64 id, vl] w fun e w' => ∃ c : List Int, IsAsk L id l c ∧
      ((c = [] ∧ e = .returned (.bool true) ∧ TabStep G tb v (takeL L id (whole L id l)) (n + nl) w w') ∨ (c ≠ [] ∧ e = .returned (.bool false) ∧ Below w.heap.size w w')) := by
  obtain ⟨av, cv, rfl⟩ := hv.shape
  obtain ⟨ao, c0, rfl, hr⟩ := ht.read
  have HL := Lib.hid hl
  have HT := Lib.hid ht
  obtain ⟨gi, hgi⟩ : ∃ g, w.heap.size = g := ⟨_, rfl⟩
  have HGI := Lib.hid hgi
  have hbx := Box.new w #[.int .i64 id] 3 hgi.symm
  have hal : Below w.heap.size w (w.alloc (.cells #[.int .i64 id] 3)) := (Below.refl w.heap.size w).alloc (Nat.le_refl _) _
  have HBX := Lib.hid hbx
  have HT1 := Lib.hid (ht.below hal)
  have HR1 := Lib.hid (hr.below hal (Nat.le_refl _))
  have HV1 := Lib.hid (hv.below hal (Nat.le_refl _))
  have HAL := Lib.hid hal
  have hbi := hbx.cell 0 _ rfl
  clear ht hr hv hbx hal hl
  go_enter Try.func17, Try.ntmps17
  go_wp2_with fail
  clear hgi
  refine calls_world (fun w1 => Box w1 gi [.int .i64 id] ∧ TabO w1 G tb (.slice ao n c0) n L ∧ TabR w1 tb n c0 ao L ∧ Reads 2 w1 (.slice av nl cv) nl (wcells l) ∧ Below w.heap.size w w1) ⟨HBX.out, HT1.out, HR1.out, HV1.out, HAL.out⟩ ?_
  clear HBX HT1 HR1 HV1 HAL hbi
  rintro w1 ⟨bi, ht1, hr1, hv1, hal⟩
  have hG1 : G ≤ w1.heap.size := by have := hal.size; omega
  have HW1 := Lib.hid hr1
  have HV1 := Lib.hid hv1
  refine (ask_any L tb n c0 ao hn id l _ nl HL.out hnl w1 HW1.out HV1.out).mono ?_
  rintro e w2 ⟨c, vc, m, rfl, hask, hcm, hm40, hrc, hb2⟩
  obtain ⟨ac, cc, rfl⟩ := hrc.shape
  have HASK := Lib.hid hask
  have HI2 := Lib.hid (bi.below hb2 (Nat.le_refl _))
  have HT2 := Lib.hid (ht1.below hb2)
  have HR2 := Lib.hid (hr1.below hb2 (Nat.le_refl _))
  have HV2 := Lib.hid (hv1.below hb2 (Nat.le_refl _))
  have HB2 := Lib.hid (hal.trans (hb2.mono hal.size))
  have hG2 : G ≤ w2.heap.size := by have := hb2.size; omega
  have HCM := Lib.hid hcm
  clear hask hcm hrc hb2 bi ht1 hr1 hv1 hal HW1 HV1
  by_cases hm0 : 0 < m
  · have hmb : decide (0 < m) = true := by simpa using hm0
    go_wp2_with fail
    go_ret
    exact ⟨c, HASK.out, .inr ⟨by intro h; have := HCM.out; rw [h] at this; simp at this; omega, rfl, HB2.out⟩⟩
  · have hm00 : m = 0 := by omega
    subst hm00
    have HC0 : Hid (c = []) := Lib.hid (List.eq_nil_of_length_eq_zero HCM.out)
    have ci0 := HI2.out.cell 0 _ rfl
    go_wp2_with fail
    clear ci0
    refine (whole_any L tb n c0 ao (by omega) id l _ nl HL.out (by omega) w2 HR2.out HV2.out).mono ?_
    rintro e w3 ⟨vw, mw, rfl, hownw, hlw, hmw, hb3⟩
    obtain ⟨aw, cw, rfl⟩ := (Reads.of_own hownw).shape
    have HOW := Lib.hid hownw
    have HWB : Hid (∀ q, (Value.slice aw mw cw).ownBlock = some q → w2.heap.size ≤ q ∧ q < w3.heap.size) := Lib.hid (fun q e => hownw.lt q e)
    have hw2w : w.heap.size ≤ w2.heap.size := HB2.out.size
    have hw23 : w2.heap.size ≤ w3.heap.size := hb3.size
    have HI3 := Lib.hid (HI2.out.below hb3 (Nat.le_refl _))
    have HT3 := Lib.hid (HT2.out.below hb3)
    have HB3 := Lib.hid (HB2.out.trans (hb3.mono HB2.out.size))
    have hG3 : G ≤ w3.heap.size := by have := hb3.size; omega
    have HLW := Lib.hid hlw
    obtain ⟨S3, hS3⟩ : ∃ q, w3.heap.size = q := ⟨_, rfl⟩
    have HS3 := Lib.hid hS3
    have hwS : w.heap.size ≤ S3 := by have := HB3.out.size; omega
    have HWR : Hid (∀ q, (Value.slice ao n c0).ownBlock = some q → q < w.heap.size) := Lib.hid (fun q e => (HT.out.own.lt q e).2)
    have htw : tb < w.heap.size := HT.out.box.lt
    have hgiw : w.heap.size = gi := HGI.out
    have HGW : Hid (w.heap.size ≤ gi ∧ gi < S3) := Lib.hid ⟨by omega, by have := HI3.out.lt; omega⟩
    clear hgiw hS3 hlw hownw hb3 HI2 HT2 HR2 HV2 HB2 HL hG1 hG2
    generalize hWd : whole L id l = W at *
    have HWD := Lib.hid hWd
    clear hWd
    have HWT : Hid (∀ q, (Value.slice aw mw cw).ownBlock = some q → q ≠ tb ∧ ¬ (Value.slice ao n c0).ownBlock = some q ∧ q < S3) := Lib.hid (fun q e => by
      have h1 := HWB.out q e
      have h2 := HS3.out
      exact ⟨by omega, fun e2 => by have := HWR.out q e2; omega, by omega⟩)
    clear HWB hw2w hw23
    go_wp2_with fail
    go_loopw [20] (fun i wr => ∃ (k nk : Nat) (vk : Value), k ≤ mw ∧ i = .int .i64 k ∧ nk ≤ n + k ∧ TabO wr G tb vk nk (takeL L id (W.take k)) ∧ Box wr gi [.int .i64 id] ∧ wr.ownsRow w2.heap.size 40 2 (.slice aw mw cw) mw (wcells W) ∧
        (∀ q, vk.ownBlock = some q → (Value.slice ao n c0).ownBlock = some q ∨ S3 ≤ q) ∧ GrowX (fun k => k = tb ∨ (Value.slice ao n c0).ownBlock = some k) w3 wr) (fun i _ => mw - (intOf i).toNat)
    case atStart => exact ⟨0, n, _, Nat.zero_le _, rfl, by omega, HT3.out, HI3.out, HOW.out, fun q e => .inl e, GrowX.refl _⟩
    case round =>
      obtain ⟨k, nk, vk, hk, rfl, hnk, htk, hik, how, hvk, hgk⟩ := hrel
      have HTK := Lib.hid htk
      have HIK := Lib.hid hik
      have HOWK := Lib.hid how
      have HVK := Lib.hid hvk
      have HGK := Lib.hid hgk
      have hS3 : S3 ≤ wr.heap.size := by have := hgk.size; have := HS3.out; omega
      clear htk hik how hvk hgk
      by_cases hlt : k < mw
      · have hkl : k < W.length := by rw [HLW.out]; exact hlt
        have hts : takeL L id (W.take (k + 1)) = takeF id (takeL L id (W.take k)) W[k] := by rw [List.take_succ_eq_append_getElem hkl, takeL_snoc]
        obtain ⟨b, o, c', e, hb, _, hc1, hc2⟩ := Wns.at (Reads.of_own HOWK.out) k hlt W[k] (List.getElem?_eq_getElem hkl)
        injection e with e1 e2 e3
        subst e1 e3
        have HTS := Lib.hid hts
        generalize W[k] = y at *
        obtain ⟨y1, y2⟩ := y
        generalize takeL L id (W.take k) = LK at *
        simp only at hc1 hc2
        clear hts hkl e2
        obtain ⟨gw, hgw⟩ : ∃ q, wr.heap.size = q := ⟨_, rfl⟩
        have HGWW := Lib.hid hgw
        have hal : Below wr.heap.size wr (wr.alloc (.cells #[.string y1, .int .i64 y2] 40)) := (Below.refl wr.heap.size wr).alloc (Nat.le_refl _) _
        have HBW := Lib.hid (Box.new wr #[.string y1, .int .i64 y2] 40 hgw.symm)
        have HTA := Lib.hid (HTK.out.below hal)
        have HIA := Lib.hid (HIK.out.below hal (Nat.le_refl _))
        have HOWA := Lib.hid (own_below HOWK.out hal (fun q e => (HOWK.out.lt q e).2))
        have HGA := Lib.hid (HGK.out.trans (grow_below hal))
        have hta := HTA.out.box.cell 0 _ rfl
        have hto := HTK.out.box.cell 0 _ rfl
        have htlr : tb < wr.heap.size := HTK.out.box.lt
        have htg : tb < gw := by omega
        have HNI : Hid (¬ some gi = vk.ownBlock) := Lib.hid (fun e => by
          rcases HVK.out gi e.symm with e2 | e2
          · have := HWR.out gi e2; have := HGW.out; omega
          · have := HGW.out; omega)
        have HNW : Hid (¬ some gw = vk.ownBlock) := Lib.hid (fun e => by have := (HTK.out.own.lt gw e.symm).2; omega)
        have HEG := Lib.hid (show ∀ args w, (callFunc 40 args).run Try.prog w = .ok (.enter 40 args) w from enters_of Try.func40 (by kernel_rfl) rfl)
        have HP : Hid (PredOf 40 #[.pointer (some ⟨gi, 0, none⟩), .pointer (some ⟨gw, 0, none⟩)] (fun x => decide (x.1 = id ∧ x.2.1 = y1)) vk.ownBlock (fun W => Box W gi [.int .i64 id] ∧ Box W gw [.string y1, .int .i64 y2])) :=
          Lib.hid ⟨fun W W' hF hg => ⟨hF.1.growx hg HNI.out, hF.2.growx hg HNW.out⟩, fun W x hF => tclos_any gi gw id y1 y2 x W hF.1 hF.2⟩
        clear hgw hal hb
        go_wp2_with fail
        clear hta hto
        try rw [HGWW.out]
        refine (del_all LK vk nk G _ _ _ _ HEG.out HP.out HTA.out.len (by omega) _ ⟨HIA.out, HBW.out⟩ HTA.out.own).mono ?_
        rintro e w4 ⟨a5, c5, m', rfl, hm', hmn', ho', hvb', hg'⟩
        have hb1 := HTA.out.box.growx hg' HTA.out.sep
        have HI4 := Lib.hid (HIA.out.growx hg' (fun e => HNI.out e.symm))
        have HW4 := Lib.hid (HBW.out.growx hg' (fun e => HNW.out e.symm))
        have HOW4 := Lib.hid (own_growx HOWA.out hg' (fun q e1 e2 => by
          have h1 := HWT.out q e1
          rcases HVK.out q e2 with e3 | e3
          · exact h1.2.1 e3
          · omega))
        have hd0 := hb1.cell 0 _ rfl
        have hd1 := hb1.free
        have HB4 := Lib.hid hb1
        have HO4 := Lib.hid ho'
        have HM4 := Lib.hid hm'
        have HV4 := Lib.hid hvb'
        have HG4 := Lib.hid hg'
        clear hb1 ho' hm' hvb' hg'
        go_wp2_with fail
        clear hd0 hd1
        obtain ⟨HS, hHS0⟩ : ∃ q, (w4.setCell ⟨tb, 0, none⟩ (Value.slice a5 m' c5)).heap.size = q := ⟨_, rfl⟩
        have HTB5 := HB4.out.setCell 0 (Value.slice a5 m' c5)
        have h5 : Box (w4.setCell ⟨tb, 0, none⟩ (Value.slice a5 m' c5)) tb [(Value.slice a5 m' c5)] ∧ Box (w4.setCell ⟨tb, 0, none⟩ (Value.slice a5 m' c5)) gi [.int .i64 id] ∧ Box (w4.setCell ⟨tb, 0, none⟩ (Value.slice a5 m' c5)) gw [.string y1, .int .i64 y2] ∧ (w4.setCell ⟨tb, 0, none⟩ (Value.slice a5 m' c5)).ownsRow G 62 3 (Value.slice a5 m' c5) m' (hcells (LK.filter fun x => !decide (x.1 = id ∧ x.2.1 = y1))) ∧
            (w4.setCell ⟨tb, 0, none⟩ (Value.slice a5 m' c5)).ownsRow w2.heap.size 40 2 (.slice (some ⟨b, o, none⟩) mw cw) mw (wcells W) ∧ GrowX (fun k => k = tb ∨ (Value.slice ao n c0).ownBlock = some k) w3 (w4.setCell ⟨tb, 0, none⟩ (Value.slice a5 m' c5)) ∧ (w4.setCell ⟨tb, 0, none⟩ (Value.slice a5 m' c5)).heap.size = HS :=
          ⟨HTB5, HI4.out.growx (growX_setCell w4 tb 0 (Value.slice a5 m' c5)) (by have := HGW.out; omega), HW4.out.growx (growX_setCell w4 tb 0 (Value.slice a5 m' c5)) (by omega),
            own_growx HO4.out (growX_setCell w4 tb 0 (Value.slice a5 m' c5)) (fun q e1 e2 => HTA.out.sep (by rw [← HV4.out, e1, e2])), own_growx HOW4.out (growX_setCell w4 tb 0 (Value.slice a5 m' c5)) (fun q e1 e2 => (HWT.out q e1).1 e2),
            (HGA.out.step HG4.out (fun q hq e => (HVK.out q e).elim (fun e => .inr e) (fun e => by have := HS3.out; omega))).trans ((growX_setCell w4 tb 0 (Value.slice a5 m' c5)).mono (fun k hk => .inl hk)), hHS0⟩
        have HV5 : Hid ((∀ q, (Value.slice a5 m' c5).ownBlock = some q → (Value.slice ao n c0).ownBlock = some q ∨ S3 ≤ q) ∧ (∀ q, (Value.slice a5 m' c5).ownBlock = some q → q < gw) ∧ ¬ (Value.slice a5 m' c5).ownBlock = some tb) := Lib.hid ⟨fun q e => HVK.out q (by rw [← HV4.out]; exact e), fun q e => by have := (HTK.out.own.lt q (by rw [← HV4.out]; exact e)).2; have := HGWW.out; omega, by rw [HV4.out]; exact HTK.out.sep⟩
        have hgwS : gw < HS := by have := h5.2.2.1.lt; omega
        clear HTB5 HI4 HW4 HO4 HOW4 HB4 HG4 HGA HIA HBW HTA HOWA HIK HOWK HTK HGK hHS0
        refine wp_world (fun w5 => Box w5 tb [(Value.slice a5 m' c5)] ∧ Box w5 gi [.int .i64 id] ∧ Box w5 gw [.string y1, .int .i64 y2] ∧ w5.ownsRow G 62 3 (Value.slice a5 m' c5) m' (hcells (LK.filter fun x => !decide (x.1 = id ∧ x.2.1 = y1))) ∧
            w5.ownsRow w2.heap.size 40 2 (.slice (some ⟨b, o, none⟩) mw cw) mw (wcells W) ∧ GrowX (fun k => k = tb ∨ (Value.slice ao n c0).ownBlock = some k) w3 w5 ∧ w5.heap.size = HS) h5 ?_
        clear h5 w4 HM4 HV4
        rintro w4 ⟨bt, bi, bw, ho5, how5, hg5, hHS⟩
        have HHS := Lib.hid hHS
        have HOT := Lib.hid ho5
        have HOW5 := Lib.hid how5
        have HG5 := Lib.hid hg5
        have hG4 : G ≤ w4.heap.size := by have := hg5.size; omega
        have hsb : ∀ k, (Value.slice a5 m' c5).ownBlock = some k → k < HS := fun q e => by have := HV5.out.2.1 q e; omega
        have NB : Hid (∀ k, k = tb ∨ k = gi ∨ k = gw ∨ k < G → ¬ (Value.slice a5 m' c5).ownBlock = some k) := Lib.hid (fun k hk e => by
          rcases hk with rfl | rfl | rfl | hk
          · exact HV5.out.2.2 e
          · exact HNI.out (by
              rcases HV5.out.1 _ e with e2 | e2
              · have := HWR.out _ e2; have := HGW.out; omega
              · have := HGW.out; omega)
          · have := HV5.out.2.1 _ e; omega
          · have := (ho5.lt _ e).1; omega)
        have hB : Below 0 w4 w4 := Below.refl _ _
        have hm21 : m' ≤ 2097152 := by omega
        clear hHS ho5 how5 hg5
        generalize hLF : LK.filter (fun x => !decide (x.1 = id ∧ x.2.1 = y1)) = LF at *
        have HLF := Lib.hid hLF
        clear hLF
        refine wp_region_partsDC (WTk7 tb gi gw id y1 y2 (Value.slice a5 m' c5) HS G m' LF) 12 [[], [], [1], [1, 2], [1, 2, 3], [], [], [5, 6], [5, 6, 7], [1, 2, 3, 4, 5, 6, 7, 8], [0, 1, 2, 3, 4, 5, 6, 7, 8, 9], [0, 1, 2, 3, 4, 5, 6, 7, 8, 9, 10]] [some 33, some 34, some 35, some 36, some 37, some 38, some 39, some 40, some 41, some 42, some 43, some 44, none] (by kernel_rfl) (by kernel_rfl) rfl (PTk7 tb gi gw id y1 y2 (Value.slice a5 m' c5) HS G m' LF) (PTk7_stable tb gi gw id y1 y2 (Value.slice a5 m' c5) HS G m' LF hsb) ?pTk7 ?_
        case pTk7 =>
          intro i hi o ho vs lo hx_ w' hg hp
          match i, hi with
          | 0, _ =>
            obtain rfl := Option.some.inj ho
            clear ho
            simp only [actsD, List.getD_cons_zero, List.getD_cons_succ, List.foldl_cons, List.foldl_nil, Act.put, List.setIfInBounds_toArray, List.set_cons_succ, List.set_cons_zero]
            have hsz := hg.size
            go_wp2
            exact ⟨_, rfl, GrowC.refl _, rfl⟩
          | 1, _ =>
            obtain rfl := Option.some.inj ho
            clear ho
            simp only [actsD, List.getD_cons_zero, List.getD_cons_succ, List.foldl_cons, List.foldl_nil, Act.put, List.setIfInBounds_toArray, List.set_cons_succ, List.set_cons_zero]
            have hsz := hg.size
            go_wp2
            exact ⟨_, rfl, GrowC.refl _, rfl⟩
          | 2, _ =>
            obtain rfl := Option.some.inj ho
            clear ho
            simp only [actsD, List.getD_cons_zero, List.getD_cons_succ, List.foldl_cons, List.foldl_nil, Act.put, List.setIfInBounds_toArray, List.set_cons_succ, List.set_cons_zero]
            obtain ⟨_, _, _, h1⟩ := hp 1 (by simp)
            simp only [PTk7] at h1
            have hsz := hg.size
            rw [h1]
            go_wp2
            exact ⟨_, rfl, GrowC.refl _, rfl⟩
          | 3, _ =>
            obtain rfl := Option.some.inj ho
            clear ho
            simp only [actsD, List.getD_cons_zero, List.getD_cons_succ, List.foldl_cons, List.foldl_nil, Act.put, List.setIfInBounds_toArray, List.set_cons_succ, List.set_cons_zero]
            obtain ⟨_, _, _, h2⟩ := hp 2 (by simp)
            simp only [PTk7] at h2
            have hsz := hg.size
            rw [h2]
            go_wp2
            exact ⟨_, rfl, GrowC.refl _, rfl⟩
          | 4, _ =>
            obtain rfl := Option.some.inj ho
            clear ho
            simp only [actsD, List.getD_cons_zero, List.getD_cons_succ, List.foldl_cons, List.foldl_nil, Act.put, List.setIfInBounds_toArray, List.set_cons_succ, List.set_cons_zero]
            obtain ⟨_, _, _, h3⟩ := hp 3 (by simp)
            simp only [PTk7] at h3
            have hsz := hg.size
            rw [h3]
            have e0 := (hg.cell (tb) 0 bt.lt (by rintro ⟨j, _, hne, hb, hw⟩; simp only [WTk7] at hw; obtain ⟨e9, _⟩ := hw; subst e9; exact hb (by decide))).trans (bt.cell 0 _ rfl)
            go_wp2
            exact ⟨_, rfl, GrowC.refl _, rfl⟩
          | 5, _ =>
            obtain rfl := Option.some.inj ho
            clear ho
            simp only [actsD, List.getD_cons_zero, List.getD_cons_succ, List.foldl_cons, List.foldl_nil, Act.put, List.setIfInBounds_toArray, List.set_cons_succ, List.set_cons_zero]
            have hsz := hg.size
            have e0 := (hg.cell (gi) 0 bi.lt (by rintro ⟨j, _, hne, hb, hw⟩; simp only [WTk7] at hw; obtain ⟨e9, _⟩ := hw; subst e9; exact hb (by decide))).trans (bi.cell 0 _ rfl)
            go_wp2
            exact ⟨_, rfl, GrowC.refl _, rfl⟩
          | 6, _ =>
            obtain rfl := Option.some.inj ho
            clear ho
            simp only [actsD, List.getD_cons_zero, List.getD_cons_succ, List.foldl_cons, List.foldl_nil, Act.put, List.setIfInBounds_toArray, List.set_cons_succ, List.set_cons_zero]
            have hsz := hg.size
            have e0 := (hg.cell (gw) 0 bw.lt (by rintro ⟨j, _, hne, hb, hw⟩; simp only [WTk7] at hw; obtain ⟨e9, _⟩ := hw; subst e9; exact hb (by decide))).trans (bw.cell 0 _ rfl)
            have e1 := (hg.cell (gw) 1 bw.lt (by rintro ⟨j, _, hne, hb, hw⟩; simp only [WTk7] at hw; obtain ⟨e9, _⟩ := hw; subst e9; exact hb (by decide))).trans (bw.cell 1 _ rfl)
            go_wp2
            exact ⟨_, rfl, GrowC.refl _, rfl⟩
          | 7, _ =>
            obtain rfl := Option.some.inj ho
            clear ho
            simp only [actsD, List.getD_cons_zero, List.getD_cons_succ, List.foldl_cons, List.foldl_nil, Act.put, List.setIfInBounds_toArray, List.set_cons_succ, List.set_cons_zero]
            obtain ⟨_, _, _, h5⟩ := hp 5 (by simp)
            simp only [PTk7] at h5
            obtain ⟨_, _, _, h6⟩ := hp 6 (by simp)
            simp only [PTk7] at h6
            have hsz := hg.size
            rw [h5, h6]
            go_wp2
            exact ⟨_, rfl, GrowC.refl _, rfl⟩
          | 8, _ =>
            obtain rfl := Option.some.inj ho
            clear ho
            simp only [actsD, List.getD_cons_zero, List.getD_cons_succ, List.foldl_cons, List.foldl_nil, Act.put, List.setIfInBounds_toArray, List.set_cons_succ, List.set_cons_zero]
            obtain ⟨_, _, _, h7⟩ := hp 7 (by simp)
            simp only [PTk7] at h7
            have hsz := hg.size
            rw [h7]
            have hbx := Box.new w' #[.int .i64 id, .string y1, .int .i64 y2] 62 rfl
            go_wp2
            exact ⟨_, rfl, GrowC.of_grow ((Grow.refl _).alloc _), rfl, (by have h9 := HHS.out; have h8 : w4.drew.heap.size = w4.heap.size := rfl; omega), by simp, hbx.cell 0 _ rfl, hbx.cell 1 _ rfl, hbx.cell 2 _ rfl⟩
          | 9, _ =>
            obtain rfl := Option.some.inj ho
            clear ho
            simp only [actsD, List.getD_cons_zero, List.getD_cons_succ, List.foldl_cons, List.foldl_nil, Act.put, List.setIfInBounds_toArray, List.set_cons_succ, List.set_cons_zero]
            obtain ⟨_, _, _, h4⟩ := hp 4 (by simp)
            simp only [PTk7] at h4
            obtain ⟨_, _, _, h8⟩ := hp 8 (by simp)
            simp only [PTk7] at h8
            have hsz := hg.size
            rw [h4]
            obtain ⟨e8, _, hlt8, c80, c81, c82⟩ := h8
            rw [e8]
            have HOw := Lib.hid (own_growx (X := fun _ => False) HOT.out (GrowX.of_growC hg (fun k o hw => by obtain ⟨j, _, hne, _, hw⟩ := hw; exact hne hw.1)) (fun _ _ h => h))
            go_wp2_with (at_builtin; refine wpList_append_k hdsOf (.tmp 37) (.tmp 41) rfl rfl (base := G) rfl HOw.out rfl rfl (news := [.int .i64 id, .string y1, .int .i64 y2]) (by intro j u hu; rw [Addr.add_lit]; match j, hu with | 0, hu => (simp at hu; subst hu; exact c80) | 1, hu => (simp at hu; subst hu; exact c81) | 2, hu => (simp at hu; subst hu; exact c82) | (q + 3), hu => (simp at hu)) (by intro u hu; simp at hu; rcases hu with rfl | rfl | rfl <;> rfl) (by omega) (by omega) (by omega) (by omega) ?_; intro ob cp wq hownq hgrq horq)
            exact ⟨_, rfl, hgrq.mono (by intro k o hk; exact ⟨rfl, hk.1⟩), ob, cp, rfl, by rw [hcells_append]; exact hownq, horq.imp (fun h => h) (fun h => by have h9 := HHS.out; have h8 : w4.drew.heap.size = w4.heap.size := rfl; omega)⟩
          | 10, _ =>
            obtain rfl := Option.some.inj ho
            clear ho
            simp only [actsD, List.getD_cons_zero, List.getD_cons_succ, List.foldl_cons, List.foldl_nil, Act.put, List.setIfInBounds_toArray, List.set_cons_succ, List.set_cons_zero]
            obtain ⟨_, _, _, h0⟩ := hp 0 (by simp)
            simp only [PTk7] at h0
            have hsz := hg.size
            rw [h0]
            go_wp2
            exact ⟨_, rfl, GrowC.refl _, rfl⟩
          | 11, _ =>
            obtain rfl := Option.some.inj ho
            clear ho
            simp only [actsD, List.getD_cons_zero, List.getD_cons_succ, List.foldl_cons, List.foldl_nil, Act.put, List.setIfInBounds_toArray, List.set_cons_succ, List.set_cons_zero]
            obtain ⟨_, _, _, h10⟩ := hp 10 (by simp)
            simp only [PTk7] at h10
            have hsz := hg.size
            rw [h10]
            go_wp2
            exact ⟨_, rfl, GrowC.refl _, rfl⟩
          | (q + 12), hq => exact absurd hq (by omega)
        intro vS lo hi w5 hg hp hd
        obtain ⟨_, _, _, h0⟩ := hp 0 (by decide)
        obtain ⟨_, _, _, h1⟩ := hp 1 (by decide)
        obtain ⟨_, _, _, h2⟩ := hp 2 (by decide)
        obtain ⟨_, _, _, h3⟩ := hp 3 (by decide)
        obtain ⟨_, _, _, h4⟩ := hp 4 (by decide)
        obtain ⟨_, _, _, h5⟩ := hp 5 (by decide)
        obtain ⟨_, _, _, h6⟩ := hp 6 (by decide)
        obtain ⟨_, _, _, h7⟩ := hp 7 (by decide)
        obtain ⟨_, _, _, h8⟩ := hp 8 (by decide)
        obtain ⟨_, _, _, h9⟩ := hp 9 (by decide)
        obtain ⟨_, _, _, h10⟩ := hp 10 (by decide)
        obtain ⟨_, _, _, h11⟩ := hp 11 (by decide)
        simp only [PTk7] at h0 h1 h2 h3 h4 h5 h6 h7 h8 h9 h10 h11
        clear hp hd
        have hsz := hg.size
        replace bt := bt.grow hg (by intro i _; rintro ⟨j, _, hw⟩; simp only [WTk7] at hw; exact NB.out _ (by first | (exact .inl rfl) | (exact .inr (.inl rfl)) | (exact .inr (.inr (.inl rfl))) | (exact .inr (.inr (.inr (by omega))))) hw.2)
        replace bi := bi.grow hg (by intro i _; rintro ⟨j, _, hw⟩; simp only [WTk7] at hw; exact NB.out _ (by first | (exact .inl rfl) | (exact .inr (.inl rfl)) | (exact .inr (.inr (.inl rfl))) | (exact .inr (.inr (.inr (by omega))))) hw.2)
        replace bw := bw.grow hg (by intro i _; rintro ⟨j, _, hw⟩; simp only [WTk7] at hw; exact NB.out _ (by first | (exact .inl rfl) | (exact .inr (.inl rfl)) | (exact .inr (.inr (.inl rfl))) | (exact .inr (.inr (.inr (by omega))))) hw.2)
        replace hB := hB.trans (hg.below (fun k hk => ⟨by omega, fun o => by rintro ⟨j, _, hw⟩; simp only [WTk7] at hw; exact NB.out _ (by first | (exact .inl rfl) | (exact .inr (.inl rfl)) | (exact .inr (.inr (.inl rfl))) | (exact .inr (.inr (.inr (by omega))))) hw.2⟩))
        have hr : List.range 12 = [0, 1, 2, 3, 4, 5, 6, 7, 8, 9, 10, 11] := rfl
        rw [hr]
        clear hr
        simp only [List.drop_succ_cons, List.drop_zero, List.drop_nil, actsD, List.getD_cons_zero, List.getD_cons_succ, List.foldl_cons, List.foldl_nil, Act.put, List.setIfInBounds_toArray, List.set_cons_succ, List.set_cons_zero, h0, h1, h2, h3, h4, h5, h6, h7, h10, h11]
        clear h0 h1 h2 h3 h4 h5 h6 h7 h10 h11
        obtain ⟨ob, cp, e9, ho9, hor9⟩ := h9
        simp only [e9]
        rw [e9] at ho9
        clear h8
        have ct := bt.cell 0 _ rfl
        have ft := bt.free
        have HBT := Lib.hid bt
        have HBI := Lib.hid bi
        have HO9 := Lib.hid ho9
        have HOR := Lib.hid hor9
        have HOWZ := Lib.hid (own_growx HOW5.out (GrowX.of_growC (Y := fun k => (Value.slice a5 m' c5).ownBlock = some k) hg (fun k o hw => by obtain ⟨j, _, hw⟩ := hw; simp only [WTk7] at hw; exact hw.2)) (fun q e1 e2 => by
          have h1 := HWT.out q e1
          rcases HV5.out.1 q e2 with e3 | e3
          · exact h1.2.1 e3
          · omega))
        have HGZ := Lib.hid (HG5.out.step (GrowX.of_growC (Y := fun k => (Value.slice a5 m' c5).ownBlock = some k) hg (fun k o hw => by obtain ⟨j, _, hw⟩ := hw; simp only [WTk7] at hw; exact hw.2)) (fun q hq e => (HV5.out.1 q e).elim (fun e => .inr e) (fun e => by have := HS3.out; omega)))
        have HVZ : Hid (∀ q, (Value.slice (some ⟨ob, 0, none⟩) (m' + 1) cp).ownBlock = some q → (Value.slice ao n c0).ownBlock = some q ∨ S3 ≤ q) := Lib.hid (fun q e => by
          have e' : ob = q := by simpa [Value.ownBlock] using e
          subst e'
          rcases HOR.out with e2 | e2
          · exact HV5.out.1 _ e2
          · right; have := HGWW.out; omega)
        have HNT : Hid (¬ (Value.slice (some ⟨ob, 0, none⟩) (m' + 1) cp).ownBlock = some tb) := Lib.hid (fun e => by
          have e' : ob = tb := by simpa [Value.ownBlock] using e
          subst e'
          rcases HOR.out with e2 | e2
          · exact HV5.out.2.2 e2
          · omega)
        have HLE : Hid (LF ++ [(id, y1, y2)] = takeL L id (W.take (k + 1))) := Lib.hid (by rw [HTS.out]; show _ = takeF id LK (y1, y2); unfold takeF; rw [HLF.out])
        have HLN : Hid ((LF ++ [(id, y1, y2)]).length = m' + 1) := Lib.hid (by
          have := HO9.out.1
          rw [hcells_length] at this
          omega)
        clear hg e9 ho9 hor9 bt bi bw hB HOT HOW5 HG5
        go_wp2_with fail
        have hTZ : TabO (w5.setCell ⟨tb, 0, none⟩ (.slice (some ⟨ob, 0, none⟩) (m' + 1) cp)) G tb (.slice (some ⟨ob, 0, none⟩) (m' + 1) cp) (m' + 1) (takeL L id (W.take (k + 1))) := by
          rw [← HLE.out]
          exact ⟨HBT.out.setCell 0 _, own_growx HO9.out (growX_setCell w5 tb 0 _) (fun q e1 e2 => HNT.out (by rw [e1, e2])), HNT.out, HLN.out⟩
        have hIZ := HBI.out.growx (growX_setCell w5 tb 0 (.slice (some ⟨ob, 0, none⟩) (m' + 1) cp)) (by have := HGW.out; omega)
        have hOZ := own_growx HOWZ.out (growX_setCell w5 tb 0 (.slice (some ⟨ob, 0, none⟩) (m' + 1) cp)) (fun q e1 e2 => (HWT.out q e1).1 e2)
        have hGZ := HGZ.out.trans ((growX_setCell w5 tb 0 (.slice (some ⟨ob, 0, none⟩) (m' + 1) cp)).mono (fun k hk => .inl hk))
        go_roundw
        case rel => exact ⟨k + 1, m' + 1, _, by omega, by go_num, by omega, hTZ, hIZ, hOZ, HVZ.out, hGZ⟩
        case measure => simp [intOf]; omega
      · obtain rfl : mw = k := by omega
        have hall : W.take mw = W := List.take_of_length_le (Nat.le_of_eq HLW.out)
        rw [hall] at HTK
        go_wp2_with fail
        go_ret
        refine ⟨c, HASK.out, .inl ⟨HC0.out, rfl, vk, nk, by rw [HWD.out]; exact HTK.out, by omega, fun q e => (HVK.out q e).imp (fun h => h) (fun h => by omega), (grow_below HB3.out).trans HGK.out⟩⟩
end Go.Proofs.Ytoghmllkaafckaa

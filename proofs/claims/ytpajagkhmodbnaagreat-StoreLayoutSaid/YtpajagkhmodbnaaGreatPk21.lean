/- Pk: texts of the store seat laid together by program: RcEnc SvPool SvKit SvTold SvLay SvGet. Conditions: each theorem names its own. -/
import Derived.Test.YtpajagkhmodbnaaGreatPk20
import Derived.LoopN
namespace Go.Proofs.YtpajagkhmodbnaaGreat
set_option linter.unusedSimpArgs false
set_option linter.unusedVariables false
section
open Go.RowKit
abbrev recC (r : Rc) (ab aa : Option Addr) (nb cb na ca : Nat) : Array Value := #[.int .i64 (r.kind : Nat), .int .i64 (r.txn : Nat), .int .i64 (r.prev : Nat), .int .i64 (r.next : Nat), .int .i64 (r.page : Nat), .int .i64 (r.off : Nat), .slice ab nb cb, .slice aa na ca, .slice none 0 0, .slice none 0 0, .int .i64 (r.count : Nat)]
structure Rc.small (r : Rc) : Prop where
 kind : r.kind ≤ 4611686018427387904
 txn : r.txn ≤ 4611686018427387904
 prev : r.prev ≤ 4611686018427387904
 next : r.next ≤ 4611686018427387904
 page : r.page ≤ 4611686018427387904
 off : r.off ≤ 4611686018427387904
 count : r.count ≤ 4611686018427387904
 b : r.before.length ≤ 1048576
 a : r.after.length ≤ 1048576
 t : r.txns = []
 d : r.dirty = []
section
variable {w : World}
set_option maxRecDepth 100000 in
theorem recsize_any (r : Rc) (ab aa : Option Addr) (nb cb na ca : Nat) (hs : r.small) (hnb : r.before.length = nb) (hna : r.after.length = na) :
  Calls Tryz.prog 54 #[.agg (recC r ab aa nb cb na ca)] w fun e w' => e = .returned (.int .i64 (r.size : Nat)) ∧ Below w.heap.size w w' := by
 have h1 := hs.b
 have h2 := hs.a
 rw [hnb] at h1
 rw [hna] at h2
 have HS : Hid (r.size = 96 + nb + na) := Lib.hid (by unfold Rc.size; rw [hnb, hna, hs.t, hs.d]; rfl)
 clear hs hnb hna
 go_enter Tryz.func54, Tryz.ntmps54
 go_wp2_with fail
 go_ret
 refine ⟨ret_v ?_, (Below.refl _ _).alloc (Nat.le_refl _) _⟩
 rw [HS.out]
 show Value.int .i64 _ = _
 congr 1
end
theorem idx6_0 (x0 x1 x2 x3 x4 x5 : Value) (w : World) : (Instr.index 178 (.agg #[x0, x1, x2, x3, x4, x5]) (.int .i64 0)).run Tryz.prog w = .ok x0 w := by kernel_rfl
theorem idx6_1 (x0 x1 x2 x3 x4 x5 : Value) (w : World) : (Instr.index 178 (.agg #[x0, x1, x2, x3, x4, x5]) (.int .i64 1)).run Tryz.prog w = .ok x1 w := by kernel_rfl
theorem idx6_2 (x0 x1 x2 x3 x4 x5 : Value) (w : World) : (Instr.index 178 (.agg #[x0, x1, x2, x3, x4, x5]) (.int .i64 2)).run Tryz.prog w = .ok x2 w := by kernel_rfl
theorem idx6_3 (x0 x1 x2 x3 x4 x5 : Value) (w : World) : (Instr.index 178 (.agg #[x0, x1, x2, x3, x4, x5]) (.int .i64 3)).run Tryz.prog w = .ok x3 w := by kernel_rfl
theorem idx6_4 (x0 x1 x2 x3 x4 x5 : Value) (w : World) : (Instr.index 178 (.agg #[x0, x1, x2, x3, x4, x5]) (.int .i64 4)).run Tryz.prog w = .ok x4 w := by kernel_rfl
theorem idx6_5 (x0 x1 x2 x3 x4 x5 : Value) (w : World) : (Instr.index 178 (.agg #[x0, x1, x2, x3, x4, x5]) (.int .i64 5)).run Tryz.prog w = .ok x5 w := by kernel_rfl
theorem make_cap (w : World) (n : Nat) (hn : n ≤ 1099511627776) : ∃ Z : Array Value, (Instr.makeSlice 48 (.int .i64 0) (.int .i64 (n : Nat))).run Tryz.prog w = .ok (.slice (some ⟨w.heap.size, 0, none⟩) 0 n) (w.alloc (.cells Z 5)) ∧
  ∀ G, G ≤ w.heap.size → (w.alloc (.cells Z 5)).ownsRow G 5 1 (.slice (some ⟨w.heap.size, 0, none⟩) 0 n) 0 (([] : List UInt8).map B) := by
 obtain ⟨i0, hi, hz0, hz1, hz2⟩ := info_parts (P := Tryz.prog) (e := 5) (z := .int .u8 0) (size := 1) (bytes := 1) (by kernel_rfl)
 have h := run_make (P := Tryz.prog) w 48 5 i0 (.int .u8 0) Tryz.underlying48 hi hz0 .i64 .i64 0 (n : Nat) (by decide) (by omega) (by rw [hz2]; omega) (by omega)
 have hn0 : ((n : Nat) : Int).toNat = n := by simp
 rw [hz1, hn0] at h
 refine ⟨_, h, fun G hG => ⟨rfl, .inr ⟨w.heap.size, n, _, rfl, hG, heap_alloc_new w _, Nat.zero_le _, by unfold maxLen; omega, ?_, rfl⟩⟩⟩
 have e1 := toList_madeCells_one (.int .u8 0) n
 have e2 := congrArg List.length e1
 simp only [List.length_replicate, Array.length_toList] at e2
 rw [Nat.mul_one]
 exact e2
def WREn1 (r : Rc) (ab aa : Option Addr) (nb cb na ca t1 sz G : Nat) (j b o : Nat) : Prop := False
def PREn1 (r : Rc) (ab aa : Option Addr) (nb cb na ca t1 sz G : Nat) (i : Nat) (v : Value) (lo hi : Nat) (w : World) : Prop :=
 match i with
 | 0 => v = .agg #[.int .i64 (r.kind : Nat), .int .i64 (r.txn : Nat), .int .i64 (r.prev : Nat), .int .i64 (r.next : Nat), .int .i64 (r.page : Nat), .int .i64 (r.off : Nat), .slice ab nb cb, .slice aa na ca, .slice none 0 0, .slice none 0 0, .int .i64 (r.count : Nat)]
 | 1 => v = .int .i64 ((sz : Nat) : Int)
 | 2 => ∃ g, v = .slice (some ⟨g, 0, none⟩) 0 sz ∧ w.ownsRow G 5 1 (.slice (some ⟨g, 0, none⟩) 0 sz) 0 (([] : List UInt8).map B)
 | 3 => v = .agg #[.int .i64 (r.kind : Nat), .int .i64 (r.txn : Nat), .int .i64 (r.prev : Nat), .int .i64 (r.next : Nat), .int .i64 (r.page : Nat), .int .i64 (r.off : Nat), .slice ab nb cb, .slice aa na ca, .slice none 0 0, .slice none 0 0, .int .i64 (r.count : Nat)]
 | 4 => v = .int .i64 ((sz : Nat) : Int)
 | 5 => v = .int .i64 ((sz - 8 : Nat) : Int)
 | _ => True
theorem PREn1_stable (r : Rc) (ab aa : Option Addr) (nb cb na ca t1 sz G : Nat)  : ∀ i j, i < 6 → j < 6 → j ≠ i → j ∉ ([[], [0], [0, 1], [], [0, 1, 3], [0, 1, 3, 4]] : List (List Nat)).getD i [] → ∀ v lo hi w w', PREn1 r ab aa nb cb na ca t1 sz G i v lo hi w → GrowC (WREn1 r ab aa nb cb na ca t1 sz G j) w w' → PREn1 r ab aa nb cb na ca t1 sz G i v lo hi w' := by
 intro i j hi hj hne hbs v lo hj2 w w' h hg
 match i, hi with
 | 0, _ | 1, _ | 3, _ | 4, _ | 5, _ =>
  simp only [PREn1] at h ⊢
  exact h
 | 2, _ =>
  simp only [PREn1] at h ⊢
  obtain ⟨g, h1, h2⟩ := h
  exact ⟨g, h1, own_growx h2 (GrowX.of_growC hg (Y := fun _ => False) (fun k o h => h)) (fun _ _ h => h)⟩
 | (q + 6), hq => exact absurd hq (by omega)
def WREn7 (r : Rc) (ab aa a6 : Option Addr) (nb cb na ca t1 c6 G : Nat) (L6 : List UInt8) (j b o : Nat) : Prop := (j = 3 ∧ G ≤ b)
def PREn7 (r : Rc) (ab aa a6 : Option Addr) (nb cb na ca t1 c6 G : Nat) (L6 : List UInt8) (i : Nat) (v : Value) (lo hi : Nat) (w : World) : Prop :=
 match i with
 | 0 => v = .slice a6 56 c6
 | 1 => v = .pointer (some ⟨t1, 6, none⟩)
 | 2 => v = .slice ab nb cb
 | 3 => ∃ ao c, v = .slice ao (64 + nb) c ∧ w.ownsRow G 5 1 (.slice ao (64 + nb) c) (64 + nb) ((L6 ++ (be8 nb ++ r.before)).map B)
 | 4 => v = .pointer (some ⟨t1, 7, none⟩)
 | 5 => v = .slice aa na ca
 | _ => True
theorem PREn7_stable (r : Rc) (ab aa a6 : Option Addr) (nb cb na ca t1 c6 G : Nat) (L6 : List UInt8)  : ∀ i j, i < 6 → j < 6 → j ≠ i → j ∉ ([[], [], [1], [0, 1, 2], [], [4]] : List (List Nat)).getD i [] → ∀ v lo hi w w', PREn7 r ab aa a6 nb cb na ca t1 c6 G L6 i v lo hi w → GrowC (WREn7 r ab aa a6 nb cb na ca t1 c6 G L6 j) w w' → PREn7 r ab aa a6 nb cb na ca t1 c6 G L6 i v lo hi w' := by
 intro i j hi hj hne hbs v lo hj2 w w' h hg
 match i, hi with
 | 0, _ | 1, _ | 2, _ | 4, _ | 5, _ =>
  simp only [PREn7] at h ⊢
  exact h
 | 3, _ =>
  simp only [PREn7] at h ⊢
  obtain ⟨ao, c, h1, h2⟩ := h
  exact ⟨ao, c, h1, own_growx h2 (GrowX.of_growC hg (Y := fun _ => False) (fun k o h => hne h.1)) (fun _ _ h => h)⟩
 | (q + 6), hq => exact absurd hq (by omega)
section
variable {w : World}
set_option maxRecDepth 100000 in
set_option maxHeartbeats 3200000 in
theorem recenc_any (r : Rc) (ab aa : Option Addr) (nb cb na ca : Nat) (hs : r.small) (hnb : r.before.length = nb) (hna : r.after.length = na) (hrb : Reads 1 w (.slice ab nb cb) nb (r.before.map B)) (hra : Reads 1 w (.slice aa na ca) na (r.after.map B)) :
  Calls Tryz.prog 99 #[.agg (recC r ab aa nb cb na ca)] w fun e w' => ∃ ao c, e = .returned (.slice ao r.size c) ∧ w'.ownsRow w.heap.size 5 1 (.slice ao r.size c) r.size (r.enc.map B) ∧ Below w.heap.size w w' := by
 have hsb := hs.b
 have hsa := hs.a
 rw [hnb] at hsb
 rw [hna] at hsa
 have HS := Lib.hid hs
 have HNB := Lib.hid hnb
 have HNA := Lib.hid hna
 obtain ⟨sz, hsz⟩ : ∃ x, r.size = x := ⟨_, rfl⟩
 have hszv : sz = 96 + nb + na := by rw [← hsz]; unfold Rc.size; rw [hnb, hna, hs.t, hs.d]; rfl
 have hsize := fun (w : World) => recsize_any (w := w) r ab aa nb cb na ca hs hnb hna
 rw [hsz] at hsize ⊢
 have HSZ := Lib.hid hsz
 have HSIZE := Lib.hid hsize
 have HRB := Lib.hid hrb
 have HRA := Lib.hid hra
 have hszb : sz ≤ 1099511627776 := by omega
 have hsz8 : 8 ≤ sz := by omega
 have HSV := Lib.hid hszv
 clear hs hnb hna hrb hra hsize hsz hszv
 go_enter Tryz.func99, Tryz.ntmps99
 have hal : Below w.heap.size w (w.alloc (.cells (recC r ab aa nb cb na ca) 85)) := (Below.refl _ _).alloc (Nat.le_refl _) _
 have hbx := Box.new w (recC r ab aa nb cb na ca) 85 rfl
 obtain ⟨t1, ht1⟩ : ∃ x, w.heap.size = x := ⟨_, rfl⟩
 have HT1 := Lib.hid ht1
 have HAL := Lib.hid hal
 go_wp2_with fail
 rw [ht1] at hbx
 have hb1 : Below t1 w (w.alloc (.cells (recC r ab aa nb cb na ca) 85)) := by rw [← ht1]; exact HAL.out
 have HB1 := Lib.hid hb1
 have hl1 := hbx.lt
 clear hb1 ht1 hal
 generalize w.alloc (.cells (recC r ab aa nb cb na ca) 85) = w1 at *
 have bt : Box w1 t1 [.int .i64 (r.kind : Nat), .int .i64 (r.txn : Nat), .int .i64 (r.prev : Nat), .int .i64 (r.next : Nat), .int .i64 (r.page : Nat), .int .i64 (r.off : Nat), .slice ab nb cb, .slice aa na ca, .slice none 0 0, .slice none 0 0, .int .i64 (r.count : Nat)] := hbx
 have HBX := Lib.hid bt
 have hB : Below w1.heap.size w1 w1 := Below.refl _ _
 clear hbx
 refine wp_region_partsDC (WREn1 r ab aa nb cb na ca t1 sz (w1.heap.size)) 6 [[], [0], [0, 1], [], [0, 1, 3], [0, 1, 3, 4]] [some 10, some 11, some 12, some 13, some 14, some 15, some 16, some 3] (by kernel_rfl) (by kernel_rfl) rfl (PREn1 r ab aa nb cb na ca t1 sz (w1.heap.size)) (PREn1_stable r ab aa nb cb na ca t1 sz (w1.heap.size) ) ?pREn1 ?_
 case pREn1 =>
  intro i hi o ho vs lo hx_ w' hg hp
  match i, hi with
  | 0, _ | 3, _ =>
   obtain rfl := Option.some.inj ho
   clear ho
   simp only [actsD, Act.put, actL]
   have hsz := hg.size
   have hgB : Below w1.heap.size w1 w' := hg.below (fun k hk => ⟨hk, fun o => by rintro ⟨j, _, _, _, hw⟩; exact False.elim hw⟩)
   have e0 := (hg.cell (t1) 0 bt.lt (by rintro ⟨j, _, hne, hb, hw⟩; exact False.elim hw)).trans (bt.cell 0 _ rfl)
   have e1 := (hg.cell (t1) 1 bt.lt (by rintro ⟨j, _, hne, hb, hw⟩; exact False.elim hw)).trans (bt.cell 1 _ rfl)
   have e2 := (hg.cell (t1) 2 bt.lt (by rintro ⟨j, _, hne, hb, hw⟩; exact False.elim hw)).trans (bt.cell 2 _ rfl)
   have e3 := (hg.cell (t1) 3 bt.lt (by rintro ⟨j, _, hne, hb, hw⟩; exact False.elim hw)).trans (bt.cell 3 _ rfl)
   have e4 := (hg.cell (t1) 4 bt.lt (by rintro ⟨j, _, hne, hb, hw⟩; exact False.elim hw)).trans (bt.cell 4 _ rfl)
   have e5 := (hg.cell (t1) 5 bt.lt (by rintro ⟨j, _, hne, hb, hw⟩; exact False.elim hw)).trans (bt.cell 5 _ rfl)
   have e6 := (hg.cell (t1) 6 bt.lt (by rintro ⟨j, _, hne, hb, hw⟩; exact False.elim hw)).trans (bt.cell 6 _ rfl)
   have e7 := (hg.cell (t1) 7 bt.lt (by rintro ⟨j, _, hne, hb, hw⟩; exact False.elim hw)).trans (bt.cell 7 _ rfl)
   have e8 := (hg.cell (t1) 8 bt.lt (by rintro ⟨j, _, hne, hb, hw⟩; exact False.elim hw)).trans (bt.cell 8 _ rfl)
   have e9 := (hg.cell (t1) 9 bt.lt (by rintro ⟨j, _, hne, hb, hw⟩; exact False.elim hw)).trans (bt.cell 9 _ rfl)
   have e10 := (hg.cell (t1) 10 bt.lt (by rintro ⟨j, _, hne, hb, hw⟩; exact False.elim hw)).trans (bt.cell 10 _ rfl)
   go_wp2
   exact ⟨_, rfl, GrowC.refl _, rfl⟩
  | 1, _ =>
   obtain rfl := Option.some.inj ho
   clear ho
   simp only [actsD, Act.put, actL]
   obtain ⟨_, _, _, h0⟩ := hp 0 (by simp)
   simp only [PREn1] at h0
   have hsz := hg.size
   have hgB : Below w1.heap.size w1 w' := hg.below (fun k hk => ⟨hk, fun o => by rintro ⟨j, _, _, _, hw⟩; exact False.elim hw⟩)
   rw [h0]
   go_wp2_with fail
   refine (HSIZE.out _).mono ?_
   rintro e wh ⟨rfl, hbl⟩
   go_wp2
   exact ⟨_, rfl, GrowC.of_grow ⟨hbl.os, hbl.tape, hbl.output, hbl.size, hbl.block⟩, rfl⟩
  | 2, _ =>
   obtain rfl := Option.some.inj ho
   clear ho
   simp only [actsD, Act.put, actL]
   obtain ⟨_, _, _, h1⟩ := hp 1 (by simp)
   simp only [PREn1] at h1
   have hsz := hg.size
   have hgB : Below w1.heap.size w1 w' := hg.below (fun k hk => ⟨hk, fun o => by rintro ⟨j, _, _, _, hw⟩; exact False.elim hw⟩)
   rw [h1]
   obtain ⟨Zc, hmk, hzc⟩ := make_cap w' sz (by omega)
   have hbl := (Below.refl w'.heap.size w').alloc (Nat.le_refl _) (.cells Zc 5)
   go_wp2
   exact ⟨_, rfl, GrowC.of_grow ⟨hbl.os, hbl.tape, hbl.output, hbl.size, hbl.block⟩, w'.heap.size, rfl, hzc _ hgB.size⟩
  | 4, _ =>
   obtain rfl := Option.some.inj ho
   clear ho
   simp only [actsD, Act.put, actL]
   obtain ⟨_, _, _, h3⟩ := hp 3 (by simp)
   simp only [PREn1] at h3
   have hsz := hg.size
   have hgB : Below w1.heap.size w1 w' := hg.below (fun k hk => ⟨hk, fun o => by rintro ⟨j, _, _, _, hw⟩; exact False.elim hw⟩)
   rw [h3]
   go_wp2_with fail
   refine (HSIZE.out _).mono ?_
   rintro e wh ⟨rfl, hbl⟩
   go_wp2
   exact ⟨_, rfl, GrowC.of_grow ⟨hbl.os, hbl.tape, hbl.output, hbl.size, hbl.block⟩, rfl⟩
  | 5, _ =>
   obtain rfl := Option.some.inj ho
   clear ho
   simp only [actsD, Act.put, actL]
   obtain ⟨_, _, _, h4⟩ := hp 4 (by simp)
   simp only [PREn1] at h4
   have hsz := hg.size
   have hgB : Below w1.heap.size w1 w' := hg.below (fun k hk => ⟨hk, fun o => by rintro ⟨j, _, _, _, hw⟩; exact False.elim hw⟩)
   rw [h4]
   go_wp2
   refine ⟨_, rfl, GrowC.refl _, ?_⟩
   simp only [PREn1]
   first | omega | (congr 1 <;> omega) | skip
  | (q + 6), hq => exact absurd hq (by omega)
 intro vS lo hi w6 hg hp hd
 obtain ⟨_, _, _, h0⟩ := hp 0 (by decide)
 obtain ⟨_, _, _, h1⟩ := hp 1 (by decide)
 obtain ⟨_, _, _, h2⟩ := hp 2 (by decide)
 obtain ⟨_, _, _, h3⟩ := hp 3 (by decide)
 obtain ⟨_, _, _, h4⟩ := hp 4 (by decide)
 obtain ⟨_, _, _, h5⟩ := hp 5 (by decide)
 simp only [PREn1] at h0 h1 h2 h3 h4 h5
 clear hp hd
 have hsz := hg.size
 replace bt := bt.grow hg (by intro i _; rintro ⟨j, _, hw⟩; exact False.elim hw)
 replace hB := hB.trans (hg.below (fun k hk => ⟨by omega, fun o => by rintro ⟨j, _, hw⟩; exact False.elim hw⟩))
 have hr : List.range 6 = [0, 1, 2, 3, 4, 5] := rfl
 rw [hr]
 clear hr
 simp only [List.drop_succ_cons, List.drop_zero, List.drop_nil, actsD, Act.put, actL, h0, h1, h3, h4, h5]
 clear h0 h1 h3 h4 h5
 obtain ⟨g2, e2, o2⟩ := h2
 rw [e2]
 have O2 := Lib.hid o2
 have HB2 := Lib.hid hB
 have hsz2 := hB.size
 clear bt hB hg hsz o2 e2
 have hcall := recnum_any (.slice (some ⟨g2, 0, none⟩) 0 sz) 0 [] O2.out hsz2 (by decide) (sz - 8) (by omega)
 have HCA := Lib.hid hcall
 clear hcall
 go_wp2_with fail
 refine HCA.out.mono ?_
 rintro e y ⟨a0, c0, rfl, ho0, hbl0⟩
 have HO0 : Hid (y.ownsRow w1.heap.size 5 1 (.slice a0 8 c0) 8 ((be8 (sz - 8)).map B)) := Lib.hid ho0
 have HY0 := Lib.hid (HB2.out.trans (UpC.below hbl0 hsz2))
 have hy0 := HY0.out.size
 have bt := HBX.out.below HY0.out (Nat.le_refl _)
 have ct0 := bt.cell 0 _ rfl
 have ct1 := bt.cell 1 _ rfl
 have ct2 := bt.cell 2 _ rfl
 have ct3 := bt.cell 3 _ rfl
 have ct4 := bt.cell 4 _ rfl
 have ct5 := bt.cell 5 _ rfl
 have ct6 := bt.cell 6 _ rfl
 have ct7 := bt.cell 7 _ rfl
 have ct8 := bt.cell 8 _ rfl
 have ct9 := bt.cell 9 _ rfl
 have ct10 := bt.cell 10 _ rfl
 have clt := bt.lt
 clear bt ho0 hbl0
 go_wp2_with fail
 refine wp_loop_rounds 7 ?_
 rw [rounds_succ]
 have hix := fun (w : World) => idx6_0 (.int .i64 (r.kind : Nat)) (.int .i64 (r.txn : Nat)) (.int .i64 (r.prev : Nat)) (.int .i64 (r.next : Nat)) (.int .i64 (r.page : Nat)) (.int .i64 (r.off : Nat)) w
 have hcall := recnum_any (.slice a0 8 c0) 8 (be8 (sz - 8)) HO0.out hy0 (by decide) r.kind HS.out.kind
 have HCA0 := Lib.hid hcall
 clear hcall
 go_wp2_with fail
 refine HCA0.out.mono ?_
 rintro e z0 ⟨a1, c1, rfl, ho, hbl⟩
 have HO1 : Hid (z0.ownsRow w1.heap.size 5 1 (.slice a1 16 c1) 16 ((be8 (sz - 8) ++ be8 r.kind).map B)) := Lib.hid ho
 have HY1 : Hid (Below w1.heap.size w1 z0) := Lib.hid (HY0.out.trans (UpC.below hbl hy0))
 have hy1 := HY1.out.size
 clear ho hbl hix HCA0
 go_wp2_with fail
 rw [rounds_succ]
 have hix := fun (w : World) => idx6_1 (.int .i64 (r.kind : Nat)) (.int .i64 (r.txn : Nat)) (.int .i64 (r.prev : Nat)) (.int .i64 (r.next : Nat)) (.int .i64 (r.page : Nat)) (.int .i64 (r.off : Nat)) w
 have hcall := recnum_any (.slice a1 16 c1) 16 (be8 (sz - 8) ++ be8 r.kind) HO1.out hy1 (by decide) r.txn HS.out.txn
 have HCA1 := Lib.hid hcall
 clear hcall
 go_wp2_with fail
 refine HCA1.out.mono ?_
 rintro e z1 ⟨a2, c2, rfl, ho, hbl⟩
 have HO2 : Hid (z1.ownsRow w1.heap.size 5 1 (.slice a2 24 c2) 24 ((be8 (sz - 8) ++ be8 r.kind ++ be8 r.txn).map B)) := Lib.hid ho
 have HY2 : Hid (Below w1.heap.size w1 z1) := Lib.hid (HY1.out.trans (UpC.below hbl hy1))
 have hy2 := HY2.out.size
 clear ho hbl hix HCA1
 go_wp2_with fail
 rw [rounds_succ]
 have hix := fun (w : World) => idx6_2 (.int .i64 (r.kind : Nat)) (.int .i64 (r.txn : Nat)) (.int .i64 (r.prev : Nat)) (.int .i64 (r.next : Nat)) (.int .i64 (r.page : Nat)) (.int .i64 (r.off : Nat)) w
 have hcall := recnum_any (.slice a2 24 c2) 24 (be8 (sz - 8) ++ be8 r.kind ++ be8 r.txn) HO2.out hy2 (by decide) r.prev HS.out.prev
 have HCA2 := Lib.hid hcall
 clear hcall
 go_wp2_with fail
 refine HCA2.out.mono ?_
 rintro e z2 ⟨a3, c3, rfl, ho, hbl⟩
 have HO3 : Hid (z2.ownsRow w1.heap.size 5 1 (.slice a3 32 c3) 32 ((be8 (sz - 8) ++ be8 r.kind ++ be8 r.txn ++ be8 r.prev).map B)) := Lib.hid ho
 have HY3 : Hid (Below w1.heap.size w1 z2) := Lib.hid (HY2.out.trans (UpC.below hbl hy2))
 have hy3 := HY3.out.size
 clear ho hbl hix HCA2
 go_wp2_with fail
 rw [rounds_succ]
 have hix := fun (w : World) => idx6_3 (.int .i64 (r.kind : Nat)) (.int .i64 (r.txn : Nat)) (.int .i64 (r.prev : Nat)) (.int .i64 (r.next : Nat)) (.int .i64 (r.page : Nat)) (.int .i64 (r.off : Nat)) w
 have hcall := recnum_any (.slice a3 32 c3) 32 (be8 (sz - 8) ++ be8 r.kind ++ be8 r.txn ++ be8 r.prev) HO3.out hy3 (by decide) r.next HS.out.next
 have HCA3 := Lib.hid hcall
 clear hcall
 go_wp2_with fail
 refine HCA3.out.mono ?_
 rintro e z3 ⟨a4, c4, rfl, ho, hbl⟩
 have HO4 : Hid (z3.ownsRow w1.heap.size 5 1 (.slice a4 40 c4) 40 ((be8 (sz - 8) ++ be8 r.kind ++ be8 r.txn ++ be8 r.prev ++ be8 r.next).map B)) := Lib.hid ho
 have HY4 : Hid (Below w1.heap.size w1 z3) := Lib.hid (HY3.out.trans (UpC.below hbl hy3))
 have hy4 := HY4.out.size
 clear ho hbl hix HCA3
 go_wp2_with fail
 rw [rounds_succ]
 have hix := fun (w : World) => idx6_4 (.int .i64 (r.kind : Nat)) (.int .i64 (r.txn : Nat)) (.int .i64 (r.prev : Nat)) (.int .i64 (r.next : Nat)) (.int .i64 (r.page : Nat)) (.int .i64 (r.off : Nat)) w
 have hcall := recnum_any (.slice a4 40 c4) 40 (be8 (sz - 8) ++ be8 r.kind ++ be8 r.txn ++ be8 r.prev ++ be8 r.next) HO4.out hy4 (by decide) r.page HS.out.page
 have HCA4 := Lib.hid hcall
 clear hcall
 go_wp2_with fail
 refine HCA4.out.mono ?_
 rintro e z4 ⟨a5, c5, rfl, ho, hbl⟩
 have HO5 : Hid (z4.ownsRow w1.heap.size 5 1 (.slice a5 48 c5) 48 ((be8 (sz - 8) ++ be8 r.kind ++ be8 r.txn ++ be8 r.prev ++ be8 r.next ++ be8 r.page).map B)) := Lib.hid ho
 have HY5 : Hid (Below w1.heap.size w1 z4) := Lib.hid (HY4.out.trans (UpC.below hbl hy4))
 have hy5 := HY5.out.size
 clear ho hbl hix HCA4
 go_wp2_with fail
 rw [rounds_succ]
 have hix := fun (w : World) => idx6_5 (.int .i64 (r.kind : Nat)) (.int .i64 (r.txn : Nat)) (.int .i64 (r.prev : Nat)) (.int .i64 (r.next : Nat)) (.int .i64 (r.page : Nat)) (.int .i64 (r.off : Nat)) w
 have hcall := recnum_any (.slice a5 48 c5) 48 (be8 (sz - 8) ++ be8 r.kind ++ be8 r.txn ++ be8 r.prev ++ be8 r.next ++ be8 r.page) HO5.out hy5 (by decide) r.off HS.out.off
 have HCA5 := Lib.hid hcall
 clear hcall
 go_wp2_with fail
 refine HCA5.out.mono ?_
 rintro e z5 ⟨a6, c6, rfl, ho, hbl⟩
 have HO6 : Hid (z5.ownsRow w1.heap.size 5 1 (.slice a6 56 c6) 56 ((be8 (sz - 8) ++ be8 r.kind ++ be8 r.txn ++ be8 r.prev ++ be8 r.next ++ be8 r.page ++ be8 r.off).map B)) := Lib.hid ho
 have HY6 : Hid (Below w1.heap.size w1 z5) := Lib.hid (HY5.out.trans (UpC.below hbl hy5))
 have hy6 := HY6.out.size
 clear ho hbl hix HCA5
 go_wp2_with fail
 rw [rounds_succ]
 go_upto_region 7 with (fail)
 have bt := HBX.out.below HY6.out (Nat.le_refl _)
 have hB : Below w1.heap.size w1 z5 := HY6.out
 obtain ⟨L6, hL6⟩ : ∃ L, be8 (sz - 8) ++ be8 r.kind ++ be8 r.txn ++ be8 r.prev ++ be8 r.next ++ be8 r.page ++ be8 r.off = L := ⟨_, rfl⟩
 have HO6' := HO6.out
 rw [hL6] at HO6'
 have HO6h := Lib.hid HO6'
 have HL6 := Lib.hid hL6
 have hRB : ∀ w', Below w1.heap.size w1 w' → Reads 1 w' (.slice ab nb cb) nb (r.before.map B) := fun w' hb => HRB.out.below (HB1.out.trans (hb.mono (by omega))) (by rw [HT1.out]; exact Nat.le_refl _)
 have hRA : ∀ w', Below w1.heap.size w1 w' → Reads 1 w' (.slice aa na ca) na (r.after.map B) := fun w' hb => HRA.out.below (HB1.out.trans (hb.mono (by omega))) (by rw [HT1.out]; exact Nat.le_refl _)
 have HRBB := Lib.hid hRB
 have HRAA := Lib.hid hRA
 clear hL6 HO6' hRB hRA
 refine wp_region_partsDC (WREn7 r ab aa a6 nb cb na ca t1 c6 (w1.heap.size) L6) 6 [[], [], [1], [0, 1, 2], [], [4]] [some 37, some 38, some 39, some 40, some 41, some 42, some 43, some 3] (by kernel_rfl) (by kernel_rfl) rfl (PREn7 r ab aa a6 nb cb na ca t1 c6 (w1.heap.size) L6) (PREn7_stable r ab aa a6 nb cb na ca t1 c6 (w1.heap.size) L6 ) ?pREn7 ?_
 case pREn7 =>
  intro i hi o ho vs lo hx_ w' hg hp
  match i, hi with
  | 0, _ | 1, _ | 4, _ =>
   obtain rfl := Option.some.inj ho
   clear ho
   simp only [actsD, Act.put, actL]
   have hsz := hg.size
   go_wp2
   exact ⟨_, rfl, GrowC.refl _, rfl⟩
  | 2, _ =>
   obtain rfl := Option.some.inj ho
   clear ho
   simp only [actsD, Act.put, actL]
   obtain ⟨_, _, _, h1⟩ := hp 1 (by simp)
   simp only [PREn7] at h1
   have hsz := hg.size
   rw [h1]
   have e0 := (hg.cell (t1) 6 bt.lt (by rintro ⟨j, _, hne, hb, hw⟩; simp only [WREn7] at hw; omega)).trans (bt.cell 6 _ rfl)
   go_wp2
   exact ⟨_, rfl, GrowC.refl _, rfl⟩
  | 3, _ =>
   obtain rfl := Option.some.inj ho
   clear ho
   simp only [actsD, Act.put, actL]
   obtain ⟨_, _, _, h0⟩ := hp 0 (by simp)
   simp only [PREn7] at h0
   obtain ⟨_, _, _, h2⟩ := hp 2 (by simp)
   simp only [PREn7] at h2
   have hsz := hg.size
   rw [h0, h2]
   have hgx : GrowX (fun _ => False) z5 w' := GrowX.of_growC hg (fun k o ⟨j, _, hne, _, hw⟩ => hne hw.1)
   have hbw : Below w1.heap.size w1 w' := HY6.out.trans (hgx.below (fun k hk => ⟨by have := HY6.out.size; omega, fun h => h⟩))
   have hbs := hbw.size
   have hcall := recdata_any (base := w1.heap.size) (.slice a6 56 c6) 56 L6 (own_growx HO6h.out hgx (fun _ _ h => h)) hbs (by decide) ab nb cb r.before (fun w2 h2 => HRBB.out _ (hbw.trans (UpC.below h2 hbs))) (by omega)
   have HCA := Lib.hid hcall
   clear hcall
   go_wp2_with fail
   refine HCA.out.mono ?_
   rintro e y2 ⟨ao, c, rfl, ho, hg2⟩
   go_wp2
   exact ⟨_, rfl, hg2.mono (fun b o e => ⟨rfl, e⟩), ao, c, rfl, ho⟩
  | 5, _ =>
   obtain rfl := Option.some.inj ho
   clear ho
   simp only [actsD, Act.put, actL]
   obtain ⟨_, _, _, h4⟩ := hp 4 (by simp)
   simp only [PREn7] at h4
   have hsz := hg.size
   rw [h4]
   have e0 := (hg.cell (t1) 7 bt.lt (by rintro ⟨j, _, hne, hb, hw⟩; simp only [WREn7] at hw; omega)).trans (bt.cell 7 _ rfl)
   go_wp2
   exact ⟨_, rfl, GrowC.refl _, rfl⟩
  | (q + 6), hq => exact absurd hq (by omega)
 intro vS lo hi w8 hg hp hd
 obtain ⟨_, _, _, h0⟩ := hp 0 (by decide)
 obtain ⟨_, _, _, h1⟩ := hp 1 (by decide)
 obtain ⟨_, _, _, h2⟩ := hp 2 (by decide)
 obtain ⟨_, _, _, h3⟩ := hp 3 (by decide)
 obtain ⟨_, _, _, h4⟩ := hp 4 (by decide)
 obtain ⟨_, _, _, h5⟩ := hp 5 (by decide)
 simp only [PREn7] at h0 h1 h2 h3 h4 h5
 clear hp hd
 have hsz := hg.size
 replace bt := bt.grow hg (by intro i _; rintro ⟨j, _, hw⟩; simp only [WREn7] at hw; omega)
 replace hB := hB.trans (hg.below (fun k hk => ⟨by omega, fun o => by rintro ⟨j, _, hw⟩; simp only [WREn7] at hw; omega⟩))
 have hr : List.range 6 = [0, 1, 2, 3, 4, 5] := rfl
 rw [hr]
 clear hr
 simp only [List.drop_succ_cons, List.drop_zero, List.drop_nil, actsD, Act.put, actL, h0, h1, h2, h4, h5]
 clear h0 h1 h2 h4 h5
 obtain ⟨q0, d0, e3, o3⟩ := h3
 rw [e3]
 have HQ0 := Lib.hid o3
 have HZ0 := Lib.hid hB
 clear bt hB hg hsz o3 e3
 have hcall := recdata_any (base := w1.heap.size) (.slice q0 (64 + nb) d0) (64 + nb) (L6 ++ (be8 nb ++ r.before)) HQ0.out HZ0.out.size (by omega) aa na ca r.after (fun w2 h2 => HRAA.out _ (HZ0.out.trans (UpC.below h2 HZ0.out.size))) (by omega)
 have HCA := Lib.hid hcall
 clear hcall
 go_wp2_with fail
 refine HCA.out.mono ?_
 rintro e u1 ⟨q1, d1, rfl, ho, hbl⟩
 have HQ1 : Hid (u1.ownsRow w1.heap.size 5 1 (.slice q1 (64 + nb + 8 + na) d1) (64 + nb + 8 + na) ((L6 ++ (be8 nb ++ r.before) ++ (be8 na ++ r.after)).map B)) := Lib.hid ho
 have HZ1 : Hid (Below w1.heap.size w1 u1) := Lib.hid (HZ0.out.trans (UpC.below hbl HZ0.out.size))
 clear ho hbl HCA
 have bt := HBX.out.below HZ1.out (Nat.le_refl _)
 have ct8 := bt.cell 8 _ rfl
 have ct9 := bt.cell 9 _ rfl
 have ct10 := bt.cell 10 _ rfl
 have clt := bt.lt
 clear bt
 have hcall := recnum_any (.slice q1 (64 + nb + 8 + na) d1) (64 + nb + 8 + na) (L6 ++ (be8 nb ++ r.before) ++ (be8 na ++ r.after)) HQ1.out (HZ1.out.size) (by omega) 0 (by decide)
 have HCA := Lib.hid hcall
 clear hcall
 go_wp2_with fail
 refine HCA.out.mono ?_
 rintro e u2 ⟨q2, d2, rfl, ho, hbl⟩
 have HQ2 : Hid (u2.ownsRow w1.heap.size 5 1 (.slice q2 (64 + nb + 8 + na + 8) d2) (64 + nb + 8 + na + 8) ((L6 ++ (be8 nb ++ r.before) ++ (be8 na ++ r.after) ++ be8 0).map B)) := Lib.hid ho
 have HZ2 : Hid (Below w1.heap.size w1 u2) := Lib.hid (HZ1.out.trans (UpC.below hbl HZ1.out.size))
 clear ho hbl HCA
 clear ct8 ct9 ct10 clt
 have bt := HBX.out.below HZ2.out (Nat.le_refl _)
 have ct8 := bt.cell 8 _ rfl
 have ct9 := bt.cell 9 _ rfl
 have ct10 := bt.cell 10 _ rfl
 have clt := bt.lt
 clear bt
 go_wp2_with fail
 refine wp_loop_rounds 1 ?_
 rw [rounds_succ]
 have hcall := recnum_any (.slice q2 (64 + nb + 8 + na + 8) d2) (64 + nb + 8 + na + 8) (L6 ++ (be8 nb ++ r.before) ++ (be8 na ++ r.after) ++ be8 0) HQ2.out (HZ2.out.size) (by omega) 0 (by decide)
 have HCA := Lib.hid hcall
 clear hcall
 go_wp2_with fail
 refine HCA.out.mono ?_
 rintro e u3 ⟨q3, d3, rfl, ho, hbl⟩
 have HQ3 : Hid (u3.ownsRow w1.heap.size 5 1 (.slice q3 (64 + nb + 8 + na + 8 + 8) d3) (64 + nb + 8 + na + 8 + 8) ((L6 ++ (be8 nb ++ r.before) ++ (be8 na ++ r.after) ++ be8 0 ++ be8 0).map B)) := Lib.hid ho
 have HZ3 : Hid (Below w1.heap.size w1 u3) := Lib.hid (HZ2.out.trans (UpC.below hbl HZ2.out.size))
 clear ho hbl HCA
 clear ct8 ct9 ct10 clt
 have bt := HBX.out.below HZ3.out (Nat.le_refl _)
 have ct8 := bt.cell 8 _ rfl
 have ct9 := bt.cell 9 _ rfl
 have ct10 := bt.cell 10 _ rfl
 have clt := bt.lt
 clear bt
 go_wp2_with fail
 refine wp_loop_rounds 1 ?_
 rw [rounds_succ]
 have hcall := recnum_any (.slice q3 (64 + nb + 8 + na + 8 + 8) d3) (64 + nb + 8 + na + 8 + 8) (L6 ++ (be8 nb ++ r.before) ++ (be8 na ++ r.after) ++ be8 0 ++ be8 0) HQ3.out (HZ3.out.size) (by omega) r.count HS.out.count
 have HCA := Lib.hid hcall
 clear hcall
 go_wp2_with fail
 refine HCA.out.mono ?_
 rintro e u4 ⟨q4, d4, rfl, ho, hbl⟩
 have HQ4 : Hid (u4.ownsRow w1.heap.size 5 1 (.slice q4 (64 + nb + 8 + na + 8 + 8 + 8) d4) (64 + nb + 8 + na + 8 + 8 + 8) ((L6 ++ (be8 nb ++ r.before) ++ (be8 na ++ r.after) ++ be8 0 ++ be8 0 ++ be8 r.count).map B)) := Lib.hid ho
 have HZ4 : Hid (Below w1.heap.size w1 u4) := Lib.hid (HZ3.out.trans (UpC.below hbl HZ3.out.size))
 clear ho hbl HCA
 go_wp2_with fail
 go_ret
 have e1 : 64 + nb + 8 + na + 8 + 8 + 8 = sz := by have := HSV.out; omega
 have e2 : L6 ++ (be8 nb ++ r.before) ++ (be8 na ++ r.after) ++ be8 0 ++ be8 0 ++ be8 r.count = r.enc := by
  unfold Rc.enc
  rw [HS.out.t, HS.out.d, HSZ.out, HNB.out, HNA.out, ← HL6.out]
  simp only [List.length_nil, List.flatMap_nil, List.append_nil, List.append_assoc]
 have o := HQ4.out
 rw [e1, e2] at o
 have hw1 : w.heap.size ≤ w1.heap.size := HB1.out.size
 refine ⟨q4, d4, ?_, own_base o hw1, ?_⟩
 ·show Ending.returned (Value.slice q4 (64 + nb + 8 + na + 8 + 8 + 8) d4) = _
  rw [e1]
 ·have hb := HB1.out
  rw [← HT1.out] at hb
  exact hb.trans (HZ4.out.mono hw1)
end
end
section
open Go.RowKit
section
variable {W0 : World} {g n f pg : Nat} {fv : Value} {T : Type} {Iw : T → (Nat → Prop) → World → Prop} {p : Pq} {s : T} {S : Nat → Prop} {w : World} {fn : Nat} {caps : Array Value} {O : IoF T}
theorem PV.putIo (hF : IoOf W0 f pg fn caps Iw O) (h : PV W0 g n f pg fv Iw p s S w) : ∃ S2, Iw s S2 w ∧ (∀ k, S2 k → S k) ∧ ∀ s' S2' w', Iw s' S2' w' → Foot S2 S2' w w' → ∃ S', PV W0 g n f pg fv Iw p s' S' w' ∧ Foot S S' w w' := by
 have hlt := h.lt hF
 obtain ⟨lb, E, K, S1, S2, h1, h2, h3, h4, h5, h6, h7, h8, h9, rfl⟩ := h
 refine ⟨S2, h4, fun k hk => .inr (.inr hk), fun s' S2' w' h4' hf => ?_⟩
 have hb := hF.bel _ _ _ h4'
 have h8' : Disj (own3 g lb K) S2' := (hf.disj h8.symm (fun k hk => (hlt k (.inl hk)).2)).symm
 refine ⟨fun k => own3 g lb K k ∨ S1 k ∨ S2' k, ⟨lb, E, K, S1, S2', h1.grow hf.grow (fun hs => h8 g (.inl rfl) hs) (fun hs => h8 lb (.inr (.inl rfl)) hs) (fun k hk hs => h8 k (.inr (.inr hk)) hs), h2, ⟨hb, h3.2⟩, h4', h5, h6, h7, h8', ?_, rfl⟩, hf.grow.mono (fun k hk => .inr (.inr hk)), ?_⟩
 ·intro k hk _
  have e := h3.2
  subst e
  exact hk
 ·rintro k (hk | hk | hk)
  ·exact .inl (.inl hk)
  ·exact .inl (.inr (.inl hk))
  ·exact (hf.new k hk).imp (fun h => .inr (.inr h)) id
end
section
variable {W0 w : World} {r d f sb cv n fr pg : Nat} {s : Io × List Value} {S : Nat → Prop}
theorem IOV.putRg (h : IOV W0 r d f sb cv n fr pg s S w) : ∃ S1, RGV W0 r d n s.1 S1 w ∧ (∀ k, S1 k → S k) ∧ s.1.D.c = [] ∧ ∀ s' S1' w', RGV W0 r d n s' S1' w' → s'.D.c = [] → s'.D.l.length = s.1.D.l.length → Foot S1 S1' w w' → ∃ S', IOV W0 r d f sb cv n fr pg (s', s.2) S' w' ∧ Foot S S' w w' := by
 obtain ⟨S1, h1, rfl⟩ := h
 refine ⟨S1, h1.rg, fun k hk => .inl hk, h1.c0, fun s' S1' w' hr hc hl hf => ?_⟩
 obtain ⟨z1, z2⟩ := h1.put hr hc (by rw [hl]; exact h1.fit) hf
 exact ⟨_, z1, z2⟩
theorem IOV.cells (h : IOV W0 r d f sb cv n fr pg s S w) : Box w sb s.2 ∧ s.2[1]? = some (.pointer (some ⟨r, 0, none⟩)) ∧ Box w cv [.pointer (some ⟨sb, 0, none⟩)] ∧ S sb ∧ S cv := by
 obtain ⟨S1, h1, rfl⟩ := h
 exact ⟨h1.sbx, h1.log, h1.cvx, .inr (.inr (.inl rfl)), .inr (.inr (.inr rfl))⟩
theorem IOV.poke (h : IOV W0 r d f sb cv n fr pg s S w) (i : Nat) (hi : i ≠ 1) (v : Value) : IOV W0 r d f sb cv n fr pg (s.1, s.2.set i v) S (w.setCell ⟨sb, i, none⟩ v) ∧ Foot S S w (w.setCell ⟨sb, i, none⟩ v) := by
 have k3 := growX_setCell w sb i v
 have hbz : Below W0.heap.size W0 (w.setCell ⟨sb, i, none⟩ v) := h.bel.trans (k3.below (fun k hk => ⟨Nat.lt_of_lt_of_le hk h.bel.size, fun e => by obtain ⟨S1, h1, _⟩ := h; have := h1.gs; omega⟩))
 obtain ⟨S1, h1, rfl⟩ := h
 exact ⟨⟨S1, ⟨h1.rg.grow k3 (fun k hk e => h1.ns (e ▸ hk)) hbz, h1.c0, h1.fb.growx k3 h1.fs, h1.sbx.setCell i v, by rw [List.getElem?_set_ne hi]; exact h1.log, h1.cvx.growx k3 h1.sc.symm, h1.nf, h1.ns, h1.nc, h1.fs, h1.fc, h1.sc, h1.gf, h1.gs, h1.gc, h1.fit⟩, rfl⟩, Foot.same k3 (fun k e => .inr (.inr (.inl e)))⟩
end
abbrev SFv (cv : Nat) : Value := .func (.func 82) #[] #[.pointer (some ⟨cv, 0, none⟩)]
def SP (W0 : World) (g nf r d f sb cv n fr pg : Nat) (p : Pq) (s : Io × List Value) (S : Nat → Prop) (w : World) : Prop :=
 PV W0 g nf f pg (SFv cv) (IOV W0 r d f sb cv n fr pg) p s S w ∧ pg ≤ 8192
section
variable {W0 w w' : World} {g nf r d f sb cv n fr pg : Nat} {p : Pq} {s : Io × List Value} {S : Nat → Prop}
theorem SP.io (h : SP W0 g nf r d f sb cv n fr pg p s S w) : IoOf W0 f pg 82 #[.pointer (some ⟨cv, 0, none⟩)] (IOV W0 r d f sb cv n fr pg) (OpsC n fr) := io_of h.2
theorem SP.grow {X : Nat → Prop} (h : SP W0 g nf r d f sb cv n fr pg p s S w) (hg : GrowX X w w') (hX : Disj S X) (hB : Below W0.heap.size W0 w') : SP W0 g nf r d f sb cv n fr pg p s S w' := ⟨h.1.grow h.io hg hX hB, h.2⟩
theorem SP.bel (h : SP W0 g nf r d f sb cv n fr pg p s S w) : Below W0.heap.size W0 w := h.1.bel
theorem SP.below (h : SP W0 g nf r d f sb cv n fr pg p s S w) (hb : Below w.heap.size w w') : SP W0 g nf r d f sb cv n fr pg p s S w' := ⟨h.1.below h.io hb, h.2⟩
theorem SP.lt (h : SP W0 g nf r d f sb cv n fr pg p s S w) : ∀ k, S k → W0.heap.size ≤ k ∧ k < w.heap.size := h.1.lt h.io
theorem SP.cells (h : SP W0 g nf r d f sb cv n fr pg p s S w) : Box w sb s.2 ∧ s.2[1]? = some (.pointer (some ⟨r, 0, none⟩)) ∧ Box w cv [.pointer (some ⟨sb, 0, none⟩)] ∧ S sb ∧ S cv := by
 obtain ⟨S2, h1, h2, _⟩ := h.1.putIo h.io
 obtain ⟨c1, c2, c3, c4, c5⟩ := h1.cells
 exact ⟨c1, c2, c3, h2 _ c4, h2 _ c5⟩
theorem SP.poke (h : SP W0 g nf r d f sb cv n fr pg p s S w) (i : Nat) (hi : i ≠ 1) (v : Value) : ∃ S', SP W0 g nf r d f sb cv n fr pg p (s.1, s.2.set i v) S' (w.setCell ⟨sb, i, none⟩ v) ∧ Foot S S' w (w.setCell ⟨sb, i, none⟩ v) := by
 obtain ⟨S2, h1, h2, h3⟩ := h.1.putIo h.io
 obtain ⟨z1, z2⟩ := h1.poke i hi v
 obtain ⟨S', z3, z4⟩ := h3 _ _ _ z1 z2
 exact ⟨S', ⟨z3, h.2⟩, z4⟩
theorem SP.putRg (h : SP W0 g nf r d f sb cv n fr pg p s S w) : ∃ S1, RGV W0 r d n s.1 S1 w ∧ (∀ k, S1 k → S k) ∧ s.1.D.c = [] ∧ ∀ s' S1' w', RGV W0 r d n s' S1' w' → s'.D.c = [] → s'.D.l.length = s.1.D.l.length → Foot S1 S1' w w' → ∃ S', SP W0 g nf r d f sb cv n fr pg p (s', s.2) S' w' ∧ Foot S S' w w' := by
 obtain ⟨S2, h1, h2, h3⟩ := h.1.putIo h.io
 obtain ⟨S1, i1, i2, i3, i4⟩ := h1.putRg
 refine ⟨S1, i1, fun k hk => h2 k (i2 k hk), i3, fun s' S1' w' hr hc hl hf => ?_⟩
 obtain ⟨S2', z1, z2⟩ := i4 s' S1' w' hr hc hl hf
 obtain ⟨S', z3, z4⟩ := h3 _ _ _ z1 z2
 exact ⟨S', ⟨z3, h.2⟩, z4⟩
end
end
section
open Go.RowKit
structure Le where
 lsn : Nat
 r : Rc
 vb : Value
 va : Value
def recL (r : Rc) (vb va : Value) : List Value := [.int .i64 (r.kind : Nat), .int .i64 (r.txn : Nat), .int .i64 (r.prev : Nat), .int .i64 (r.next : Nat), .int .i64 (r.page : Nat), .int .i64 (r.off : Nat), vb, va, .slice none 0 0, .slice none 0 0, .int .i64 (r.count : Nat)]
def lcell (e : Le) : List Value := .int .i64 (e.lsn : Nat) :: recL e.r e.vb e.va
def lcells (E : List Le) : List Value := E.flatMap lcell
theorem lcells_append (E F : List Le) : lcells (E ++ F) = lcells E ++ lcells F := by simp [lcells]
theorem lcells_length (E : List Le) : (lcells E).length = E.length * 12 := by
 induction E with
 | nil => rfl
 | cons a r ih => simp only [lcells, List.flatMap_cons, List.length_append, List.length_cons, lcell, recL, List.length_nil] at *; omega
structure LnV (W0 w : World) (vl : Value) (EL : List Le) (K : Nat → Prop) : Prop where
 row : w.ownsRow W0.heap.size 87 12 vl EL.length (lcells EL)
 tb : ∀ e ∈ EL, SecAt w K e.r.before e.vb ∧ SecAt w K e.r.after e.va
 sm : ∀ e ∈ EL, e.r.small ∧ e.lsn ≤ 1099511627776
structure Te where
 t : Nat
 x : Tx
 vu : Value
 EU : List (Up × Value)
def ucell (u : Up × Value) : List Value := [.int .i64 (u.1.lsn : Nat), .int .i64 (u.1.prev : Nat), .int .i64 (u.1.page : Nat), .int .i64 (u.1.off : Nat), u.2]
def ucells (E : List (Up × Value)) : List Value := E.flatMap ucell
theorem ucells_append (E F : List (Up × Value)) : ucells (E ++ F) = ucells E ++ ucells F := by simp [ucells]
def tcell (e : Te) : List Value := [.int .i64 (e.x.id : Nat), .int .i64 (e.x.first : Nat), .int .i64 (e.x.last : Nat), e.vu]
def Te.fp (e : Te) (k : Nat) : Prop := k = e.t ∨ e.vu.ownBlock = some k
structure TxAt (W0 w : World) (e : Te) (K : Nat → Prop) : Prop where
 box : Box w e.t (tcell e)
 row : w.ownsRow W0.heap.size 114 5 e.vu e.EU.length (ucells e.EU)
 ups : e.x.l = e.EU.map (·.1)
 tb : ∀ u ∈ e.EU, SecAt w K u.1.before u.2
 gt : W0.heap.size ≤ e.t
 ne : ∀ q, e.vu.ownBlock = some q → q ≠ e.t
def ptrT (e : Te) : Value := .pointer (some ⟨e.t, 0, none⟩)
structure TxV (W0 w : World) (vo : Value) (EO : List Te) (K : Nat → Prop) : Prop where
 row : w.ownsRow W0.heap.size 100 1 vo EO.length (EO.map ptrT)
 at_ : ∀ e ∈ EO, TxAt W0 w e K
 pw : EO.Pairwise fun a b => Disj a.fp b.fp
 no : ∀ e ∈ EO, ∀ q, vo.ownBlock = some q → ¬ e.fp q
def TxFoot (vo : Value) (EO : List Te) (k : Nat) : Prop := vo.ownBlock = some k ∨ ∃ e ∈ EO, e.fp k
structure Adr where
 sb : Nat
 r : Nat
 d : Nat
 f : Nat
 cv : Nat
 g : Nat
 nf : Nat
def scells (A : Adr) (σ : St) (vl vo : Value) : List Value :=
 [.pointer (some ⟨A.d, 0, none⟩), .pointer (some ⟨A.r, 0, none⟩), .pointer (some ⟨A.f, 0, none⟩), .pointer (some ⟨A.g, 0, none⟩), vl, vo, .int .i64 (σ.master : Nat), .int .i64 (σ.next : Nat), .int .i64 (σ.commits : Nat), .bool false, .int .i64 (σ.redone : Nat), .int .i64 (σ.undone : Nat)]
def ownS (v : Value) (k : Nat) : Prop := v.ownBlock = some k
structure SvAt (W0 w : World) (A : Adr) (c : Cf) (σ : St) (vl vo : Value) (EL : List Le) (EO : List Te) (K S1 : Nat → Prop) : Prop where
 sp : SP W0 A.g A.nf A.r A.d A.f A.sb A.cv c.n c.fr c.pg σ.p (σ.io, scells A σ vl vo) S1 w
 ln : LnV W0 w vl EL K
 lis : σ.lines = EL.map fun e => (e.lsn, e.r)
 tx : TxV W0 w vo EO K
 ois : σ.opn = EO.map (·.x)
 kin : ∀ k, K k → W0.heap.size ≤ k ∧ k < w.heap.size
 d1 : Disj S1 (ownS vl)
 d2 : Disj S1 (TxFoot vo EO)
 d3 : Disj (ownS vl) (TxFoot vo EO)
 k1 : Disj K S1
 k2 : Disj K (ownS vl)
 k3 : Disj K (TxFoot vo EO)
def sfoot (S1 : Nat → Prop) (vl vo : Value) (EO : List Te) (K : Nat → Prop) (k : Nat) : Prop := S1 k ∨ ownS vl k ∨ TxFoot vo EO k ∨ K k
def SV (W0 : World) (A : Adr) (c : Cf) (σ : St) (S : Nat → Prop) (w : World) : Prop :=
 ∃ vl vo EL EO K S1, SvAt W0 w A c σ vl vo EL EO K S1 ∧ S = sfoot S1 vl vo EO K
section
variable {W0 w w' : World} {A : Adr} {c : Cf} {σ : St} {S : Nat → Prop} {vl vo : Value} {EL : List Le} {EO : List Te} {K S1 : Nat → Prop} {X : Nat → Prop}
theorem LnV.grow (h : LnV W0 w vl EL K) (hg : GrowX X w w') (h1 : ∀ q, vl.ownBlock = some q → ¬ X q) (h2 : ∀ k, K k → ¬ X k) : LnV W0 w' vl EL K :=
 ⟨own_growx h.row hg h1, fun e he => ⟨(h.tb e he).1.grow hg h2, (h.tb e he).2.grow hg h2⟩, h.sm⟩
theorem LnV.mono {K' : Nat → Prop} (h : LnV W0 w vl EL K) (hK : ∀ k, K k → K' k) : LnV W0 w vl EL K' := ⟨h.row, fun e he => ⟨(h.tb e he).1.mono hK, (h.tb e he).2.mono hK⟩, h.sm⟩
theorem TxAt.grow {e : Te} (h : TxAt W0 w e K) (hg : GrowX X w w') (h1 : ∀ k, e.fp k → ¬ X k) (h2 : ∀ k, K k → ¬ X k) : TxAt W0 w' e K :=
 ⟨h.box.growx hg (h1 _ (.inl rfl)), own_growx h.row hg (fun q e => h1 q (.inr e)), h.ups, fun u hu => (h.tb u hu).grow hg h2, h.gt, h.ne⟩
theorem TxAt.mono {K' : Nat → Prop} {e : Te} (h : TxAt W0 w e K) (hK : ∀ k, K k → K' k) : TxAt W0 w e K' := ⟨h.box, h.row, h.ups, fun u hu => (h.tb u hu).mono hK, h.gt, h.ne⟩
theorem TxV.grow (h : TxV W0 w vo EO K) (hg : GrowX X w w') (h1 : ∀ k, TxFoot vo EO k → ¬ X k) (h2 : ∀ k, K k → ¬ X k) : TxV W0 w' vo EO K :=
 ⟨own_growx h.row hg (fun q e => h1 q (.inl e)), fun e he => (h.at_ e he).grow hg (fun k hk => h1 k (.inr ⟨e, he, hk⟩)) h2, h.pw, h.no⟩
theorem TxV.mono {K' : Nat → Prop} (h : TxV W0 w vo EO K) (hK : ∀ k, K k → K' k) : TxV W0 w vo EO K' := ⟨h.row, fun e he => (h.at_ e he).mono hK, h.pw, h.no⟩
theorem TxV.lt (h : TxV W0 w vo EO K) : ∀ k, TxFoot vo EO k → W0.heap.size ≤ k ∧ k < w.heap.size := by
 rintro k (hk | ⟨e, he, rfl | hk⟩)
 ·exact h.row.lt k hk
 ·exact ⟨(h.at_ e he).gt, (h.at_ e he).box.lt⟩
 ·exact (h.at_ e he).row.lt k hk
theorem SvAt.grow (h : SvAt W0 w A c σ vl vo EL EO K S1) (hg : GrowX X w w') (hX : Disj (sfoot S1 vl vo EO K) X) (hB : Below W0.heap.size W0 w') : SvAt W0 w' A c σ vl vo EL EO K S1 :=
 ⟨h.sp.grow hg (fun k hk hx => hX k (.inl hk) hx) hB, h.ln.grow hg (fun q e hx => hX q (.inr (.inl e)) hx) (fun k hk hx => hX k (.inr (.inr (.inr hk))) hx), h.lis,
  h.tx.grow hg (fun k hk hx => hX k (.inr (.inr (.inl hk))) hx) (fun k hk hx => hX k (.inr (.inr (.inr hk))) hx), h.ois, fun k hk => ⟨(h.kin k hk).1, Nat.lt_of_lt_of_le (h.kin k hk).2 hg.size⟩, h.d1, h.d2, h.d3, h.k1, h.k2, h.k3⟩
theorem SvAt.lt (h : SvAt W0 w A c σ vl vo EL EO K S1) : ∀ k, sfoot S1 vl vo EO K k → W0.heap.size ≤ k ∧ k < w.heap.size := by
 rintro k (hk | hk | hk | hk)
 ·exact h.sp.lt k hk
 ·exact h.ln.row.lt k hk
 ·exact h.tx.lt k hk
 ·exact h.kin k hk
theorem SvAt.bel (h : SvAt W0 w A c σ vl vo EL EO K S1) : Below W0.heap.size W0 w := h.sp.bel
theorem SvAt.below (h : SvAt W0 w A c σ vl vo EL EO K S1) (hb : Below w.heap.size w w') : SvAt W0 w' A c σ vl vo EL EO K S1 :=
 h.grow (X := fun _ => False) (grow_below hb) (fun _ _ h => h) (h.bel.trans (hb.mono h.bel.size))
theorem SV.grow (h : SV W0 A c σ S w) (hg : GrowX X w w') (hX : Disj S X) (hB : Below W0.heap.size W0 w') : SV W0 A c σ S w' := by
 obtain ⟨vl, vo, EL, EO, K, S1, h1, rfl⟩ := h
 exact ⟨vl, vo, EL, EO, K, S1, h1.grow hg hX hB, rfl⟩
theorem SV.lt (h : SV W0 A c σ S w) : ∀ k, S k → W0.heap.size ≤ k ∧ k < w.heap.size := by
 obtain ⟨vl, vo, EL, EO, K, S1, h1, rfl⟩ := h
 exact h1.lt
theorem SV.bel (h : SV W0 A c σ S w) : Below W0.heap.size W0 w := by
 obtain ⟨vl, vo, EL, EO, K, S1, h1, rfl⟩ := h
 exact h1.bel
theorem SV.below (h : SV W0 A c σ S w) (hb : Below w.heap.size w w') : SV W0 A c σ S w' :=
 h.grow (X := fun _ => False) (grow_below hb) (fun _ _ h => h) (h.bel.trans (hb.mono h.bel.size))
theorem SvAt.putS {σ' : St} {S1' : Nat → Prop} (h : SvAt W0 w A c σ vl vo EL EO K S1) (hs : SP W0 A.g A.nf A.r A.d A.f A.sb A.cv c.n c.fr c.pg σ'.p (σ'.io, scells A σ' vl vo) S1' w') (hf : Foot S1 S1' w w') (hl : σ'.lines = σ.lines) (ho : σ'.opn = σ.opn) :
  SvAt W0 w' A c σ' vl vo EL EO K S1' ∧ Foot (sfoot S1 vl vo EO K) (sfoot S1' vl vo EO K) w w' := by
 have hlt := h.lt
 have no : ∀ (P : Nat → Prop), Disj S1 P → (∀ k, P k → k < w.heap.size) → Disj S1' P := fun P hd hp k h1 h2 => (hf.new k h1).elim (fun h => hd k h h2) (fun h => by have := hp k h2; omega)
 have nk : Disj K S1' := fun k h1 h2 => no K (fun k a b => h.k1 k b a) (fun k hk => (h.kin k hk).2) k h2 h1
 refine ⟨⟨hs, h.ln.grow hf.grow (fun q e hx => h.d1 q hx e) (fun k hk hx => h.k1 k hk hx), hl.trans h.lis, h.tx.grow hf.grow (fun k hk hx => h.d2 k hx hk) (fun k hk hx => h.k1 k hk hx), ho.trans h.ois,
  fun k hk => ⟨(h.kin k hk).1, Nat.lt_of_lt_of_le (h.kin k hk).2 hf.grow.size⟩, no _ h.d1 (fun k hk => (hlt k (.inr (.inl hk))).2), no _ h.d2 (fun k hk => (hlt k (.inr (.inr (.inl hk)))).2), h.d3, nk, h.k2, h.k3⟩, hf.grow.mono (fun k hk => .inl hk), ?_⟩
 rintro k (hk | hk)
 ·exact (hf.new k hk).imp .inl id
 ·exact .inl (.inr hk)
end
end
section
open Go.RowKit
section
variable {W0 w w' : World} {A : Adr} {c : Cf} {σ : St} {S : Nat → Prop} {vl vo : Value} {EL : List Le} {EO : List Te} {K S1 : Nat → Prop} {X : Nat → Prop}
theorem SvAt.sbx (h : SvAt W0 w A c σ vl vo EL EO K S1) : Box w A.sb (scells A σ vl vo) := h.sp.cells.1
theorem SvAt.sbS (h : SvAt W0 w A c σ vl vo EL EO K S1) : S1 A.sb := h.sp.cells.2.2.2.1
set_option maxRecDepth 100000 in
set_option maxHeartbeats 1600000 in
theorem told_s (h : SvAt W0 w A c σ vl vo EL EO K S1) (er : Int) (he : er = 0 ∨ er = 60) :
  Calls Tryz.prog 59 #[.pointer (some ⟨A.sb, 0, none⟩), .int .i64 er] w fun e w' => ∃ S1', e = .returned (.int .i64 er) ∧ SvAt W0 w' A c σ vl vo EL EO K S1' ∧ Foot S1 S1' w w' := by
 have c9 := h.sbx.cell 9 _ rfl
 have cfz := h.sbx.free
 have clt := h.sbx.lt
 have HH := Lib.hid h
 have fin : ∀ w2, w2 = w.setCell ⟨A.sb, 9, none⟩ (.bool false) → ∃ S1', SvAt W0 w2 A c σ vl vo EL EO K S1' ∧ Foot S1 S1' w w2 := by
  rintro w2 rfl
  obtain ⟨S1', z1, z2⟩ := h.sp.poke 9 (by decide) (.bool false)
  obtain ⟨z3, z4⟩ := h.putS (σ' := σ) (S1' := S1') z1 z2 rfl rfl
  exact ⟨S1', z3, z2⟩
 have HF := Lib.hid fin
 clear h fin
 rcases he with rfl | rfl
 ·go_enter Tryz.func59, Tryz.ntmps59
  go_wp2_with fail
  go_ret
  obtain ⟨S1', z1, z2⟩ := HF.out _ rfl
  exact ⟨S1', rfl, z1, z2⟩
 ·go_enter Tryz.func59, Tryz.ntmps59
  go_wp2_with fail
  go_ret
  obtain ⟨S1', z1, z2⟩ := HF.out _ rfl
  exact ⟨S1', rfl, z1, z2⟩
theorem sfoot_of {S1' : Nat → Prop} (h : Foot S1 S1' w w') : Foot (sfoot S1 vl vo EO K) (sfoot S1' vl vo EO K) w w' := by
 refine ⟨h.grow.mono (fun k hk => .inl hk), ?_⟩
 rintro k (hk | hk)
 ·exact (h.new k hk).imp .inl id
 ·exact .inl (.inr hk)
theorem told_at (h : SvAt W0 w A c σ vl vo EL EO K S1) (er : Int) (he : er = 0 ∨ er = 60) :
  Calls Tryz.prog 59 #[.pointer (some ⟨A.sb, 0, none⟩), .int .i64 er] w fun e w' => ∃ S1', e = .returned (.int .i64 er) ∧ SvAt W0 w' A c σ vl vo EL EO K S1' ∧ Foot (sfoot S1 vl vo EO K) (sfoot S1' vl vo EO K) w w' := by
 refine (told_s h er he).mono ?_
 rintro e w' ⟨S1', h1, h2, h3⟩
 exact ⟨S1', h1, h2, sfoot_of h3⟩
set_option maxRecDepth 100000 in
theorem spages_at (h : SvAt W0 w A c σ vl vo EL EO K S1) :
  Calls Tryz.prog 22 #[.pointer (some ⟨A.sb, 0, none⟩)] w fun e w' => e = .returned (.int .i64 (c.pg : Nat)) ∧ w' = w := by
 have c2 := h.sbx.cell 2 _ rfl
 have clt := h.sbx.lt
 obtain ⟨S2, h1, _⟩ := h.sp.1.putIo h.sp.io
 have hcall := h.sp.io.pages _ _ _ h1
 have HC := Lib.hid hcall
 clear h h1 hcall
 go_enter Tryz.func22, Tryz.ntmps22
 go_wp2_with fail
 refine HC.out.mono ?_
 rintro e y ⟨rfl, rfl⟩
 go_wp2_with fail
 go_ret
 exact ⟨rfl, rfl⟩
theorem scommits_at (h : SvAt W0 w A c σ vl vo EL EO K S1) :
  Calls Tryz.prog 39 #[.pointer (some ⟨A.sb, 0, none⟩)] w fun e w' => e = .returned (.int .i64 (σ.commits : Nat)) ∧ w' = w := by
 have c2 := h.sbx.cell 8 _ rfl
 have clt := h.sbx.lt
 clear h
 go_enter Tryz.func39, Tryz.ntmps39
 go_wp2_with fail
 go_ret
 exact ⟨rfl, rfl⟩
end
end
section
open Go.RowKit
section
variable {W0 w : World} {r d n : Nat} {s : Io} {S : Nat → Prop}
theorem rapp_rg (h : RGV W0 r d n s S w) (b : List UInt8) (ao : Option Addr) (m c : Nat) (hv : Reads 1 w (.slice ao m c) m (b.map B)) (hb : b.length = m) (hm : m ≤ s.R.room n) (ht : s.R.tail + m ≤ 1099511627776) :
  Calls Tryz.prog 98 #[.pointer (some ⟨r, 0, none⟩), .slice ao m c] w fun e w' => ∃ S', e = .returned (.int .i64 0) ∧ RGV W0 r d n { s with R := s.R.app b } S' w' ∧ Foot S S' w w' := by
 obtain ⟨vb, S0, i1, i2, i3, i4, i5, i6, i7, rfl⟩ := h
 refine (rappend_at i1 i4 i2.bel.size b ao m c hv hm (by omega)).mono ?_
 rintro e w' ⟨vb', rfl, h1, h2, h3⟩
 have hdj : Disj S0 (RgOwn r vb) := by
  rintro k hk (rfl | h)
  ·exact i6 hk
  ·exact i7 k h hk
 have hbel : Below W0.heap.size W0 w' := i2.bel.trans (h2.below (fun k hk => ⟨Nat.lt_of_lt_of_le hk i2.bel.size, by
  rintro (rfl | h)
  ·have := i1.gr; omega
  ·have := (i1.row.lt k h).1; omega⟩))
 have htl : (s.R.app b).tail = s.R.tail + m := by
  show s.R.base + (s.R.bytes ++ b).length = _
  rw [List.length_append, hb]; unfold Rg.tail; omega
 have hroom := i4.room
 unfold Rg.room at hm
 refine ⟨_, rfl, ⟨vb', S0, h1, i2.grow h2 hdj hbel, i3, ⟨i4.n2, i4.n3, i4.base, i4.sf, ?_, ?_, ?_⟩, i5, i6, ?_, rfl⟩, h2.mono (fun k hk => .inr hk), ?_⟩
 ·have := i4.ft; show s.R.fin ≤ (s.R.app b).tail; omega
 ·rw [htl]; exact ht
 ·rw [htl]; show _ ≤ (s.R.start / 118 + n - 1) * 118; omega
 ·exact fun q e hs => (h3 q e).elim (fun h => i7 q h hs) (fun h => by have := (i2.lt q hs).2; omega)
 ·rintro k (hk | rfl | hk)
  ·exact .inl (.inl hk)
  ·exact .inl (.inr (.inl rfl))
  ·exact (h3 k hk).imp (fun h => .inr (.inr h)) id
end
theorem linesOf : SliceOf Tryz.prog 55 87 (.agg #[.int .i64 0, .int .i64 0, .int .i64 0, .int .i64 0, .int .i64 0, .int .i64 0, .int .i64 0, .slice none 0 0, .slice none 0 0, .slice none 0 0, .slice none 0 0, .int .i64 0]) 12 160 := ⟨Tryz.underlying55, by kernel_rfl, rfl, by decide⟩
theorem own_mono {w : World} {b b' : Nat} {t : TypeId} {k : Nat} {v : Value} {n : Nat} {xs : List Value} (h : w.ownsRow b t k v n xs) (hb : b' ≤ b) : w.ownsRow b' t k v n xs := by
 obtain ⟨h1, h2⟩ := h
 refine ⟨h1, h2.imp id ?_⟩
 rintro ⟨g, cap, cur, h3, h4, h5⟩
 exact ⟨g, cap, cur, h3, Nat.le_trans hb h4, h5⟩
def WSLy2 (A : Adr) (σ : St) (vl vo : Value) (r : Rc) (ab aa : Option Addr) (nb cb na ca t1 G : Nat) (j b o : Nat) : Prop := False
def PSLy2 (A : Adr) (σ : St) (vl vo : Value) (r : Rc) (ab aa : Option Addr) (nb cb na ca t1 G : Nat) (i : Nat) (v : Value) (lo hi : Nat) (w : World) : Prop :=
 match i with
 | 0 => v = .pointer (some ⟨A.sb, 0, none⟩)
 | 1 => v = .pointer (some ⟨A.sb, 0, none⟩)
 | 2 => v = .pointer (some ⟨A.sb, 1, none⟩)
 | 3 => v = .pointer (some ⟨A.r, 0, none⟩)
 | 4 => v = .agg #[.int .i64 (r.kind : Nat), .int .i64 (r.txn : Nat), .int .i64 (r.prev : Nat), .int .i64 (r.next : Nat), .int .i64 (r.page : Nat), .int .i64 (r.off : Nat), .slice ab nb cb, .slice aa na ca, .slice none 0 0, .slice none 0 0, .int .i64 (r.count : Nat)]
 | 5 => ∃ ao c, v = .slice ao r.size c ∧ w.ownsRow G 5 1 (.slice ao r.size c) r.size (r.enc.map B)
 | _ => True
theorem PSLy2_stable (A : Adr) (σ : St) (vl vo : Value) (r : Rc) (ab aa : Option Addr) (nb cb na ca t1 G : Nat)  : ∀ i j, i < 6 → j < 6 → j ≠ i → j ∉ ([[], [0], [0, 1], [0, 1, 2], [], [4]] : List (List Nat)).getD i [] → ∀ v lo hi w w', PSLy2 A σ vl vo r ab aa nb cb na ca t1 G i v lo hi w → GrowC (WSLy2 A σ vl vo r ab aa nb cb na ca t1 G j) w w' → PSLy2 A σ vl vo r ab aa nb cb na ca t1 G i v lo hi w' := by
 intro i j hi hj hne hbs v lo hj2 w w' h hg
 match i, hi with
 | 0, _ | 1, _ | 2, _ | 3, _ | 4, _ =>
  simp only [PSLy2] at h ⊢
  exact h
 | 5, _ =>
  simp only [PSLy2] at h ⊢
  obtain ⟨ao, c, h1, h2⟩ := h
  exact ⟨ao, c, h1, own_growx h2 (GrowX.of_growC hg (Y := fun _ => False) (fun k o h => h)) (fun _ _ h => h)⟩
 | (q + 6), hq => exact absurd hq (by omega)
def WSLy5 (A : Adr) (σ : St) (vl vo : Value) (r : Rc) (ab aa : Option Addr) (nb cb na ca t1 T k G0 G : Nat) (EL : List Le) (j b o : Nat) : Prop := (j = 9 ∧ vl.ownBlock = some b)
def PSLy5 (A : Adr) (σ : St) (vl vo : Value) (r : Rc) (ab aa : Option Addr) (nb cb na ca t1 T k G0 G : Nat) (EL : List Le) (i : Nat) (v : Value) (lo hi : Nat) (w : World) : Prop :=
 match i with
 | 0 => v = .pointer (some ⟨A.sb, 0, none⟩)
 | 1 => v = .pointer (some ⟨A.sb, 0, none⟩)
 | 2 => v = .pointer (some ⟨A.sb, 0, none⟩)
 | 3 => v = .pointer (some ⟨A.sb, 4, none⟩)
 | 4 => v = vl
 | 5 => v = .int .i64 ((T + 1 : Nat) : Int)
 | 6 => v = .agg #[.int .i64 (r.kind : Nat), .int .i64 (r.txn : Nat), .int .i64 (r.prev : Nat), .int .i64 (r.next : Nat), .int .i64 (r.page : Nat), .int .i64 (r.off : Nat), .slice ab nb cb, .slice aa na ca, .slice none 0 0, .slice none 0 0, .int .i64 (r.count : Nat)]
 | 7 => v = .agg #[.int .i64 ((T + 1 : Nat) : Int), .int .i64 (r.kind : Nat), .int .i64 (r.txn : Nat), .int .i64 (r.prev : Nat), .int .i64 (r.next : Nat), .int .i64 (r.page : Nat), .int .i64 (r.off : Nat), .slice ab nb cb, .slice aa na ca, .slice none 0 0, .slice none 0 0, .int .i64 (r.count : Nat)]
 | 8 => ∃ g, v = .slice (some ⟨g, 0, none⟩) 1 1 ∧ G ≤ g ∧ Reads 12 w v 1 (lcell ⟨T + 1, r, .slice ab nb cb, .slice aa na ca⟩)
 | 9 => ∃ ao c, v = .slice ao (k + 1) c ∧ w.ownsRow G0 87 12 (.slice ao (k + 1) c) (k + 1) (lcells EL ++ (lcell ⟨T + 1, r, .slice ab nb cb, .slice aa na ca⟩)) ∧ ∀ q, (Value.slice ao (k + 1) c).ownBlock = some q → vl.ownBlock = some q ∨ G ≤ q
 | 10 => v = .pointer (some ⟨A.sb, 0, none⟩)
 | 11 => v = .pointer (some ⟨A.sb, 4, none⟩)
 | _ => True
theorem PSLy5_stable (A : Adr) (σ : St) (vl vo : Value) (r : Rc) (ab aa : Option Addr) (nb cb na ca t1 T k G0 G : Nat) (EL : List Le) (hv : ∀ q, vl.ownBlock = some q → q < G) : ∀ i j, i < 12 → j < 12 → j ≠ i → j ∉ ([[], [], [1], [1, 2], [1, 2, 3], [], [], [5, 6], [5, 6, 7], [1, 2, 3, 4, 5, 6, 7, 8], [0, 1, 2, 3, 4, 5, 6, 7, 8, 9], [0, 1, 2, 3, 4, 5, 6, 7, 8, 9, 10]] : List (List Nat)).getD i [] → ∀ v lo hi w w', PSLy5 A σ vl vo r ab aa nb cb na ca t1 T k G0 G EL i v lo hi w → GrowC (WSLy5 A σ vl vo r ab aa nb cb na ca t1 T k G0 G EL j) w w' → PSLy5 A σ vl vo r ab aa nb cb na ca t1 T k G0 G EL i v lo hi w' := by
 intro i j hi hj hne hbs v lo hj2 w w' h hg
 match i, hi with
 | 0, _ | 1, _ | 2, _ | 3, _ | 4, _ | 5, _ | 6, _ | 7, _ | 10, _ | 11, _ =>
  simp only [PSLy5] at h ⊢
  exact h
 | 8, _ =>
  simp only [PSLy5] at h ⊢
  obtain ⟨g, h1, h2, h3⟩ := h
  refine ⟨g, h1, h2, h3.growx (GrowX.of_growC hg (Y := fun b => vl.ownBlock = some b) (fun k o h => h.2)) (fun q e hx => ?_)⟩
  rw [h1] at e
  have e2 : g = q := by simpa [Value.ownBlock] using e
  subst e2
  have := hv _ hx
  omega
 | 9, _ =>
  simp only [PSLy5] at h ⊢
  obtain ⟨ao, c, h1, h2, h3⟩ := h
  exact ⟨ao, c, h1, own_growx h2 (GrowX.of_growC hg (Y := fun _ => False) (fun k o h => hne h.1)) (fun _ _ h => h), h3⟩
 | (q + 12), hq => exact absurd hq (by omega)
section
variable {W0 w w' : World} {A : Adr} {c : Cf} {σ : St} {S : Nat → Prop} {vl vo : Value} {EL : List Le} {EO : List Te} {K S1 : Nat → Prop} {X : Nat → Prop}
set_option maxRecDepth 100000 in
set_option maxHeartbeats 3200000 in
theorem lay_full (h : SvAt W0 w A c σ vl vo EL EO K S1) (r : Rc) (hs : r.small) (ab aa : Option Addr) (nb cb na ca : Nat) (hnb : r.before.length = nb) (hna : r.after.length = na) (hrb : Reads 1 w (.slice ab nb cb) nb (r.before.map B)) (hra : Reads 1 w (.slice aa na ca) na (r.after.map B)) (hr : σ.io.R.room c.n < r.size) :
  Calls Tryz.prog 55 #[.pointer (some ⟨A.sb, 0, none⟩), .agg (recC r ab aa nb cb na ca)] w fun e w' => ∃ S1', e = .returned (.tuple #[.int .i64 0, .int .i64 60]) ∧ SvAt W0 w' A c σ vl vo EL EO K S1' ∧ Foot (sfoot S1 vl vo EO K) (sfoot S1' vl vo EO K) w w' := by
 have HS := Lib.hid hs
 have hal : Below w.heap.size w (w.alloc (.cells (recC r ab aa nb cb na ca) 85)) := (Below.refl _ _).alloc (Nat.le_refl _) _
 have hsv1 := h.below hal
 have hbx := Box.new w (recC r ab aa nb cb na ca) 85 rfl
 have hrb1 : Reads 1 (w.alloc (.cells (recC r ab aa nb cb na ca) 85)) (.slice ab nb cb) nb (r.before.map B) := hrb.below hal (Nat.le_refl _)
 have hra1 : Reads 1 (w.alloc (.cells (recC r ab aa nb cb na ca) 85)) (.slice aa na ca) na (r.after.map B) := hra.below hal (Nat.le_refl _)
 obtain ⟨t1, ht1⟩ : ∃ x, w.heap.size = x := ⟨_, rfl⟩
 have HALB := Lib.hid hal
 have HLT := Lib.hid h.lt
 have HT1 := Lib.hid ht1
 have HNB := Lib.hid hnb
 have HNA := Lib.hid hna
 clear hrb hra h hal hs hnb hna
 go_enter Tryz.func55, Tryz.ntmps55
 go_upto_region 1 with (fail)
 rw [ht1] at hbx
 have HFULL := Lib.hid hr
 clear hr
 have HAL0 := Lib.hid HALB.out
 generalize w.alloc (.cells (recC r ab aa nb cb na ca) 85) = w1 at *
 have bt : Box w1 t1 [.int .i64 (r.kind : Nat), .int .i64 (r.txn : Nat), .int .i64 (r.prev : Nat), .int .i64 (r.next : Nat), .int .i64 (r.page : Nat), .int .i64 (r.off : Nat), .slice ab nb cb, .slice aa na ca, .slice none 0 0, .slice none 0 0, .int .i64 (r.count : Nat)] := hbx
 clear hbx
 obtain ⟨S2, hrg, hsub, hc, hput⟩ := hsv1.sp.putRg
 obtain ⟨vb, hat⟩ := hrg.at
 have hcall := rtail_at hat hrg.ok.top
 have htop := hrg.ok.top
 have HC := Lib.hid hcall
 obtain ⟨T, hT⟩ : ∃ x, σ.io.R.tail = x := ⟨_, rfl⟩
 have HT := Lib.hid hT
 rw [hT] at HC htop
 have c1 := hsv1.sbx.cell 1 _ rfl
 have clt := hsv1.sbx.lt
 have HS1 := Lib.hid hsv1
 have HBT := Lib.hid bt
 have HR1 := Lib.hid hrb1
 have HR2 := Lib.hid hra1
 clear hcall hrg hat hsub hput hc hT hsv1 bt hrb1 hra1
 go_upto_region 2 with (first | (refine HC.out.mono ?_; rintro e y ⟨rfl, hq⟩; have HQ := Lib.hid hq.below; clear hq) | fail)
 have hsv2 := HS1.out.below HQ.out
 have bs : Box y A.sb [.pointer (some ⟨A.d, 0, none⟩), .pointer (some ⟨A.r, 0, none⟩), .pointer (some ⟨A.f, 0, none⟩), .pointer (some ⟨A.g, 0, none⟩), vl, vo, .int .i64 (σ.master : Nat), .int .i64 (σ.next : Nat), .int .i64 (σ.commits : Nat), .bool false, .int .i64 (σ.redone : Nat), .int .i64 (σ.undone : Nat)] := hsv2.sbx
 have bt : Box y t1 [.int .i64 (r.kind : Nat), .int .i64 (r.txn : Nat), .int .i64 (r.prev : Nat), .int .i64 (r.next : Nat), .int .i64 (r.page : Nat), .int .i64 (r.off : Nat), .slice ab nb cb, .slice aa na ca, .slice none 0 0, .slice none 0 0, .int .i64 (r.count : Nat)] := HBT.out.below HQ.out (Nat.le_refl _)
 have hR1 : Reads 1 y (.slice ab nb cb) nb (r.before.map B) := HR1.out.below HQ.out (Nat.le_refl _)
 have hR2 : Reads 1 y (.slice aa na ca) na (r.after.map B) := HR2.out.below HQ.out (Nat.le_refl _)
 have HRB := Lib.hid hR1
 have HRA := Lib.hid hR2
 have HS2 := Lib.hid hsv2
 have hB : Below y.heap.size y y := Below.refl _ _
 clear hR1 hR2 hsv2 c1 clt
 refine wp_region_partsDC (WSLy2 A σ vl vo r ab aa nb cb na ca t1 (y.heap.size)) 6 [[], [0], [0, 1], [0, 1, 2], [], [4]] [some 14, some 15, some 16, some 17, some 18, some 19, some 20, some 7] (by kernel_rfl) (by kernel_rfl) rfl (PSLy2 A σ vl vo r ab aa nb cb na ca t1 (y.heap.size)) (PSLy2_stable A σ vl vo r ab aa nb cb na ca t1 (y.heap.size) ) ?pSLy2 ?_
 case pSLy2 =>
  intro i hi o ho vs lo hx_ w' hg hp
  match i, hi with
  | 0, _ =>
   obtain rfl := Option.some.inj ho
   clear ho
   simp only [actsD, Act.put, actL]
   have hsz := hg.size
   have hgB : Below y.heap.size y w' := hg.below (fun k hk => ⟨hk, fun o => by rintro ⟨j, _, _, _, hw⟩; exact False.elim hw⟩)
   go_wp2
   exact ⟨_, rfl, GrowC.refl _, rfl⟩
  | 1, _ =>
   obtain rfl := Option.some.inj ho
   clear ho
   simp only [actsD, Act.put, actL]
   obtain ⟨_, _, _, h0⟩ := hp 0 (by simp)
   simp only [PSLy2] at h0
   have hsz := hg.size
   have hgB : Below y.heap.size y w' := hg.below (fun k hk => ⟨hk, fun o => by rintro ⟨j, _, _, _, hw⟩; exact False.elim hw⟩)
   rw [h0]
   go_wp2
   exact ⟨_, rfl, GrowC.refl _, rfl⟩
  | 2, _ =>
   obtain rfl := Option.some.inj ho
   clear ho
   simp only [actsD, Act.put, actL]
   obtain ⟨_, _, _, h1⟩ := hp 1 (by simp)
   simp only [PSLy2] at h1
   have hsz := hg.size
   have hgB : Below y.heap.size y w' := hg.below (fun k hk => ⟨hk, fun o => by rintro ⟨j, _, _, _, hw⟩; exact False.elim hw⟩)
   rw [h1]
   go_wp2
   exact ⟨_, rfl, GrowC.refl _, rfl⟩
  | 3, _ =>
   obtain rfl := Option.some.inj ho
   clear ho
   simp only [actsD, Act.put, actL]
   obtain ⟨_, _, _, h2⟩ := hp 2 (by simp)
   simp only [PSLy2] at h2
   have hsz := hg.size
   have hgB : Below y.heap.size y w' := hg.below (fun k hk => ⟨hk, fun o => by rintro ⟨j, _, _, _, hw⟩; exact False.elim hw⟩)
   rw [h2]
   have e0 := (hg.cell (A.sb) 1 bs.lt (by rintro ⟨j, _, hne, hb, hw⟩; exact False.elim hw)).trans (bs.cell 1 _ rfl)
   go_wp2
   exact ⟨_, rfl, GrowC.refl _, rfl⟩
  | 4, _ =>
   obtain rfl := Option.some.inj ho
   clear ho
   simp only [actsD, Act.put, actL]
   have hsz := hg.size
   have hgB : Below y.heap.size y w' := hg.below (fun k hk => ⟨hk, fun o => by rintro ⟨j, _, _, _, hw⟩; exact False.elim hw⟩)
   have e0 := (hg.cell (t1) 0 bt.lt (by rintro ⟨j, _, hne, hb, hw⟩; exact False.elim hw)).trans (bt.cell 0 _ rfl)
   have e1 := (hg.cell (t1) 1 bt.lt (by rintro ⟨j, _, hne, hb, hw⟩; exact False.elim hw)).trans (bt.cell 1 _ rfl)
   have e2 := (hg.cell (t1) 2 bt.lt (by rintro ⟨j, _, hne, hb, hw⟩; exact False.elim hw)).trans (bt.cell 2 _ rfl)
   have e3 := (hg.cell (t1) 3 bt.lt (by rintro ⟨j, _, hne, hb, hw⟩; exact False.elim hw)).trans (bt.cell 3 _ rfl)
   have e4 := (hg.cell (t1) 4 bt.lt (by rintro ⟨j, _, hne, hb, hw⟩; exact False.elim hw)).trans (bt.cell 4 _ rfl)
   have e5 := (hg.cell (t1) 5 bt.lt (by rintro ⟨j, _, hne, hb, hw⟩; exact False.elim hw)).trans (bt.cell 5 _ rfl)
   have e6 := (hg.cell (t1) 6 bt.lt (by rintro ⟨j, _, hne, hb, hw⟩; exact False.elim hw)).trans (bt.cell 6 _ rfl)
   have e7 := (hg.cell (t1) 7 bt.lt (by rintro ⟨j, _, hne, hb, hw⟩; exact False.elim hw)).trans (bt.cell 7 _ rfl)
   have e8 := (hg.cell (t1) 8 bt.lt (by rintro ⟨j, _, hne, hb, hw⟩; exact False.elim hw)).trans (bt.cell 8 _ rfl)
   have e9 := (hg.cell (t1) 9 bt.lt (by rintro ⟨j, _, hne, hb, hw⟩; exact False.elim hw)).trans (bt.cell 9 _ rfl)
   have e10 := (hg.cell (t1) 10 bt.lt (by rintro ⟨j, _, hne, hb, hw⟩; exact False.elim hw)).trans (bt.cell 10 _ rfl)
   go_wp2
   exact ⟨_, rfl, GrowC.refl _, rfl⟩
  | 5, _ =>
   obtain rfl := Option.some.inj ho
   clear ho
   simp only [actsD, Act.put, actL]
   obtain ⟨_, _, _, h4⟩ := hp 4 (by simp)
   simp only [PSLy2] at h4
   have hsz := hg.size
   have hgB : Below y.heap.size y w' := hg.below (fun k hk => ⟨hk, fun o => by rintro ⟨j, _, _, _, hw⟩; exact False.elim hw⟩)
   rw [h4]
   have hcall := recenc_any r ab aa nb cb na ca HS.out HNB.out HNA.out (HRB.out.below hgB (Nat.le_refl _)) (HRA.out.below hgB (Nat.le_refl _))
   have HCA := Lib.hid hcall
   clear hcall
   go_wp2_with fail
   refine HCA.out.mono ?_
   rintro e wh ⟨ao, c, rfl, ho, hbl⟩
   go_wp2
   exact ⟨_, rfl, GrowC.of_grow ⟨hbl.os, hbl.tape, hbl.output, hbl.size, hbl.block⟩, ao, c, rfl, own_base ho hgB.size⟩
  | (q + 6), hq => exact absurd hq (by omega)
 intro vS lo hi z hg hp hd
 obtain ⟨_, _, _, h0⟩ := hp 0 (by decide)
 obtain ⟨_, _, _, h1⟩ := hp 1 (by decide)
 obtain ⟨_, _, _, h2⟩ := hp 2 (by decide)
 obtain ⟨_, _, _, h3⟩ := hp 3 (by decide)
 obtain ⟨_, _, _, h4⟩ := hp 4 (by decide)
 obtain ⟨_, _, _, h5⟩ := hp 5 (by decide)
 simp only [PSLy2] at h0 h1 h2 h3 h4 h5
 clear hp hd
 have hsz := hg.size
 replace bs := bs.grow hg (by intro i _; rintro ⟨j, _, hw⟩; exact False.elim hw)
 replace bt := bt.grow hg (by intro i _; rintro ⟨j, _, hw⟩; exact False.elim hw)
 replace hB := hB.trans (hg.below (fun k hk => ⟨by omega, fun o => by rintro ⟨j, _, hw⟩; exact False.elim hw⟩))
 have hr : List.range 6 = [0, 1, 2, 3, 4, 5] := rfl
 rw [hr]
 clear hr
 simp only [List.drop_succ_cons, List.drop_zero, List.drop_nil, actsD, Act.put, actL, h0, h1, h2, h3, h4]
 clear h0 h1 h2 h3 h4
 obtain ⟨ao, cc, h5a, h5b⟩ := h5
 rw [h5a]
 have HE := Lib.hid h5b
 have HB3 := Lib.hid hB
 have HS4 := Lib.hid (HS2.out.below hB)
 have c1 := bs.cell 1 _ rfl
 have clt := bs.lt
 have HBTw := Lib.hid bt
 clear h5a h5b bs bt hB hg
 obtain ⟨S5, hrg5, hsub5, hc5, hput5⟩ := HS4.out.sp.putRg
 obtain ⟨vb5, hat5⟩ := hrg5.at
 have hcall := rappend_full hat5 hrg5.ok ao r.size cc HFULL.out
 have HCA := Lib.hid hcall
 clear hcall hrg5 hsub5 hc5 hput5 hat5
 go_wp2_with fail
 refine HCA.out.mono ?_
 rintro e y5 ⟨rfl, hq5⟩
 have hsv5 := HS4.out.below hq5.below
 have hcall := told_at hsv5 60 (.inr rfl)
 have HCT := Lib.hid hcall
 have HB5 := Lib.hid hq5.below
 clear hcall hq5 hsv5
 go_wp2_with fail
 refine HCT.out.mono ?_
 rintro e y6 ⟨S6, rfl, hsv6, hf6⟩
 have HS6 := Lib.hid hsv6
 have HF6 := Lib.hid hf6
 clear hsv6 hf6
 go_wp2_with fail
 go_ret2
 refine ⟨S6, rfl, HS6.out, ?_⟩
 exact ((Foot.below (grow_below HAL0.out)).trans ((Foot.below (grow_below HQ.out)).trans ((Foot.below (grow_below HB3.out)).trans (Foot.below (grow_below HB5.out))))).trans HF6.out
set_option maxRecDepth 100000 in
set_option maxHeartbeats 6400000 in
theorem lay_at (h : SvAt W0 w A c σ vl vo EL EO K S1) (r : Rc) (hs : r.small) (ab aa : Option Addr) (nb cb na ca : Nat) (hnb : r.before.length = nb) (hna : r.after.length = na) (hrb : Reads 1 w (.slice ab nb cb) nb (r.before.map B)) (hra : Reads 1 w (.slice aa na ca) na (r.after.map B)) (hr : r.size ≤ σ.io.R.room c.n) (ht : σ.io.R.tail + r.size ≤ 1099511627775) (hl : EL.length ≤ 1073741824)
  (Kn : Nat → Prop) (kb : ∀ q, (Value.slice ab nb cb).ownBlock = some q → Kn q) (ka : ∀ q, (Value.slice aa na ca).ownBlock = some q → Kn q) (kr : ∀ k, Kn k → W0.heap.size ≤ k ∧ k < w.heap.size) (k1 : Disj Kn S1) (k2 : Disj Kn (ownS vl)) (k3 : Disj Kn (TxFoot vo EO)) :
  Calls Tryz.prog 55 #[.pointer (some ⟨A.sb, 0, none⟩), .agg (recC r ab aa nb cb na ca)] w fun e w' => ∃ vl' S1', e = .returned (.tuple #[.int .i64 ((σ.io.R.tail + 1 : Nat) : Int), .int .i64 0]) ∧
   SvAt W0 w' A c { σ with io := { σ.io with R := σ.io.R.app r.enc }, lines := σ.lines ++ [(σ.io.R.tail + 1, r)] } vl' vo (EL ++ [⟨σ.io.R.tail + 1, r, .slice ab nb cb, .slice aa na ca⟩]) EO (fun k => K k ∨ Kn k) S1' ∧
   GrowX (fun k => S1 k ∨ ownS vl k) w w' ∧ (∀ k, S1' k → S1 k ∨ w.heap.size ≤ k) ∧ (∀ q, ownS vl' q → ownS vl q ∨ w.heap.size ≤ q) := by
 have HKB := Lib.hid kb
 have HKA := Lib.hid ka
 have HKR := Lib.hid kr
 have HK1 := Lib.hid k1
 have HK2 := Lib.hid k2
 have HK3 := Lib.hid k3
 have HL := Lib.hid hl
 have HFIT := Lib.hid hr
 have HTOP := Lib.hid ht
 have HRR := Lib.hid hrb
 have HRS := Lib.hid hra
 clear kb ka kr k1 k2 k3 hl hr ht
 have HS := Lib.hid hs
 have hal : Below w.heap.size w (w.alloc (.cells (recC r ab aa nb cb na ca) 85)) := (Below.refl _ _).alloc (Nat.le_refl _) _
 have hsv1 := h.below hal
 have hbx := Box.new w (recC r ab aa nb cb na ca) 85 rfl
 have hrb1 : Reads 1 (w.alloc (.cells (recC r ab aa nb cb na ca) 85)) (.slice ab nb cb) nb (r.before.map B) := hrb.below hal (Nat.le_refl _)
 have hra1 : Reads 1 (w.alloc (.cells (recC r ab aa nb cb na ca) 85)) (.slice aa na ca) na (r.after.map B) := hra.below hal (Nat.le_refl _)
 obtain ⟨t1, ht1⟩ : ∃ x, w.heap.size = x := ⟨_, rfl⟩
 have HALB := Lib.hid hal
 have HLT := Lib.hid h.lt
 have HT1 := Lib.hid ht1
 have HNB := Lib.hid hnb
 have HNA := Lib.hid hna
 clear hrb hra h hal hs hnb hna
 go_enter Tryz.func55, Tryz.ntmps55
 go_upto_region 1 with (fail)
 rw [ht1] at hbx
 have HAL0 := Lib.hid HALB.out
 generalize w.alloc (.cells (recC r ab aa nb cb na ca) 85) = w1 at *
 have bt : Box w1 t1 [.int .i64 (r.kind : Nat), .int .i64 (r.txn : Nat), .int .i64 (r.prev : Nat), .int .i64 (r.next : Nat), .int .i64 (r.page : Nat), .int .i64 (r.off : Nat), .slice ab nb cb, .slice aa na ca, .slice none 0 0, .slice none 0 0, .int .i64 (r.count : Nat)] := hbx
 clear hbx
 obtain ⟨S2, hrg, hsub, hc, hput⟩ := hsv1.sp.putRg
 obtain ⟨vb, hat⟩ := hrg.at
 have hcall := rtail_at hat hrg.ok.top
 have htop := hrg.ok.top
 have HC := Lib.hid hcall
 obtain ⟨T, hT⟩ : ∃ x, σ.io.R.tail = x := ⟨_, rfl⟩
 have HT := Lib.hid hT
 rw [hT] at HC htop
 have c1 := hsv1.sbx.cell 1 _ rfl
 have clt := hsv1.sbx.lt
 have HS1 := Lib.hid hsv1
 have HBT := Lib.hid bt
 have HR1 := Lib.hid hrb1
 have HR2 := Lib.hid hra1
 clear hcall hrg hat hsub hput hc hT hsv1 bt hrb1 hra1
 go_upto_region 2 with (first | (refine HC.out.mono ?_; rintro e y ⟨rfl, hq⟩; have HQ := Lib.hid hq.below; clear hq) | fail)
 have hsv2 := HS1.out.below HQ.out
 have bs : Box y A.sb [.pointer (some ⟨A.d, 0, none⟩), .pointer (some ⟨A.r, 0, none⟩), .pointer (some ⟨A.f, 0, none⟩), .pointer (some ⟨A.g, 0, none⟩), vl, vo, .int .i64 (σ.master : Nat), .int .i64 (σ.next : Nat), .int .i64 (σ.commits : Nat), .bool false, .int .i64 (σ.redone : Nat), .int .i64 (σ.undone : Nat)] := hsv2.sbx
 have bt : Box y t1 [.int .i64 (r.kind : Nat), .int .i64 (r.txn : Nat), .int .i64 (r.prev : Nat), .int .i64 (r.next : Nat), .int .i64 (r.page : Nat), .int .i64 (r.off : Nat), .slice ab nb cb, .slice aa na ca, .slice none 0 0, .slice none 0 0, .int .i64 (r.count : Nat)] := HBT.out.below HQ.out (Nat.le_refl _)
 have hR1 : Reads 1 y (.slice ab nb cb) nb (r.before.map B) := HR1.out.below HQ.out (Nat.le_refl _)
 have hR2 : Reads 1 y (.slice aa na ca) na (r.after.map B) := HR2.out.below HQ.out (Nat.le_refl _)
 have HRB := Lib.hid hR1
 have HRA := Lib.hid hR2
 have HS2 := Lib.hid hsv2
 have hB : Below y.heap.size y y := Below.refl _ _
 clear hR1 hR2 hsv2 c1 clt
 refine wp_region_partsDC (WSLy2 A σ vl vo r ab aa nb cb na ca t1 (y.heap.size)) 6 [[], [0], [0, 1], [0, 1, 2], [], [4]] [some 14, some 15, some 16, some 17, some 18, some 19, some 20, some 7] (by kernel_rfl) (by kernel_rfl) rfl (PSLy2 A σ vl vo r ab aa nb cb na ca t1 (y.heap.size)) (PSLy2_stable A σ vl vo r ab aa nb cb na ca t1 (y.heap.size) ) ?pSLy2 ?_
 case pSLy2 =>
  intro i hi o ho vs lo hx_ w' hg hp
  match i, hi with
  | 0, _ =>
   obtain rfl := Option.some.inj ho
   clear ho
   simp only [actsD, Act.put, actL]
   have hsz := hg.size
   have hgB : Below y.heap.size y w' := hg.below (fun k hk => ⟨hk, fun o => by rintro ⟨j, _, _, _, hw⟩; exact False.elim hw⟩)
   go_wp2
   exact ⟨_, rfl, GrowC.refl _, rfl⟩
  | 1, _ =>
   obtain rfl := Option.some.inj ho
   clear ho
   simp only [actsD, Act.put, actL]
   obtain ⟨_, _, _, h0⟩ := hp 0 (by simp)
   simp only [PSLy2] at h0
   have hsz := hg.size
   have hgB : Below y.heap.size y w' := hg.below (fun k hk => ⟨hk, fun o => by rintro ⟨j, _, _, _, hw⟩; exact False.elim hw⟩)
   rw [h0]
   go_wp2
   exact ⟨_, rfl, GrowC.refl _, rfl⟩
  | 2, _ =>
   obtain rfl := Option.some.inj ho
   clear ho
   simp only [actsD, Act.put, actL]
   obtain ⟨_, _, _, h1⟩ := hp 1 (by simp)
   simp only [PSLy2] at h1
   have hsz := hg.size
   have hgB : Below y.heap.size y w' := hg.below (fun k hk => ⟨hk, fun o => by rintro ⟨j, _, _, _, hw⟩; exact False.elim hw⟩)
   rw [h1]
   go_wp2
   exact ⟨_, rfl, GrowC.refl _, rfl⟩
  | 3, _ =>
   obtain rfl := Option.some.inj ho
   clear ho
   simp only [actsD, Act.put, actL]
   obtain ⟨_, _, _, h2⟩ := hp 2 (by simp)
   simp only [PSLy2] at h2
   have hsz := hg.size
   have hgB : Below y.heap.size y w' := hg.below (fun k hk => ⟨hk, fun o => by rintro ⟨j, _, _, _, hw⟩; exact False.elim hw⟩)
   rw [h2]
   have e0 := (hg.cell (A.sb) 1 bs.lt (by rintro ⟨j, _, hne, hb, hw⟩; exact False.elim hw)).trans (bs.cell 1 _ rfl)
   go_wp2
   exact ⟨_, rfl, GrowC.refl _, rfl⟩
  | 4, _ =>
   obtain rfl := Option.some.inj ho
   clear ho
   simp only [actsD, Act.put, actL]
   have hsz := hg.size
   have hgB : Below y.heap.size y w' := hg.below (fun k hk => ⟨hk, fun o => by rintro ⟨j, _, _, _, hw⟩; exact False.elim hw⟩)
   have e0 := (hg.cell (t1) 0 bt.lt (by rintro ⟨j, _, hne, hb, hw⟩; exact False.elim hw)).trans (bt.cell 0 _ rfl)
   have e1 := (hg.cell (t1) 1 bt.lt (by rintro ⟨j, _, hne, hb, hw⟩; exact False.elim hw)).trans (bt.cell 1 _ rfl)
   have e2 := (hg.cell (t1) 2 bt.lt (by rintro ⟨j, _, hne, hb, hw⟩; exact False.elim hw)).trans (bt.cell 2 _ rfl)
   have e3 := (hg.cell (t1) 3 bt.lt (by rintro ⟨j, _, hne, hb, hw⟩; exact False.elim hw)).trans (bt.cell 3 _ rfl)
   have e4 := (hg.cell (t1) 4 bt.lt (by rintro ⟨j, _, hne, hb, hw⟩; exact False.elim hw)).trans (bt.cell 4 _ rfl)
   have e5 := (hg.cell (t1) 5 bt.lt (by rintro ⟨j, _, hne, hb, hw⟩; exact False.elim hw)).trans (bt.cell 5 _ rfl)
   have e6 := (hg.cell (t1) 6 bt.lt (by rintro ⟨j, _, hne, hb, hw⟩; exact False.elim hw)).trans (bt.cell 6 _ rfl)
   have e7 := (hg.cell (t1) 7 bt.lt (by rintro ⟨j, _, hne, hb, hw⟩; exact False.elim hw)).trans (bt.cell 7 _ rfl)
   have e8 := (hg.cell (t1) 8 bt.lt (by rintro ⟨j, _, hne, hb, hw⟩; exact False.elim hw)).trans (bt.cell 8 _ rfl)
   have e9 := (hg.cell (t1) 9 bt.lt (by rintro ⟨j, _, hne, hb, hw⟩; exact False.elim hw)).trans (bt.cell 9 _ rfl)
   have e10 := (hg.cell (t1) 10 bt.lt (by rintro ⟨j, _, hne, hb, hw⟩; exact False.elim hw)).trans (bt.cell 10 _ rfl)
   go_wp2
   exact ⟨_, rfl, GrowC.refl _, rfl⟩
  | 5, _ =>
   obtain rfl := Option.some.inj ho
   clear ho
   simp only [actsD, Act.put, actL]
   obtain ⟨_, _, _, h4⟩ := hp 4 (by simp)
   simp only [PSLy2] at h4
   have hsz := hg.size
   have hgB : Below y.heap.size y w' := hg.below (fun k hk => ⟨hk, fun o => by rintro ⟨j, _, _, _, hw⟩; exact False.elim hw⟩)
   rw [h4]
   have hcall := recenc_any r ab aa nb cb na ca HS.out HNB.out HNA.out (HRB.out.below hgB (Nat.le_refl _)) (HRA.out.below hgB (Nat.le_refl _))
   have HCA := Lib.hid hcall
   clear hcall
   go_wp2_with fail
   refine HCA.out.mono ?_
   rintro e wh ⟨ao, c, rfl, ho, hbl⟩
   go_wp2
   exact ⟨_, rfl, GrowC.of_grow ⟨hbl.os, hbl.tape, hbl.output, hbl.size, hbl.block⟩, ao, c, rfl, own_base ho hgB.size⟩
  | (q + 6), hq => exact absurd hq (by omega)
 intro vS lo hi z hg hp hd
 obtain ⟨_, _, _, h0⟩ := hp 0 (by decide)
 obtain ⟨_, _, _, h1⟩ := hp 1 (by decide)
 obtain ⟨_, _, _, h2⟩ := hp 2 (by decide)
 obtain ⟨_, _, _, h3⟩ := hp 3 (by decide)
 obtain ⟨_, _, _, h4⟩ := hp 4 (by decide)
 obtain ⟨_, _, _, h5⟩ := hp 5 (by decide)
 simp only [PSLy2] at h0 h1 h2 h3 h4 h5
 clear hp hd
 have hsz := hg.size
 replace bs := bs.grow hg (by intro i _; rintro ⟨j, _, hw⟩; exact False.elim hw)
 replace bt := bt.grow hg (by intro i _; rintro ⟨j, _, hw⟩; exact False.elim hw)
 replace hB := hB.trans (hg.below (fun k hk => ⟨by omega, fun o => by rintro ⟨j, _, hw⟩; exact False.elim hw⟩))
 have hr : List.range 6 = [0, 1, 2, 3, 4, 5] := rfl
 rw [hr]
 clear hr
 simp only [List.drop_succ_cons, List.drop_zero, List.drop_nil, actsD, Act.put, actL, h0, h1, h2, h3, h4]
 clear h0 h1 h2 h3 h4
 obtain ⟨ao, cc, h5a, h5b⟩ := h5
 rw [h5a]
 have HE := Lib.hid h5b
 have HB3 := Lib.hid hB
 have HS4 := Lib.hid (HS2.out.below hB)
 have c1 := bs.cell 1 _ rfl
 have clt := bs.lt
 have HBTw := Lib.hid bt
 clear h5a h5b bs bt hB hg
 obtain ⟨S5, hrg5, hsub5, hc5, hput5⟩ := HS4.out.sp.putRg
 have henc : r.enc.length = r.size := by
  have e1 := HE.out.1
  rw [List.length_map] at e1; omega
 have hcall := rapp_rg hrg5 r.enc ao r.size cc (Reads.of_own HE.out) henc HFIT.out (Nat.le_trans HTOP.out (by decide))
 have HCA := Lib.hid hcall
 have HP5 := Lib.hid hput5
 have HC5 := Lib.hid hc5
 clear hcall hrg5 hsub5 hc5 hput5 henc
 go_wp2_with fail
 refine HCA.out.mono ?_
 rintro e y5 ⟨S6, rfl, hrg6, hf6⟩
 obtain ⟨S7, hsp7, hf7⟩ := HP5.out _ _ _ hrg6 HC5.out rfl hf6
 obtain ⟨hsv7, hff7⟩ := HS4.out.putS (σ' := { σ with io := { σ.io with R := σ.io.R.app r.enc } }) hsp7 hf7 rfl rfl
 have HS7 := Lib.hid hsv7
 have HF7 := Lib.hid hf7
 have hb7 : Below w1.heap.size w1 y5 ∨ True := .inr trivial
 clear hrg6 hf6 hff7 c1 clt hb7
 have bs : Box y5 A.sb [.pointer (some ⟨A.d, 0, none⟩), .pointer (some ⟨A.r, 0, none⟩), .pointer (some ⟨A.f, 0, none⟩), .pointer (some ⟨A.g, 0, none⟩), vl, vo, .int .i64 (σ.master : Nat), .int .i64 (σ.next : Nat), .int .i64 (σ.commits : Nat), .bool false, .int .i64 (σ.redone : Nat), .int .i64 (σ.undone : Nat)] := hsv7.sbx
 have hsz14 : w.heap.size < w1.heap.size := by rw [HT1.out]; exact HBT.out.lt
 have hnS : ¬ S1 t1 := fun hk => by have := (HLT.out t1 (.inl hk)).2; have := HT1.out; omega
 have hnl : vl.ownBlock ≠ some t1 := fun hk => by have := (HLT.out t1 (.inr (.inl hk))).2; have := HT1.out; omega
 have bt : Box y5 t1 [.int .i64 (r.kind : Nat), .int .i64 (r.txn : Nat), .int .i64 (r.prev : Nat), .int .i64 (r.next : Nat), .int .i64 (r.page : Nat), .int .i64 (r.off : Nat), .slice ab nb cb, .slice aa na ca, .slice none 0 0, .slice none 0 0, .int .i64 (r.count : Nat)] := HBTw.out.growx hf7.grow hnS
 have hns : vl.ownBlock ≠ some A.sb := fun hk => hsv7.d1 _ hsv7.sbS hk
 have hlt7 : ∀ q, vl.ownBlock = some q → q < y5.heap.size := fun q e => (hsv7.ln.row.lt q e).2
 obtain ⟨k, hk⟩ : ∃ x, EL.length = x := ⟨_, rfl⟩
 have hrow : y5.ownsRow W0.heap.size 87 12 vl k (lcells EL) := by rw [← hk]; exact hsv7.ln.row
 have HROW := Lib.hid hrow
 have HK := Lib.hid hk
 have hk2 : k ≤ 1073741824 := by rw [← hk]; exact HL.out
 have hW0 : W0.heap.size ≤ y5.heap.size := hsv7.bel.size
 have hB : Below 0 y5 y5 := Below.refl _ _
 clear hsv7 hsp7 hf7 hrow hk
 go_upto_region 5 with (fail)
 refine wp_region_partsDC (WSLy5 A σ vl vo r ab aa nb cb na ca t1 T k (W0.heap.size) (y5.heap.size) EL) 12 [[], [], [1], [1, 2], [1, 2, 3], [], [], [5, 6], [5, 6, 7], [1, 2, 3, 4, 5, 6, 7, 8], [0, 1, 2, 3, 4, 5, 6, 7, 8, 9], [0, 1, 2, 3, 4, 5, 6, 7, 8, 9, 10]] [some 26, some 27, some 28, some 29, some 30, some 31, some 32, some 33, some 34, some 35, some 36, some 37, none] (by kernel_rfl) (by kernel_rfl) rfl (PSLy5 A σ vl vo r ab aa nb cb na ca t1 T k (W0.heap.size) (y5.heap.size) EL) (PSLy5_stable A σ vl vo r ab aa nb cb na ca t1 T k (W0.heap.size) (y5.heap.size) EL hlt7) ?pSLy5 ?_
 case pSLy5 =>
  intro i hi o ho vs lo hx_ w' hg hp
  match i, hi with
  | 0, _ | 1, _ | 5, _ =>
   obtain rfl := Option.some.inj ho
   clear ho
   simp only [actsD, Act.put, actL]
   have hsz := hg.size
   go_wp2
   exact ⟨_, rfl, GrowC.refl _, rfl⟩
  | 2, _ =>
   obtain rfl := Option.some.inj ho
   clear ho
   simp only [actsD, Act.put, actL]
   obtain ⟨_, _, _, h1⟩ := hp 1 (by simp)
   simp only [PSLy5] at h1
   have hsz := hg.size
   rw [h1]
   go_wp2
   exact ⟨_, rfl, GrowC.refl _, rfl⟩
  | 3, _ =>
   obtain rfl := Option.some.inj ho
   clear ho
   simp only [actsD, Act.put, actL]
   obtain ⟨_, _, _, h2⟩ := hp 2 (by simp)
   simp only [PSLy5] at h2
   have hsz := hg.size
   rw [h2]
   go_wp2
   exact ⟨_, rfl, GrowC.refl _, rfl⟩
  | 4, _ =>
   obtain rfl := Option.some.inj ho
   clear ho
   simp only [actsD, Act.put, actL]
   obtain ⟨_, _, _, h3⟩ := hp 3 (by simp)
   simp only [PSLy5] at h3
   have hsz := hg.size
   rw [h3]
   have e0 := (hg.cell (A.sb) 4 bs.lt (by rintro ⟨j, _, hne, hb, hw⟩; simp only [WSLy5] at hw; first | exact hns hw.2 | exact hnl hw.2)).trans (bs.cell 4 _ rfl)
   go_wp2
   exact ⟨_, rfl, GrowC.refl _, rfl⟩
  | 6, _ =>
   obtain rfl := Option.some.inj ho
   clear ho
   simp only [actsD, Act.put, actL]
   have hsz := hg.size
   have e0 := (hg.cell (t1) 0 bt.lt (by rintro ⟨j, _, hne, hb, hw⟩; simp only [WSLy5] at hw; first | exact hns hw.2 | exact hnl hw.2)).trans (bt.cell 0 _ rfl)
   have e1 := (hg.cell (t1) 1 bt.lt (by rintro ⟨j, _, hne, hb, hw⟩; simp only [WSLy5] at hw; first | exact hns hw.2 | exact hnl hw.2)).trans (bt.cell 1 _ rfl)
   have e2 := (hg.cell (t1) 2 bt.lt (by rintro ⟨j, _, hne, hb, hw⟩; simp only [WSLy5] at hw; first | exact hns hw.2 | exact hnl hw.2)).trans (bt.cell 2 _ rfl)
   have e3 := (hg.cell (t1) 3 bt.lt (by rintro ⟨j, _, hne, hb, hw⟩; simp only [WSLy5] at hw; first | exact hns hw.2 | exact hnl hw.2)).trans (bt.cell 3 _ rfl)
   have e4 := (hg.cell (t1) 4 bt.lt (by rintro ⟨j, _, hne, hb, hw⟩; simp only [WSLy5] at hw; first | exact hns hw.2 | exact hnl hw.2)).trans (bt.cell 4 _ rfl)
   have e5 := (hg.cell (t1) 5 bt.lt (by rintro ⟨j, _, hne, hb, hw⟩; simp only [WSLy5] at hw; first | exact hns hw.2 | exact hnl hw.2)).trans (bt.cell 5 _ rfl)
   have e6 := (hg.cell (t1) 6 bt.lt (by rintro ⟨j, _, hne, hb, hw⟩; simp only [WSLy5] at hw; first | exact hns hw.2 | exact hnl hw.2)).trans (bt.cell 6 _ rfl)
   have e7 := (hg.cell (t1) 7 bt.lt (by rintro ⟨j, _, hne, hb, hw⟩; simp only [WSLy5] at hw; first | exact hns hw.2 | exact hnl hw.2)).trans (bt.cell 7 _ rfl)
   have e8 := (hg.cell (t1) 8 bt.lt (by rintro ⟨j, _, hne, hb, hw⟩; simp only [WSLy5] at hw; first | exact hns hw.2 | exact hnl hw.2)).trans (bt.cell 8 _ rfl)
   have e9 := (hg.cell (t1) 9 bt.lt (by rintro ⟨j, _, hne, hb, hw⟩; simp only [WSLy5] at hw; first | exact hns hw.2 | exact hnl hw.2)).trans (bt.cell 9 _ rfl)
   have e10 := (hg.cell (t1) 10 bt.lt (by rintro ⟨j, _, hne, hb, hw⟩; simp only [WSLy5] at hw; first | exact hns hw.2 | exact hnl hw.2)).trans (bt.cell 10 _ rfl)
   go_wp2
   exact ⟨_, rfl, GrowC.refl _, rfl⟩
  | 7, _ =>
   obtain rfl := Option.some.inj ho
   clear ho
   simp only [actsD, Act.put, actL]
   obtain ⟨_, _, _, h5⟩ := hp 5 (by simp)
   simp only [PSLy5] at h5
   obtain ⟨_, _, _, h6⟩ := hp 6 (by simp)
   simp only [PSLy5] at h6
   have hsz := hg.size
   rw [h5, h6]
   go_wp2
   exact ⟨_, rfl, GrowC.refl _, rfl⟩
  | 8, _ =>
   obtain rfl := Option.some.inj ho
   clear ho
   simp only [actsD, Act.put, actL]
   obtain ⟨_, _, _, h7⟩ := hp 7 (by simp)
   simp only [PSLy5] at h7
   have hsz := hg.size
   rw [h7]
   have hbl := (Below.refl w'.heap.size w').alloc (Nat.le_refl _) (.cells #[.int .i64 ((T + 1 : Nat) : Int), .int .i64 (r.kind : Nat), .int .i64 (r.txn : Nat), .int .i64 (r.prev : Nat), .int .i64 (r.next : Nat), .int .i64 (r.page : Nat), .int .i64 (r.off : Nat), .slice ab nb cb, .slice aa na ca, .slice none 0 0, .slice none 0 0, .int .i64 (r.count : Nat)] 87)
   go_wp2
   exact ⟨_, rfl, GrowC.of_grow ⟨hbl.os, hbl.tape, hbl.output, hbl.size, hbl.block⟩, _, rfl, hsz, Reads.lit rfl rfl (Nat.le_refl _) rfl⟩
  | 9, _ =>
   obtain rfl := Option.some.inj ho
   clear ho
   simp only [actsD, Act.put, actL]
   obtain ⟨_, _, _, h4⟩ := hp 4 (by simp)
   simp only [PSLy5] at h4
   obtain ⟨_, _, _, h8⟩ := hp 8 (by simp)
   simp only [PSLy5] at h8
   have hsz := hg.size
   rw [h4]
   obtain ⟨g, h8a, h8b, h8c⟩ := h8
   rw [h8a]
   rw [h8a] at h8c
   have hgx : GrowX (fun _ => False) y5 w' := GrowX.of_growC hg (fun k o ⟨j, hj, hne, hb, hw⟩ => hne hw.1)
   have hown := own_growx HROW.out hgx (fun _ _ h => h)
   go_wp2_with (at_builtin; refine wpList_append_anyC linesOf (.tmp 30) (.tmp 34) rfl rfl rfl hown rfl h8c (by intro u hu; simp [lcell, recL] at hu; rcases hu with rfl | rfl | rfl | rfl | rfl | rfl | rfl | rfl | rfl | rfl | rfl <;> rfl) (by omega) (by omega) (by omega) ?_; intro ob cq wq ho2 hg2 hn2)
   exact ⟨_, rfl, hg2.mono (fun b o h => ⟨rfl, h⟩), ob, cq, rfl, ho2, fun q e => (hn2 q e).imp id (fun h => by omega)⟩
  | 10, _ =>
   obtain rfl := Option.some.inj ho
   clear ho
   simp only [actsD, Act.put, actL]
   obtain ⟨_, _, _, h0⟩ := hp 0 (by simp)
   simp only [PSLy5] at h0
   have hsz := hg.size
   rw [h0]
   go_wp2
   exact ⟨_, rfl, GrowC.refl _, rfl⟩
  | 11, _ =>
   obtain rfl := Option.some.inj ho
   clear ho
   simp only [actsD, Act.put, actL]
   obtain ⟨_, _, _, h10⟩ := hp 10 (by simp)
   simp only [PSLy5] at h10
   have hsz := hg.size
   rw [h10]
   go_wp2
   exact ⟨_, rfl, GrowC.refl _, rfl⟩
  | (q + 12), hq => exact absurd hq (by omega)
 intro vS lo hi z7 hg hp hd
 obtain ⟨_, _, _, h0⟩ := hp 0 (by decide)
 obtain ⟨_, _, _, h1⟩ := hp 1 (by decide)
 obtain ⟨_, _, _, h2⟩ := hp 2 (by decide)
 obtain ⟨_, _, _, h3⟩ := hp 3 (by decide)
 obtain ⟨_, _, _, h4⟩ := hp 4 (by decide)
 obtain ⟨_, _, _, h5⟩ := hp 5 (by decide)
 obtain ⟨_, _, _, h6⟩ := hp 6 (by decide)
 obtain ⟨_, _, _, h7⟩ := hp 7 (by decide)
 obtain ⟨_, _, _, h8⟩ := hp 8 (by decide)
 obtain ⟨_, _, _, h9⟩ := hp 9 (by decide)
 obtain ⟨_, _, _, h10⟩ := hp 10 (by decide)
 obtain ⟨_, _, _, h11⟩ := hp 11 (by decide)
 simp only [PSLy5] at h0 h1 h2 h3 h4 h5 h6 h7 h8 h9 h10 h11
 clear hp hd
 have hsz := hg.size
 have HGX : Hid (GrowX (fun b => vl.ownBlock = some b) y5 z7) := Lib.hid (GrowX.of_growC hg (fun k o ⟨j, _, hw⟩ => hw.2))
 replace bs := bs.grow hg (by intro i _; rintro ⟨j, _, hw⟩; simp only [WSLy5] at hw; first | exact hns hw.2 | exact hnl hw.2 | (have := hlt7 _ hw.2; omega))
 replace bt := bt.grow hg (by intro i _; rintro ⟨j, _, hw⟩; simp only [WSLy5] at hw; first | exact hns hw.2 | exact hnl hw.2 | (have := hlt7 _ hw.2; omega))
 replace hB := hB.trans (hg.below (fun k hk => ⟨by omega, fun o => by rintro ⟨j, _, hw⟩; simp only [WSLy5] at hw; first | exact hns hw.2 | exact hnl hw.2 | (have := hlt7 _ hw.2; omega)⟩))
 have hr : List.range 12 = [0, 1, 2, 3, 4, 5, 6, 7, 8, 9, 10, 11] := rfl
 rw [hr]
 clear hr
 simp only [List.drop_succ_cons, List.drop_zero, List.drop_nil, actsD, Act.put, actL, h0, h1, h2, h3, h4, h5, h6, h7, h10, h11]
 clear h0 h1 h2 h3 h4 h5 h6 h7 h10 h11
 obtain ⟨ol, cl, h9a, h9b, h9c⟩ := h9
 rw [h9a]
 have c4 := bs.cell 4 _ rfl
 have cfz := bs.free
 have clt := bs.lt
 have HO9 := Lib.hid h9b
 have HN9 := Lib.hid h9c
 clear h9a h9b h9c bs bt hB hg
 go_wp2_with fail
 go_ret2
 have hx := HGX.out
 have hs7 := HS7.out
 have hB8 : Below W0.heap.size W0 z7 := hs7.bel.trans (hx.below fun k hk => ⟨Nat.lt_of_lt_of_le hk hs7.bel.size, fun e => by have := (hs7.ln.row.lt k e).1; omega⟩)
 obtain ⟨S9, z1, z2⟩ := (hs7.sp.grow hx (fun k a b => hs7.d1 k a b) hB8).poke 4 (by decide) (.slice ol (k + 1) cl)
 have k3 := growX_setCell z7 A.sb 4 (.slice ol (k + 1) cl)
 have hsb : S1 A.sb := HS1.out.sbS
 have gb : ∀ {a b : World}, Below a.heap.size a b → GrowX (fun k => S1 k ∨ ownS vl k) a b := fun h => (grow_below h).mono (fun k (hk : False) => hk.elim)
 have hall : GrowX (fun k => S1 k ∨ ownS vl k) w (z7.setCell ⟨A.sb, 4, none⟩ (.slice ol (k + 1) cl)) := ((gb HAL0.out).trans ((gb HQ.out).trans ((gb HB3.out).trans (HF7.out.grow.mono (fun k hk => .inl hk))))).trans ((hx.mono (fun k hk => .inr hk)).trans (k3.mono (fun k hk => .inl (hk ▸ hsb))))
 have hSS : ∀ k, S9 k → S1 k ∨ w.heap.size ≤ k := fun k hk => (z2.new k hk).elim (fun hk => (HF7.out.new k hk).imp id (fun hk => by have := HQ.out.size; have := HB3.out.size; omega)) (fun hk => by have := hx.size; have := HF7.out.grow.size; have := HQ.out.size; have := HB3.out.size; omega)
 have hVV : ∀ q, ownS (.slice ol (k + 1) cl) q → ownS vl q ∨ w.heap.size ≤ q := fun q hq => (HN9.out q hq).imp id (fun hk => by have := HF7.out.grow.size; have := HQ.out.size; have := HB3.out.size; omega)
 have hnk : ∀ q, ownS (.slice ol (k + 1) cl) q → q ≠ A.sb := fun q hq e => (HN9.out q hq).elim (fun h => hns (e ▸ h)) (fun h => by have := hs7.sbx.lt; omega)
 have hxs := hx.size
 have hks := k3.size
 have hrl := HO9.out.lt
 refine ⟨.slice ol (k + 1) cl, S9, by rw [HT.out]; rfl, ⟨z1, ⟨?_, ?_, ?_⟩, by rw [List.map_append, ← hs7.lis]; rfl, (((hs7.tx.grow hx (fun k a b => hs7.d3 k b a) (fun k a b => hs7.k2 k a b)).grow k3 (fun k hk e => hs7.d2 k (by subst e; exact hs7.sbS) hk) (fun k hk e => hs7.k1 k hk (by subst e; exact hs7.sbS))).mono (fun _ h => .inl h)), hs7.ois, ?_, ?_, ?_, ?_, ?_, ?_, ?_⟩, hall, hSS, hVV⟩
 ·rw [lcells_append, List.length_append, HK.out]
  have e1 : lcells [⟨σ.io.R.tail + 1, r, .slice ab nb cb, .slice aa na ca⟩] = lcell ⟨T + 1, r, .slice ab nb cb, .slice aa na ca⟩ := by rw [HT.out]; simp [lcells]
  rw [e1]
  exact own_growx HO9.out k3 hnk
 ·intro e he
  rcases List.mem_append.1 he with he | he
  ·obtain ⟨t1, t2⟩ := hs7.ln.tb e he
   have f1 : ∀ k, K k → ¬ (k = A.sb) := fun k hk e => hs7.k1 k hk (by subst e; exact hs7.sbS)
   exact ⟨((t1.grow hx (fun k a b => hs7.k2 k a b)).grow k3 f1).mono (fun _ h => .inl h), ((t2.grow hx (fun k a b => hs7.k2 k a b)).grow k3 f1).mono (fun _ h => .inl h)⟩
  ·obtain rfl := List.mem_singleton.1 he
   have f2 : ∀ k, Kn k → ¬ (S1 k ∨ ownS vl k) := fun k hk h => h.elim (HK1.out k hk) (HK2.out k hk)
   have q1 : SecAt w Kn r.before (.slice ab nb cb) := ⟨by rw [HNB.out]; exact HRR.out, HKB.out⟩
   have q2 : SecAt w Kn r.after (.slice aa na ca) := ⟨by rw [HNA.out]; exact HRS.out, HKA.out⟩
   exact ⟨(q1.grow hall f2).mono (fun _ h => .inr h), (q2.grow hall f2).mono (fun _ h => .inr h)⟩
 ·intro e he
  rcases List.mem_append.1 he with he | he
  ·exact hs7.ln.sm e he
  ·obtain rfl := List.mem_singleton.1 he
   exact ⟨HS.out, by have := HTOP.out; show σ.io.R.tail + 1 ≤ _; omega⟩
 ·rintro k (hk | hk)
  ·exact ⟨(hs7.kin k hk).1, by have := (hs7.kin k hk).2; omega⟩
  ·exact ⟨(HKR.out k hk).1, Nat.lt_of_lt_of_le (HKR.out k hk).2 hall.size⟩
 ·intro k h1 h2
  rcases z2.new k h1 with h3 | h3
  ·rcases HN9.out k h2 with h4 | h4
   ·exact hs7.d1 k h3 h4
   ·have := (hs7.sp.lt k h3).2; omega
  ·have := (hrl k h2).2; omega
 ·intro k h1 h2
  rcases z2.new k h1 with h3 | h3
  ·exact hs7.d2 k h3 h2
  ·have := (hs7.tx.lt k h2).2; omega
 ·intro k h1 h2
  rcases HN9.out k h1 with h4 | h4
  ·exact hs7.d3 k h4 h2
  ·have := (hs7.tx.lt k h2).2; omega
 ·rintro k (h1 | h1) h2
  ·rcases z2.new k h2 with h3 | h3
   ·exact hs7.k1 k h1 h3
   ·have := (hs7.kin k h1).2; omega
  ·rcases hSS k h2 with h3 | h3
   ·exact HK1.out k h1 h3
   ·have := (HKR.out k h1).2; omega
 ·rintro k (h1 | h1) h2
  ·rcases HN9.out k h2 with h4 | h4
   ·exact hs7.k2 k h1 h4
   ·have := (hs7.kin k h1).2; omega
  ·rcases hVV k h2 with h3 | h3
   ·exact HK2.out k h1 h3
   ·have := (HKR.out k h1).2; omega
 ·rintro k (h1 | h1) h2
  ·exact hs7.k3 k h1 h2
  ·exact HK3.out k h1 h2
end
end
section
open Go.RowKit
theorem step0 (n fr : Nat) (s : Io) (l : Int) : ((Io.ops n fr).step s l).1 = 0 := by
 show (if _ then _ else _ : Int × Io).1 = 0
 split <;> rfl
section
variable (n fr : Nat) (p : Pq) (s : Io) (cs : List Value)
theorem clean_c (i : Nat) : p.clean (OpsC n fr) (s, cs) i = ((p.clean (Io.ops n fr) s i).1, (p.clean (Io.ops n fr) s i).2.1, ((p.clean (Io.ops n fr) s i).2.2, cs)) := by
 unfold Pq.clean
 rw [if_pos (step0 n fr s _)]
 rw [if_pos (show ((OpsC n fr).step (s, cs) _).1 = 0 from rfl)]
 split <;> rfl
theorem free_c : p.free (OpsC n fr) (s, cs) = ((p.free (Io.ops n fr) s).1, (p.free (Io.ops n fr) s).2.1, (p.free (Io.ops n fr) s).2.2.1, ((p.free (Io.ops n fr) s).2.2.2, cs)) := by
 unfold Pq.free
 split
 ·rfl
 ·rw [clean_c]; unfold Pq.freed; split <;> rfl
theorem evict_c (m : Int) : p.evict (OpsC n fr) (s, cs) m = ((p.evict (Io.ops n fr) s m).1, (p.evict (Io.ops n fr) s m).2.1, ((p.evict (Io.ops n fr) s m).2.2, cs)) := by
 unfold Pq.evict
 split
 ·rfl
 ·rw [clean_c]; split <;> rfl
theorem get_c (pg : Nat) (m : Int) : p.get (OpsC n fr) pg (s, cs) m = ((p.get (Io.ops n fr) pg s m).1, (p.get (Io.ops n fr) pg s m).2.1, (p.get (Io.ops n fr) pg s m).2.2.1, ((p.get (Io.ops n fr) pg s m).2.2.2, cs)) := by
 unfold Pq.get
 split
 ·rfl
 ·split
  ·rw [show (OpsC n fr).rd (s, cs) = ((Io.ops n fr).rd s, cs) from rfl, free_c]
   unfold Pq.got
   split <;> rfl
  ·rfl
theorem put_c (pg : Nat) (m : Int) (b : List UInt8) (l : Int) : p.put (OpsC n fr) pg (s, cs) m b l = ((p.put (Io.ops n fr) pg s m b l).1, (p.put (Io.ops n fr) pg s m b l).2.1, ((p.put (Io.ops n fr) pg s m b l).2.2, cs)) := by
 unfold Pq.put
 split
 ·split
  ·rfl
  ·rw [free_c]; split <;> rfl
 ·rfl
end
section
variable {W0 w w' : World} {A : Adr} {c : Cf} {σ : St} {S : Nat → Prop} {vl vo : Value} {EL : List Le} {EO : List Te} {K S1 : Nat → Prop} {X : Nat → Prop}
theorem sget_at (h : SvAt W0 w A c σ vl vo EL EO K S1) (q : Nat) (hq : q < c.pg) (hwr : σ.p.wr + 1 ≤ 1000000000) :
  Calls Tryz.prog 64 #[.pointer (some ⟨A.g, 0, none⟩), .int .i64 (q : Nat)] w fun e w' => ∃ v S1', e = .returned (.tuple #[v, .int .i64 (σ.get c q).1]) ∧
   ((σ.get c q).1 = 0 → w'.ownsRow w.heap.size 5 1 v 512 ((σ.get c q).2.1.map B) ∧ (σ.get c q).2.1.length = 512) ∧ (¬ (σ.get c q).1 = 0 → v = .slice none 0 0) ∧ (∀ k, v.ownBlock = some k → ¬ S1' k) ∧
   SvAt W0 w' A c (σ.get c q).2.2 vl vo EL EO K S1' ∧ Foot S1 S1' w w' := by
 have hio := h.sp.io
 have hc : Calls Tryz.prog 64 #[.pointer (some ⟨A.g, 0, none⟩), .int .i64 (q : Nat)] w (GetEnd W0 w A.g A.nf A.f c.pg (SFv A.cv) (IOV W0 A.r A.d A.f A.sb A.cv c.n c.fr c.pg) S1 (σ.p.get (OpsC c.n c.fr) c.pg (σ.io, scells A σ vl vo) (q : Nat))) := by
  cases hf : findL σ.p.F (q : Nat) with
  | some i => exact get_hit hio h.sp.1 _ i hf
  | none => exact get_new hio h.sp.1 q hq hf hwr
 refine hc.mono ?_
 rintro e w' ⟨v, S1', h1, h2, h3, h4, h5, h6⟩
 rw [get_c] at h1 h2 h3 h5
 obtain ⟨z1, z2⟩ := h.putS (σ' := (σ.get c q).2.2) (S1' := S1') ⟨h5, h.sp.2⟩ h6 rfl rfl
 exact ⟨v, S1', h1, h2, h3, h4, z1, h6⟩
theorem sput_at (h : SvAt W0 w A c σ vl vo EL EO K S1) (q : Nat) (hq : q < c.pg) (b : List UInt8) (hb : b.length = 512) (l : Nat) (hl : 1 ≤ l) (v : Value) (hv : Reads 1 w v 512 (b.map B)) (hsl : ∀ k, v.ownBlock = some k → ¬ S1 k) (hwr : σ.p.wr + 1 ≤ 1000000000) :
  Calls Tryz.prog 69 #[.pointer (some ⟨A.g, 0, none⟩), .int .i64 (q : Nat), v, .int .i64 (l : Nat)] w fun e w' => ∃ S1', e = .returned (.int .i64 (σ.put c q b l).1) ∧ SvAt W0 w' A c (σ.put c q b l).2 vl vo EL EO K S1' ∧ Foot S1 S1' w w' := by
 refine (put_good h.sp.io h.sp.1 (q : Nat) (by omega) b hb (l : Nat) (by omega) v hv hsl hwr).mono ?_
 rintro e w' ⟨S1', h1, h5, h6⟩
 rw [put_c] at h1 h5
 obtain ⟨z1, z2⟩ := h.putS (σ' := (σ.put c q b l).2) (S1' := S1') ⟨h5, h.sp.2⟩ h6 rfl rfl
 exact ⟨S1', h1, z1, h6⟩
theorem sevict_at (h : SvAt W0 w A c σ vl vo EL EO K S1) (m : Int) (hwr : σ.p.wr + 1 ≤ 1000000000) :
  Calls Tryz.prog 76 #[.pointer (some ⟨A.g, 0, none⟩), .int .i64 m] w fun e w' => ∃ S1', e = .returned (.int .i64 (σ.p.evict c.ops σ.io m).1) ∧ SvAt W0 w' A c { σ with p := (σ.p.evict c.ops σ.io m).2.1, io := (σ.p.evict c.ops σ.io m).2.2 } vl vo EL EO K S1' ∧ Foot S1 S1' w w' := by
 refine (evict_pv h.sp.io h.sp.1 m hwr).mono ?_
 rintro e w' ⟨S1', h1, h5, h6⟩
 rw [evict_c] at h1 h5
 obtain ⟨z1, z2⟩ := h.putS (σ' := { σ with p := (σ.p.evict c.ops σ.io m).2.1, io := (σ.p.evict c.ops σ.io m).2.2 }) (S1' := S1') ⟨h5, h.sp.2⟩ h6 rfl rfl
 exact ⟨S1', h1, z1, h6⟩
end
end
end Go.Proofs.YtpajagkhmodbnaaGreat

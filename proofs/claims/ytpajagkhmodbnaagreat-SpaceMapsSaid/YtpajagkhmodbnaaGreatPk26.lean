/- Pk: texts of the store seat laid together by program: RdZero SvAgain SvRlog SvStart SvNum SvMas SvLayo SvOpen. Conditions: each theorem names its own. -/
import Derived.Test.YtpajagkhmodbnaaGreatPk25
import Derived.Test.YtpajagkhmodbnaaGreatPk24
import Derived.WalkSpells
namespace Go.Proofs.YtpajagkhmodbnaaGreat
set_option linter.unusedSimpArgs false
set_option linter.unusedVariables false
section
open Go.RowKit
set_option maxRecDepth 100000 in
theorem cloneTxn_nil (w : World) : Calls Tryz.prog 72 #[.slice none 0 0] w fun e w' => e = .returned (.slice none 0 0) ∧ w' = w := by
 have hq := run_eql_nil_slice (P := Tryz.prog) w 76 120 none 0 0 0 0 Tryz.underlying76
 go_enter Tryz.func72, Tryz.ntmps72
 go_wp2_with fail
 go_ret
 first | exact ⟨rfl, rfl⟩ | trivial
set_option maxRecDepth 100000 in
theorem clipTxn_nil (w : World) : Calls Tryz.prog 71 #[.slice none 0 0] w fun e w' => e = .returned (.slice none 0 0) ∧ w' = w := by
 go_enter Tryz.func71, Tryz.ntmps71
 go_wp2_with fail
 go_ret
 first | exact ⟨rfl, rfl⟩ | trivial
set_option maxRecDepth 100000 in
set_option maxHeartbeats 3200000 in
theorem insertTxn_nil (w : World) (f : Value) : Calls Tryz.prog 182 #[.slice none 0 0, .int .i64 0, .int .i64 0, f] w fun e w' => e = .returned (.tuple #[]) ∧ w' = w := by
 go_enter Tryz.func182, Tryz.ntmps182
 go_wp2_with fail
 go_loopw [8] (fun v8 wr => v8 = .int .i64 1 ∧ wr = w) (fun _ _ => 0)
 case atStart => exact ⟨rfl, rfl⟩
 case round =>
  obtain ⟨rfl, hy⟩ := hrel
  obtain rfl : w = wr := hy.symm
  go_wp2_with fail
  exact bodyPost_end (v := .tuple #[]) (by simp [results, Tryz.results182, go_sem]) rfl ⟨rfl, rfl⟩
set_option maxRecDepth 100000 in
set_option maxHeartbeats 3200000 in
theorem stableTxn_nil (w : World) (f : Value) : Calls Tryz.prog 168 #[.slice none 0 0, .int .i64 0, f] w fun e w' => e = .returned (.tuple #[]) ∧ w' = w := by
 go_enter Tryz.func168, Tryz.ntmps168
 go_wp2_with fail
 go_loopw [7, 8] (fun v7 v8 wr => v7 = .int .i64 0 ∧ v8 = .int .i64 20 ∧ wr = w) (fun _ _ _ => 0)
 case atStart => exact ⟨rfl, rfl, rfl⟩
 case round =>
  obtain ⟨rfl, rfl, hy⟩ := hrel
  obtain rfl : w = wr := hy.symm
  go_wp2_with fail
  refine (insertTxn_nil _ f).mono ?_
  rintro er w1 ⟨rfl, hy⟩
  obtain rfl : w = w1 := hy.symm
  go_wp2_with fail
  go_loopw [6, 7, 8] (fun v6 v7 v8 wr => v6 = .int .i64 20 ∧ wr = w) (fun _ _ _ _ => 0)
  case atStart => exact ⟨rfl, rfl⟩
  case round =>
   obtain ⟨rfl, hy⟩ := hrel
   obtain rfl : w = wr := hy.symm
   go_wp2_with fail
   exact bodyPost_end (v := .tuple #[]) (by simp [results, Tryz.results168, go_sem]) rfl ⟨rfl, rfl⟩
set_option maxRecDepth 100000 in
theorem sortTxn_nil (w : World) (f : Value) : Calls Tryz.prog 145 #[.slice none 0 0, f] w fun e w' => e = .returned (.tuple #[]) ∧ w' = w := by
 go_enter Tryz.func145, Tryz.ntmps145
 go_wp2_with fail
 refine (stableTxn_nil _ f).mono ?_
 rintro er w1 ⟨rfl, hy⟩
 obtain rfl : w = w1 := hy.symm
 go_wp2_with fail
 exact bodyPost_end (v := .tuple #[]) (by simp [results, Tryz.results145, go_sem]) rfl ⟨rfl, rfl⟩
set_option maxRecDepth 100000 in
theorem cloneDirty_nil (w : World) : Calls Tryz.prog 74 #[.slice none 0 0] w fun e w' => e = .returned (.slice none 0 0) ∧ w' = w := by
 have hq := run_eql_nil_slice (P := Tryz.prog) w 83 123 none 0 0 0 0 Tryz.underlying83
 go_enter Tryz.func74, Tryz.ntmps74
 go_wp2_with fail
 go_ret
 first | exact ⟨rfl, rfl⟩ | trivial
set_option maxRecDepth 100000 in
theorem clipDirty_nil (w : World) : Calls Tryz.prog 73 #[.slice none 0 0] w fun e w' => e = .returned (.slice none 0 0) ∧ w' = w := by
 go_enter Tryz.func73, Tryz.ntmps73
 go_wp2_with fail
 go_ret
 first | exact ⟨rfl, rfl⟩ | trivial
set_option maxRecDepth 100000 in
set_option maxHeartbeats 3200000 in
theorem insertDirty_nil (w : World) (f : Value) : Calls Tryz.prog 172 #[.slice none 0 0, .int .i64 0, .int .i64 0, f] w fun e w' => e = .returned (.tuple #[]) ∧ w' = w := by
 go_enter Tryz.func172, Tryz.ntmps172
 go_wp2_with fail
 go_loopw [8] (fun v8 wr => v8 = .int .i64 1 ∧ wr = w) (fun _ _ => 0)
 case atStart => exact ⟨rfl, rfl⟩
 case round =>
  obtain ⟨rfl, hy⟩ := hrel
  obtain rfl : w = wr := hy.symm
  go_wp2_with fail
  exact bodyPost_end (v := .tuple #[]) (by simp [results, Tryz.results172, go_sem]) rfl ⟨rfl, rfl⟩
set_option maxRecDepth 100000 in
set_option maxHeartbeats 3200000 in
theorem stableDirty_nil (w : World) (f : Value) : Calls Tryz.prog 170 #[.slice none 0 0, .int .i64 0, f] w fun e w' => e = .returned (.tuple #[]) ∧ w' = w := by
 go_enter Tryz.func170, Tryz.ntmps170
 go_wp2_with fail
 go_loopw [7, 8] (fun v7 v8 wr => v7 = .int .i64 0 ∧ v8 = .int .i64 20 ∧ wr = w) (fun _ _ _ => 0)
 case atStart => exact ⟨rfl, rfl, rfl⟩
 case round =>
  obtain ⟨rfl, rfl, hy⟩ := hrel
  obtain rfl : w = wr := hy.symm
  go_wp2_with fail
  refine (insertDirty_nil _ f).mono ?_
  rintro er w1 ⟨rfl, hy⟩
  obtain rfl : w = w1 := hy.symm
  go_wp2_with fail
  go_loopw [6, 7, 8] (fun v6 v7 v8 wr => v6 = .int .i64 20 ∧ wr = w) (fun _ _ _ _ => 0)
  case atStart => exact ⟨rfl, rfl⟩
  case round =>
   obtain ⟨rfl, hy⟩ := hrel
   obtain rfl : w = wr := hy.symm
   go_wp2_with fail
   exact bodyPost_end (v := .tuple #[]) (by simp [results, Tryz.results170, go_sem]) rfl ⟨rfl, rfl⟩
set_option maxRecDepth 100000 in
theorem sortDirty_nil (w : World) (f : Value) : Calls Tryz.prog 148 #[.slice none 0 0, f] w fun e w' => e = .returned (.tuple #[]) ∧ w' = w := by
 go_enter Tryz.func148, Tryz.ntmps148
 go_wp2_with fail
 refine (stableDirty_nil _ f).mono ?_
 rintro er w1 ⟨rfl, hy⟩
 obtain rfl : w = w1 := hy.symm
 go_wp2_with fail
 exact bodyPost_end (v := .tuple #[]) (by simp [results, Tryz.results148, go_sem]) rfl ⟨rfl, rfl⟩
set_option maxRecDepth 100000 in
theorem clipRec_nil (w : World) : Calls Tryz.prog 153 #[.slice none 0 0] w fun e w' => e = .returned (.slice none 0 0) ∧ w' = w := by
 go_enter Tryz.func153, Tryz.ntmps153
 go_wp2_with fail
 go_ret
 first | exact ⟨rfl, rfl⟩ | trivial
set_option maxRecDepth 100000 in
set_option maxHeartbeats 3200000 in
theorem analyze_nil (w : World) (al : Option Addr) (cl : Nat) : Calls Tryz.prog 117 #[.slice al 0 cl] w fun e w' => e = .returned (.tuple #[.slice none 0 0, .slice none 0 0, .int .i64 0]) ∧ w' = w := by
 go_enter Tryz.func117, Tryz.ntmps117
 go_wp2_with fail
 go_loopw [2, 3, 4, 11] (fun v2 v3 v4 i wr => v2 = .slice none 0 0 ∧ v3 = .slice none 0 0 ∧ v4 = .int .i64 0 ∧ i = .int .i64 (0 : Nat) ∧ wr = w) (fun _ _ _ _ _ => 0)
 case atStart => exact ⟨rfl, rfl, rfl, rfl, rfl⟩
 case round =>
  obtain ⟨rfl, rfl, rfl, rfl, hy⟩ := hrel
  obtain rfl : w = wr := hy.symm
  go_wp2_with fail
  refine (sortTxn_nil _ _).mono ?_
  rintro er w1 ⟨rfl, hy⟩
  obtain rfl : w = w1 := hy.symm
  go_wp2_with fail
  refine (sortDirty_nil _ _).mono ?_
  rintro er w1 ⟨rfl, hy⟩
  obtain rfl : w = w1 := hy.symm
  go_wp2_with fail
  refine (clipTxn_nil _).mono ?_
  rintro er w1 ⟨rfl, hy⟩
  obtain rfl : w = w1 := hy.symm
  go_wp2_with fail
  refine (clipDirty_nil _).mono ?_
  rintro er w1 ⟨rfl, hy⟩
  obtain rfl : w = w1 := hy.symm
  go_wp2_with fail
  go_ret3
  first | exact ⟨rfl, rfl⟩ | trivial
set_option maxRecDepth 100000 in
set_option maxHeartbeats 3200000 in
theorem redo_nil (w : World) (al : Option Addr) (cl : Nat) (f : Value) : Calls Tryz.prog 150 #[.slice al 0 cl, .slice none 0 0, f] w fun e w' => e = .returned (.slice none 0 0) ∧ Below w.heap.size w w' := by
 go_enter Tryz.func150, Tryz.ntmps150
 go_wp2_with fail
 go_ret
 first | exact ⟨rfl, Below.refl _ _⟩ | exact Below.refl _ _
set_option maxRecDepth 100000 in
set_option maxHeartbeats 3200000 in
theorem undo_nil (w : World) (al : Option Addr) (cl : Nat) : Calls Tryz.prog 119 #[.slice al 0 cl, .slice none 0 0] w fun e w' => e = .returned (.slice none 0 0) ∧ w' = w := by
 go_enter Tryz.func119, Tryz.ntmps119
 go_wp2_with fail
 go_step3
 go_wp2_with fail
 go_loopw [5, 6, 18] (fun v5 v6 i wr => v5 = .slice none 0 0 ∧ v6 = .slice none 0 0 ∧ i = .int .i64 (0 : Nat) ∧ wr = w) (fun _ _ _ _ => 0)
 case atStart => exact ⟨rfl, rfl, rfl, rfl⟩
 case round =>
  obtain ⟨rfl, rfl, rfl, hy⟩ := hrel
  obtain rfl : w = wr := hy.symm
  go_wp2_with fail
  go_step3
  go_wp2_with fail
  go_loopw [9, 47] (fun v9 i wr => v9 = .int .i64 (-1) ∧ i = .int .i64 (0 : Nat) ∧ wr = w) (fun _ _ _ => 0)
  case atStart => exact ⟨rfl, rfl, rfl⟩
  case round =>
   obtain ⟨rfl, rfl, hy⟩ := hrel
   obtain rfl : w = wr := hy.symm
   go_wp2_with fail
   refine (clipRec_nil _).mono ?_
   rintro er w1 ⟨rfl, hy⟩
   obtain rfl : w = w1 := hy.symm
   go_wp2_with fail
   rw [Exit.noGoto_ret]
   go_ret
   first | exact ⟨rfl, rfl⟩ | trivial
end
section
open Go.RowKit
section
variable {W0 w w' w2 : World} {A : Adr} {c : Cf} {σ : St} {S : Nat → Prop} {vl vo vo' : Value} {EL : List Le} {EO : List Te} {K S1 : Nat → Prop} {X : Nat → Prop}
set_option maxRecDepth 100000 in
set_option maxHeartbeats 3200000 in
theorem again0_at (h : SvAt W0 w A c σ vl vo [] EO K S1) :
  Calls Tryz.prog 118 #[.pointer (some ⟨A.sb, 0, none⟩), .slice none 0 0] w fun er w' => er = .returned (.int .i64 0) ∧ Below w.heap.size w w' := by
 obtain ⟨al, cl, hvl⟩ := own_shape h.ln.row
 have hb1 : Below w.heap.size w (w.alloc (.cells #[.pointer (some ⟨A.sb, 0, none⟩)] 28)) := (Below.refl _ _).alloc (Nat.le_refl _) _
 have hb2 : Below w.heap.size w ((w.alloc (.cells #[.pointer (some ⟨A.sb, 0, none⟩)] 28)).alloc (.cells #[.int .i64 0] 35)) := hb1.alloc (by simp) _
 have h2 := h.below hb2
 have bb := (Box.new w #[.pointer (some ⟨A.sb, 0, none⟩)] 28 rfl).alloc (.cells #[.int .i64 0] 35)
 have bd := Box.new (w.alloc (.cells #[.pointer (some ⟨A.sb, 0, none⟩)] 28)) #[.int .i64 0] 35 rfl
 obtain ⟨t2, ht2⟩ : ∃ x, w.heap.size = x := ⟨_, rfl⟩
 have c4 := h2.sbx.cell 4 _ rfl
 rw [hvl] at c4
 have clt := h2.sbx.lt
 have HB2 := Lib.hid hb2
 have HBB := Lib.hid bb
 have HBD := Lib.hid bd
 have k0 := bb.cell 0 _ rfl
 have klt := bb.lt
 have hsz : (w.alloc (.cells #[.pointer (some ⟨A.sb, 0, none⟩)] 28)).heap.size = w.heap.size + 1 := by simp
 clear h hb1 hb2 h2 hvl bb bd
 go_enter Tryz.func118, Tryz.ntmps118
 go_wp2_with fail
 refine (redo_nil _ al cl _).mono ?_
 rintro er y ⟨rfl, hb⟩
 have HY := Lib.hid (HB2.out.trans (hb.mono HB2.out.size))
 have bd := HBD.out.below hb (by simp)
 rw [hsz, ht2] at bd
 have d0 := bd.cell 0 _ rfl
 have dlt := bd.lt
 clear hb bd c4 k0 klt clt hsz
 go_wp2_with fail
 go_loopw [23] (fun i wr => i = .int .i64 (0 : Nat) ∧ wr = y) (fun _ _ => 0)
 case atStart => exact ⟨rfl, rfl⟩
 case round =>
  obtain ⟨rfl, hy⟩ := hrel
  obtain rfl : y = wr := hy.symm
  go_wp2_with fail
  go_ret
  first | exact ⟨rfl, HY.out⟩ | exact ⟨rfl, by rw [← ht2]; exact HY.out⟩
end
set_option maxRecDepth 100000 in
set_option maxHeartbeats 3200000 in
theorem num_nil (w : World) (x : Nat) (ao : Option Addr) (cb : Nat) (hb : Box w x [.slice ao 0 cb, .bool false]) :
  Calls Tryz.prog 163 #[.pointer (some ⟨x, 0, none⟩)] w fun e w' => e = .returned (.int .i64 0) ∧ w' = w.setCell ⟨x, 1, none⟩ (.bool true) := by
 have c0 := hb.cell 0 _ rfl
 have c1 := hb.cell 1 _ rfl
 have cfz := hb.free
 have clt := hb.lt
 clear hb
 go_enter Tryz.func163, Tryz.ntmps163
 go_wp2_with fail
 refine wp_scope_fwd 0 rfl ?_
 go_wp2_with fail
 go_step3
 refine ⟨rfl, ?_⟩
 go_wp2_with fail
 simp only [Exit.jump]
 go_ret
 exact ⟨rfl, rfl⟩
set_option maxRecDepth 100000 in
set_option maxHeartbeats 6400000 in
theorem decode_nil (w : World) (ao : Option Addr) (cb : Nat) :
  Calls Tryz.prog 138 #[.slice ao 0 cb] w fun e w' => e = .returned (.tuple #[.agg #[.int .i64 0, .int .i64 0, .int .i64 0, .int .i64 0, .int .i64 0, .int .i64 0, .slice none 0 0, .slice none 0 0, .slice none 0 0, .slice none 0 0, .int .i64 0], .int .i64 0, .bool false]) ∧ Below w.heap.size w w' := by
 have b1 : Below w.heap.size w (w.alloc (.cells #[.int .i64 0, .int .i64 0, .int .i64 0, .int .i64 0, .int .i64 0, .int .i64 0, .slice none 0 0, .slice none 0 0, .slice none 0 0, .slice none 0 0, .int .i64 0] 85)) := (Below.refl _ _).alloc (Nat.le_refl _) _
 have b2 : Below w.heap.size w ((w.alloc (.cells #[.int .i64 0, .int .i64 0, .int .i64 0, .int .i64 0, .int .i64 0, .int .i64 0, .slice none 0 0, .slice none 0 0, .slice none 0 0, .slice none 0 0, .int .i64 0] 85)).alloc (.cells #[.slice ao 0 cb, .bool false] 207)) := b1.alloc (by simp) _
 have x1 := (Box.new w #[.int .i64 0, .int .i64 0, .int .i64 0, .int .i64 0, .int .i64 0, .int .i64 0, .slice none 0 0, .slice none 0 0, .slice none 0 0, .slice none 0 0, .int .i64 0] 85 rfl).alloc (.cells #[.slice ao 0 cb, .bool false] 207)
 have x2 := Box.new (w.alloc (.cells #[.int .i64 0, .int .i64 0, .int .i64 0, .int .i64 0, .int .i64 0, .int .i64 0, .slice none 0 0, .slice none 0 0, .slice none 0 0, .slice none 0 0, .int .i64 0] 85)) #[.slice ao 0 cb, .bool false] 207 rfl
 have hsz : (w.alloc (.cells #[.int .i64 0, .int .i64 0, .int .i64 0, .int .i64 0, .int .i64 0, .int .i64 0, .slice none 0 0, .slice none 0 0, .slice none 0 0, .slice none 0 0, .int .i64 0] 85)).heap.size = w.heap.size + 1 := by simp
 rw [hsz] at x2
 obtain ⟨t2, ht2⟩ : ∃ x, w.heap.size = x := ⟨_, rfl⟩
 rw [ht2] at x1 x2
 have HB2 := Lib.hid b2
 have HX1 := Lib.hid x1
 have HX2 := Lib.hid x2
 have HT2 := Lib.hid ht2
 clear b1 b2 x1 x2 hsz ht2
 go_enter Tryz.func138, Tryz.ntmps138
 go_wp2_with fail
 rw [HT2.out]
 have hn := num_nil _ (t2 + 1) ao cb HX2.out
 have HN := Lib.hid hn
 clear hn
 generalize (w.alloc (.cells #[.int .i64 0, .int .i64 0, .int .i64 0, .int .i64 0, .int .i64 0, .int .i64 0, .slice none 0 0, .slice none 0 0, .slice none 0 0, .slice none 0 0, .int .i64 0] 85)).alloc (.cells #[.slice ao 0 cb, .bool false] 207) = w2 at *
 refine HN.out.mono ?_
 rintro er y ⟨rfl, rfl⟩
 have x2 := HX2.out.setCell 1 (.bool true)
 have x1 := HX1.out.setCell_other (show t2 + 1 ≠ t2 by omega) 1 (.bool true)
 have hb := HB2.out.setCell (p := ⟨t2 + 1, 1, none⟩) (by show w.heap.size ≤ t2 + 1; have := HT2.out; omega) (.bool true)
 generalize w2.setCell ⟨t2 + 1, 1, none⟩ (.bool true) = y at *
 have HB3 := Lib.hid hb
 have HX1' : Hid (Box y t2 [.int .i64 0, .int .i64 0, .int .i64 0, .int .i64 0, .int .i64 0, .int .i64 0, .slice none 0 0, .slice none 0 0, .slice none 0 0, .slice none 0 0, .int .i64 0]) := Lib.hid x1
 have d1 : y.cell? ⟨t2 + 1, 1, none⟩ = some (.bool true) := x2.cell 1 _ rfl
 have dlt := x2.lt
 have z0 := HX1'.out.cell 0 _ rfl
 have z1 := HX1'.out.cell 1 _ rfl
 have z2 := HX1'.out.cell 2 _ rfl
 have z3 := HX1'.out.cell 3 _ rfl
 have z4 := HX1'.out.cell 4 _ rfl
 have z5 := HX1'.out.cell 5 _ rfl
 have z6 := HX1'.out.cell 6 _ rfl
 have z7 := HX1'.out.cell 7 _ rfl
 have z8 := HX1'.out.cell 8 _ rfl
 have z9 := HX1'.out.cell 9 _ rfl
 have z10 := HX1'.out.cell 10 _ rfl
 have zfz := HX1'.out.free
 have zlt := HX1'.out.lt
 clear x1 x2 hb HN HX2
 go_wp2_with fail
 clear z0 z1 z2 z3 z4 z5 z6 z7 z8 z9 z10 zfz zlt d1 dlt
 obtain ⟨hp1, hp2⟩ := put11 HX1'.out (.int .i64 0) (.int .i64 0) (.int .i64 0) (.int .i64 0) (.int .i64 0) (.int .i64 0) (.slice none 0 0) (.slice none 0 0) (.slice none 0 0) (.slice none 0 0) (.int .i64 0)
 generalize (((((((((((y.setCell ⟨t2, 0, none⟩ (.int .i64 0)).setCell ⟨t2, 1, none⟩ (.int .i64 0)).setCell ⟨t2, 2, none⟩ (.int .i64 0)).setCell ⟨t2, 3, none⟩ (.int .i64 0)).setCell ⟨t2, 4, none⟩ (.int .i64 0)).setCell ⟨t2, 5, none⟩ (.int .i64 0)).setCell ⟨t2, 6, none⟩ (.slice none 0 0)).setCell ⟨t2, 7, none⟩ (.slice none 0 0)).setCell ⟨t2, 8, none⟩ (.slice none 0 0)).setCell ⟨t2, 9, none⟩ (.slice none 0 0)).setCell ⟨t2, 10, none⟩ (.int .i64 0)) = y2 at *
 have hbl : Below w.heap.size w y2 := HB3.out.trans (hp2.below (fun k hk => ⟨Nat.lt_of_lt_of_le hk HB3.out.size, fun e => by have := HT2.out; omega⟩))
 have hag : (isAgg 85).run Tryz.prog y2 = .ok true y2 := by kernel_rfl
 have hsz : (Go.sizeOf 85).run Tryz.prog y2 = .ok 11 y2 := by kernel_rfl
 have hld := run_loadCellsFrom_list Tryz.prog y2 ⟨t2, 0, none⟩ [.int .i64 0, .int .i64 0, .int .i64 0, .int .i64 0, .int .i64 0, .int .i64 0, .slice none 0 0, .slice none 0 0, .slice none 0 0, .slice none 0 0, .int .i64 0] 11 rfl (fun i v hi => by rw [Addr.add_lit, Nat.zero_add]; exact hp1.cell i v hi)
 have q0 := hp1.cell 0 _ rfl
 have q1 := hp1.cell 1 _ rfl
 have q2 := hp1.cell 2 _ rfl
 have q3 := hp1.cell 3 _ rfl
 have q4 := hp1.cell 4 _ rfl
 have q5 := hp1.cell 5 _ rfl
 have q6 := hp1.cell 6 _ rfl
 have q7 := hp1.cell 7 _ rfl
 have q8 := hp1.cell 8 _ rfl
 have q9 := hp1.cell 9 _ rfl
 have q10 := hp1.cell 10 _ rfl
 refine bodyPost_ret (v := .tuple #[.agg #[.int .i64 0, .int .i64 0, .int .i64 0, .int .i64 0, .int .i64 0, .int .i64 0, .slice none 0 0, .slice none 0 0, .slice none 0 0, .slice none 0 0, .int .i64 0], .int .i64 0, .bool false]) ?_ rfl ⟨rfl, hbl⟩
 simp [results, Tryz.results138, go_sem, loadVar, hag, hsz, loadCells, asAddr, Result.andThen, q0, q1, q2, q3, q4, q5, q6, q7, q8, q9, q10]
end
section
open Go.RowKit
def WSRl1 (A : Adr) (σ : St) (vl vo : Value) (st : Nat) (j b o : Nat) : Prop := False
def PSRl1 (A : Adr) (σ : St) (vl vo : Value) (st : Nat) (i : Nat) (VS : Nat → Value) (LO HI : Nat → Nat) (v : Value) (lo hi : Nat) (w : World) : Prop :=
 match i with
 | 0 => v = .pointer (some ⟨A.sb, 0, none⟩)
 | 1 => v = .pointer (some ⟨A.sb, 0, none⟩)
 | 2 => v = .pointer (some ⟨A.sb, 1, none⟩)
 | 3 => v = .pointer (some ⟨A.r, 0, none⟩)
 | 4 => v = .pointer (some ⟨A.sb, 0, none⟩)
 | 5 => v = .pointer (some ⟨A.sb, 0, none⟩)
 | 6 => v = .pointer (some ⟨A.sb, 1, none⟩)
 | 7 => v = .pointer (some ⟨A.r, 0, none⟩)
 | 8 => v = .int .i64 ((st : Nat) : Int)
 | 9 => v = .pointer (some ⟨A.sb, 0, none⟩)
 | 10 => v = .pointer (some ⟨A.sb, 0, none⟩)
 | 11 => v = .pointer (some ⟨A.sb, 1, none⟩)
 | 12 => v = .pointer (some ⟨A.r, 0, none⟩)
 | 13 => v = .int .i64 ((st : Nat) : Int)
 | 14 => v = .pointer (some ⟨A.sb, 0, none⟩)
 | 15 => v = .pointer (some ⟨A.sb, 0, none⟩)
 | 16 => v = .pointer (some ⟨A.sb, 1, none⟩)
 | 17 => v = .pointer (some ⟨A.r, 0, none⟩)
 | 18 => v = .int .i64 ((st : Nat) : Int)
 | 19 => v = .int .i64 0
 | 20 => ∃ ao cp, v = .tuple #[.slice ao 0 cp, .int .i64 0]
 | 21 => v = VS 20
 | 22 => ∃ ao cp, VS 20 = .tuple #[.slice ao 0 cp, .int .i64 0] ∧ v = .slice ao 0 cp
 | 23 => v = .int .i64 0
 | 24 => v = VS 22
 | 25 => v = .int .i64 0
 | _ => True
abbrev bSRl1 : List (List Nat) := [[], [0], [0, 1], [0, 1, 2], [], [4], [4, 5], [4, 5, 6], [4, 5, 6, 7], [], [9], [9, 10], [9, 10, 11], [4, 5, 6, 7, 8, 9, 10, 11, 12], [], [14], [14, 15], [14, 15, 16], [4, 5, 6, 7, 8, 9, 10, 11, 12, 13, 14, 15, 16, 17], [4, 5, 6, 7, 8, 9, 10, 11, 12, 13, 14, 15, 16, 17, 18], [0, 1, 2, 3, 4, 5, 6, 7, 8, 9, 10, 11, 12, 13, 14, 15, 16, 17, 18, 19], [0, 1, 2, 3, 4, 5, 6, 7, 8, 9, 10, 11, 12, 13, 14, 15, 16, 17, 18, 19, 20], [0, 1, 2, 3, 4, 5, 6, 7, 8, 9, 10, 11, 12, 13, 14, 15, 16, 17, 18, 19, 20, 21], [0, 1, 2, 3, 4, 5, 6, 7, 8, 9, 10, 11, 12, 13, 14, 15, 16, 17, 18, 19, 20, 21], [0, 1, 2, 3, 4, 5, 6, 7, 8, 9, 10, 11, 12, 13, 14, 15, 16, 17, 18, 19, 20, 21, 22], [0, 1, 2, 3, 4, 5, 6, 7, 8, 9, 10, 11, 12, 13, 14, 15, 16, 17, 18, 19, 20, 21, 22, 23, 24]]
theorem PSRl1_stable (A : Adr) (σ : St) (vl vo : Value) (st : Nat)  : ∀ i j, i < 26 → j < 26 → j ≠ i → j ∉ bSRl1.getD i [] → (i, j) ∉ ([] : List (Nat × Nat)) → ∀ VS LO HI v lo hi w w', PSRl1 A σ vl vo st i VS LO HI v lo hi w → GrowC (WSRl1 A σ vl vo st j) w w' → PSRl1 A σ vl vo st i VS LO HI v lo hi w' := by
 intro i j hi hj hne hbs hx VS LO HI v lo hj2 w w' h hg
 match i, hi with
 | 0, _ | 1, _ | 2, _ | 3, _ | 4, _ | 5, _ | 6, _ | 7, _ | 8, _ | 9, _ | 10, _ | 11, _ | 12, _ | 13, _ | 14, _ | 15, _ | 16, _ | 17, _ | 18, _ | 19, _ | 20, _ | 21, _ | 22, _ | 23, _ | 24, _ | 25, _ =>
  simp only [PSRl1] at h ⊢
  exact h
 | (q + 26), hq => exact absurd hq (by omega)
theorem PSRl1_cong (A : Adr) (σ : St) (vl vo : Value) (st : Nat) : ∀ i, i < 26 → ∀ VS VS' LO LO' HI HI' v lz hz w, (∀ j ∈ bSRl1.getD i [], VS j = VS' j ∧ LO j = LO' j ∧ HI j = HI' j) → PSRl1 A σ vl vo st i VS LO HI v lz hz w → PSRl1 A σ vl vo st i VS' LO' HI' v lz hz w := by
 intro i hi VS VS' LO LO' HI HI' v lz hz w he h
 match i, hi with
 | 0, _ | 1, _ | 2, _ | 3, _ | 4, _ | 5, _ | 6, _ | 7, _ | 8, _ | 9, _ | 10, _ | 11, _ | 12, _ | 13, _ | 14, _ | 15, _ | 16, _ | 17, _ | 18, _ | 19, _ | 20, _ | 23, _ | 25, _ =>
  simp only [PSRl1] at h ⊢
  exact h
 | 21, _ | 22, _ =>
  simp only [PSRl1] at h ⊢
  obtain ⟨e20a, e20b, e20c⟩ := he 20 (by decide)
  simp only [← e20a, ← e20b, ← e20c]
  exact h
 | 24, _ =>
  simp only [PSRl1] at h ⊢
  obtain ⟨e22a, e22b, e22c⟩ := he 22 (by decide)
  simp only [← e22a, ← e22b, ← e22c]
  exact h
 | (q + 26), hq => exact absurd hq (by omega)
section
variable {W0 w w' w2 : World} {A : Adr} {c : Cf} {σ : St} {S : Nat → Prop} {vl vo vo' : Value} {EL : List Le} {EO : List Te} {K S1 : Nat → Prop} {X : Nat → Prop}
set_option maxRecDepth 100000 in
set_option maxHeartbeats 6400000 in
theorem read0_at (h : SvAt W0 w A c σ vl vo EL EO K S1) (st : Nat) (hst : σ.io.R.start = st) (hfi : σ.io.R.fin = st) :
  Calls Tryz.prog 116 #[.pointer (some ⟨A.sb, 0, none⟩)] w fun er w' => er = .returned (.int .i64 0) ∧ Below w.heap.size w w' := by
 have HS := Lib.hid h
 have hstart : ∀ y, Below w.heap.size w y → Calls Tryz.prog 96 #[.pointer (some ⟨A.r, 0, none⟩)] y fun e w' => e = .returned (.int .i64 (st : Nat)) ∧ w' = y := by
  intro y hb
  obtain ⟨S5, hrg5, _⟩ := (h.below hb).useRg
  obtain ⟨vb5, hat5⟩ := hrg5.at
  rw [← hst]
  exact rstart_at hat5
 have hend : ∀ y, Below w.heap.size w y → Calls Tryz.prog 83 #[.pointer (some ⟨A.r, 0, none⟩)] y fun e w' => e = .returned (.int .i64 (st : Nat)) ∧ w' = y := by
  intro y hb
  obtain ⟨S5, hrg5, _⟩ := (h.below hb).useRg
  obtain ⟨vb5, hat5⟩ := hrg5.at
  rw [← hfi]
  exact rend_at hat5
 have hread : ∀ y, Below w.heap.size w y → Calls Tryz.prog 137 #[.pointer (some ⟨A.r, 0, none⟩), .int .i64 (st : Nat), .int .i64 0] y fun e w' => ∃ ao cp, e = .returned (.tuple #[.slice ao 0 cp, .int .i64 0]) ∧ Below y.heap.size y w' := by
  intro y hb
  obtain ⟨S5, hrg5, _⟩ := (h.below hb).useRg
  obtain ⟨vb5, hat5⟩ := hrg5.at
  have hok := hrg5.ok
  refine (rread_at hat5 hok st 0 (by omega) (by have := hok.ft; omega)).mono ?_
  rintro e w' ⟨v, rfl, ho, hb2⟩
  obtain ⟨a, cp, rfl⟩ := own_shape ho
  exact ⟨a, cp, rfl, hb2⟩
 have HST := Lib.hid hstart
 have HEN := Lib.hid hend
 have HRD := Lib.hid hread
 have bs : Box w A.sb [.pointer (some ⟨A.d, 0, none⟩), .pointer (some ⟨A.r, 0, none⟩), .pointer (some ⟨A.f, 0, none⟩), .pointer (some ⟨A.g, 0, none⟩), vl, vo, .int .i64 (σ.master : Nat), .int .i64 (σ.next : Nat), .int .i64 (σ.commits : Nat), .bool false, .int .i64 (σ.redone : Nat), .int .i64 (σ.undone : Nat)] := h.sbx
 have HBS := Lib.hid bs
 have hB : Below w.heap.size w w := Below.refl _ _
 clear h hstart hend hread hst hfi
 go_enter Tryz.func116, Tryz.ntmps116
 go_upto_region 1 with (fail)
 refine wp_region_partsDV (WSRl1 A σ vl vo st) 26 bSRl1 [some 12, some 13, some 14, some 15, some 16, some 17, some 18, some 19, some 20, some 21, some 22, some 23, some 24, some 25, some 26, some 27, some 28, some 29, some 30, some 31, some 32, some 11, some 33, some 34, some 3, some 4] [[], [0], [1], [2], [], [4], [5], [6], [7], [], [9], [10], [11], [12], [], [14], [15], [16], [17], [13, 18], [3, 8, 19], [20], [20, 21], [20, 21], [22], [23]] [0, 1, 2, 3, 4, 5, 6, 7, 8, 9, 10, 11, 12, 13, 14, 15, 16, 17, 18, 19, 20, 21, 22, 23, 24, 25] [] (by decide) (by kernel_rfl) (by kernel_rfl) rfl (PSRl1 A σ vl vo st) (PSRl1_cong A σ vl vo st) (PSRl1_stable A σ vl vo st ) ?pSRl1 ?_
 case pSRl1 =>
  intro i hi o ho vs lo hx_ w' hg hp hdd
  match i, hi with
  | 0, _ | 4, _ | 9, _ | 14, _ =>
   obtain rfl := Option.some.inj ho
   clear ho
   simp only [actsD, Act.put, actL]
   have hsz := hg.size
   have hgB : Below w.heap.size w w' := hg.below (fun k hk => ⟨hk, fun o => by rintro ⟨j, _, _, _, hw⟩; exact False.elim hw⟩)
   go_wp2
   exact ⟨_, rfl, GrowC.refl _, rfl⟩
  | 1, _ =>
   obtain rfl := Option.some.inj ho
   clear ho
   simp only [actsD, Act.put, actL]
   obtain ⟨_, _, _, h0⟩ := hp 0 (by simp)
   simp only [PSRl1] at h0
   have hsz := hg.size
   have hgB : Below w.heap.size w w' := hg.below (fun k hk => ⟨hk, fun o => by rintro ⟨j, _, _, _, hw⟩; exact False.elim hw⟩)
   rw [h0]
   go_wp2
   exact ⟨_, rfl, GrowC.refl _, rfl⟩
  | 2, _ =>
   obtain rfl := Option.some.inj ho
   clear ho
   simp only [actsD, Act.put, actL]
   obtain ⟨_, _, _, h1⟩ := hp 1 (by simp)
   simp only [PSRl1] at h1
   have hsz := hg.size
   have hgB : Below w.heap.size w w' := hg.below (fun k hk => ⟨hk, fun o => by rintro ⟨j, _, _, _, hw⟩; exact False.elim hw⟩)
   rw [h1]
   go_wp2
   exact ⟨_, rfl, GrowC.refl _, rfl⟩
  | 3, _ =>
   obtain rfl := Option.some.inj ho
   clear ho
   simp only [actsD, Act.put, actL]
   obtain ⟨_, _, _, h2⟩ := hp 2 (by simp)
   simp only [PSRl1] at h2
   have hsz := hg.size
   have hgB : Below w.heap.size w w' := hg.below (fun k hk => ⟨hk, fun o => by rintro ⟨j, _, _, _, hw⟩; exact False.elim hw⟩)
   rw [h2]
   have e0 := (hg.cell (A.sb) 1 bs.lt (by rintro ⟨j, _, hne, hb, hw⟩; exact False.elim hw)).trans (bs.cell 1 _ rfl)
   go_wp2
   exact ⟨_, rfl, GrowC.refl _, rfl⟩
  | 5, _ =>
   obtain rfl := Option.some.inj ho
   clear ho
   simp only [actsD, Act.put, actL]
   obtain ⟨_, _, _, h4⟩ := hp 4 (by simp)
   simp only [PSRl1] at h4
   have hsz := hg.size
   have hgB : Below w.heap.size w w' := hg.below (fun k hk => ⟨hk, fun o => by rintro ⟨j, _, _, _, hw⟩; exact False.elim hw⟩)
   rw [h4]
   go_wp2
   exact ⟨_, rfl, GrowC.refl _, rfl⟩
  | 6, _ =>
   obtain rfl := Option.some.inj ho
   clear ho
   simp only [actsD, Act.put, actL]
   obtain ⟨_, _, _, h5⟩ := hp 5 (by simp)
   simp only [PSRl1] at h5
   have hsz := hg.size
   have hgB : Below w.heap.size w w' := hg.below (fun k hk => ⟨hk, fun o => by rintro ⟨j, _, _, _, hw⟩; exact False.elim hw⟩)
   rw [h5]
   go_wp2
   exact ⟨_, rfl, GrowC.refl _, rfl⟩
  | 7, _ =>
   obtain rfl := Option.some.inj ho
   clear ho
   simp only [actsD, Act.put, actL]
   obtain ⟨_, _, _, h6⟩ := hp 6 (by simp)
   simp only [PSRl1] at h6
   have hsz := hg.size
   have hgB : Below w.heap.size w w' := hg.below (fun k hk => ⟨hk, fun o => by rintro ⟨j, _, _, _, hw⟩; exact False.elim hw⟩)
   rw [h6]
   have e0 := (hg.cell (A.sb) 1 bs.lt (by rintro ⟨j, _, hne, hb, hw⟩; exact False.elim hw)).trans (bs.cell 1 _ rfl)
   go_wp2
   exact ⟨_, rfl, GrowC.refl _, rfl⟩
  | 8, _ =>
   obtain rfl := Option.some.inj ho
   clear ho
   simp only [actsD, Act.put, actL]
   obtain ⟨_, _, _, h7⟩ := hp 7 (by simp)
   simp only [PSRl1] at h7
   have hsz := hg.size
   have hgB : Below w.heap.size w w' := hg.below (fun k hk => ⟨hk, fun o => by rintro ⟨j, _, _, _, hw⟩; exact False.elim hw⟩)
   rw [h7]
   go_wp2_with fail
   refine (HST.out _ hgB).mono ?_
   rintro er wh ⟨rfl, hy⟩
   obtain rfl : w' = wh := hy.symm
   go_wp2
   exact ⟨_, rfl, GrowC.refl _, rfl⟩
  | 10, _ =>
   obtain rfl := Option.some.inj ho
   clear ho
   simp only [actsD, Act.put, actL]
   obtain ⟨_, _, _, h9⟩ := hp 9 (by simp)
   simp only [PSRl1] at h9
   have hsz := hg.size
   have hgB : Below w.heap.size w w' := hg.below (fun k hk => ⟨hk, fun o => by rintro ⟨j, _, _, _, hw⟩; exact False.elim hw⟩)
   rw [h9]
   go_wp2
   exact ⟨_, rfl, GrowC.refl _, rfl⟩
  | 11, _ =>
   obtain rfl := Option.some.inj ho
   clear ho
   simp only [actsD, Act.put, actL]
   obtain ⟨_, _, _, h10⟩ := hp 10 (by simp)
   simp only [PSRl1] at h10
   have hsz := hg.size
   have hgB : Below w.heap.size w w' := hg.below (fun k hk => ⟨hk, fun o => by rintro ⟨j, _, _, _, hw⟩; exact False.elim hw⟩)
   rw [h10]
   go_wp2
   exact ⟨_, rfl, GrowC.refl _, rfl⟩
  | 12, _ =>
   obtain rfl := Option.some.inj ho
   clear ho
   simp only [actsD, Act.put, actL]
   obtain ⟨_, _, _, h11⟩ := hp 11 (by simp)
   simp only [PSRl1] at h11
   have hsz := hg.size
   have hgB : Below w.heap.size w w' := hg.below (fun k hk => ⟨hk, fun o => by rintro ⟨j, _, _, _, hw⟩; exact False.elim hw⟩)
   rw [h11]
   have e0 := (hg.cell (A.sb) 1 bs.lt (by rintro ⟨j, _, hne, hb, hw⟩; exact False.elim hw)).trans (bs.cell 1 _ rfl)
   go_wp2
   exact ⟨_, rfl, GrowC.refl _, rfl⟩
  | 13, _ =>
   obtain rfl := Option.some.inj ho
   clear ho
   simp only [actsD, Act.put, actL]
   obtain ⟨_, _, _, h12⟩ := hp 12 (by simp)
   simp only [PSRl1] at h12
   have hsz := hg.size
   have hgB : Below w.heap.size w w' := hg.below (fun k hk => ⟨hk, fun o => by rintro ⟨j, _, _, _, hw⟩; exact False.elim hw⟩)
   rw [h12]
   go_wp2_with fail
   refine (HEN.out _ hgB).mono ?_
   rintro er wh ⟨rfl, hy⟩
   obtain rfl : w' = wh := hy.symm
   go_wp2
   exact ⟨_, rfl, GrowC.refl _, rfl⟩
  | 15, _ =>
   obtain rfl := Option.some.inj ho
   clear ho
   simp only [actsD, Act.put, actL]
   obtain ⟨_, _, _, h14⟩ := hp 14 (by simp)
   simp only [PSRl1] at h14
   have hsz := hg.size
   have hgB : Below w.heap.size w w' := hg.below (fun k hk => ⟨hk, fun o => by rintro ⟨j, _, _, _, hw⟩; exact False.elim hw⟩)
   rw [h14]
   go_wp2
   exact ⟨_, rfl, GrowC.refl _, rfl⟩
  | 16, _ =>
   obtain rfl := Option.some.inj ho
   clear ho
   simp only [actsD, Act.put, actL]
   obtain ⟨_, _, _, h15⟩ := hp 15 (by simp)
   simp only [PSRl1] at h15
   have hsz := hg.size
   have hgB : Below w.heap.size w w' := hg.below (fun k hk => ⟨hk, fun o => by rintro ⟨j, _, _, _, hw⟩; exact False.elim hw⟩)
   rw [h15]
   go_wp2
   exact ⟨_, rfl, GrowC.refl _, rfl⟩
  | 17, _ =>
   obtain rfl := Option.some.inj ho
   clear ho
   simp only [actsD, Act.put, actL]
   obtain ⟨_, _, _, h16⟩ := hp 16 (by simp)
   simp only [PSRl1] at h16
   have hsz := hg.size
   have hgB : Below w.heap.size w w' := hg.below (fun k hk => ⟨hk, fun o => by rintro ⟨j, _, _, _, hw⟩; exact False.elim hw⟩)
   rw [h16]
   have e0 := (hg.cell (A.sb) 1 bs.lt (by rintro ⟨j, _, hne, hb, hw⟩; exact False.elim hw)).trans (bs.cell 1 _ rfl)
   go_wp2
   exact ⟨_, rfl, GrowC.refl _, rfl⟩
  | 18, _ =>
   obtain rfl := Option.some.inj ho
   clear ho
   simp only [actsD, Act.put, actL]
   obtain ⟨_, _, _, h17⟩ := hp 17 (by simp)
   simp only [PSRl1] at h17
   have hsz := hg.size
   have hgB : Below w.heap.size w w' := hg.below (fun k hk => ⟨hk, fun o => by rintro ⟨j, _, _, _, hw⟩; exact False.elim hw⟩)
   rw [h17]
   go_wp2_with fail
   refine (HST.out _ hgB).mono ?_
   rintro er wh ⟨rfl, hy⟩
   obtain rfl : w' = wh := hy.symm
   go_wp2
   exact ⟨_, rfl, GrowC.refl _, rfl⟩
  | 19, _ =>
   obtain rfl := Option.some.inj ho
   clear ho
   simp only [actsD, Act.put, actL]
   obtain ⟨_, _, _, h13⟩ := hp 13 (by simp)
   simp only [PSRl1] at h13
   obtain ⟨_, _, _, h18⟩ := hp 18 (by simp)
   simp only [PSRl1] at h18
   have hsz := hg.size
   have hgB : Below w.heap.size w w' := hg.below (fun k hk => ⟨hk, fun o => by rintro ⟨j, _, _, _, hw⟩; exact False.elim hw⟩)
   rw [h13, h18]
   go_wp2
   exact ⟨_, rfl, GrowC.refl _, rfl⟩
  | 20, _ =>
   obtain rfl := Option.some.inj ho
   clear ho
   simp only [actsD, Act.put, actL]
   obtain ⟨_, _, _, h3⟩ := hp 3 (by simp)
   simp only [PSRl1] at h3
   obtain ⟨_, _, _, h8⟩ := hp 8 (by simp)
   simp only [PSRl1] at h8
   obtain ⟨_, _, _, h19⟩ := hp 19 (by simp)
   simp only [PSRl1] at h19
   have hsz := hg.size
   have hgB : Below w.heap.size w w' := hg.below (fun k hk => ⟨hk, fun o => by rintro ⟨j, _, _, _, hw⟩; exact False.elim hw⟩)
   rw [h3, h8, h19]
   go_wp2_with fail
   refine (HRD.out _ hgB).mono ?_
   rintro er wh ⟨ao, cp, rfl, hbl⟩
   go_wp2
   exact ⟨_, rfl, GrowC.of_grow ⟨hbl.os, hbl.tape, hbl.output, hbl.size, hbl.block⟩, ao, cp, rfl⟩
  | 21, _ =>
   obtain rfl := Option.some.inj ho
   clear ho
   simp only [actsD, Act.put, actL]
   obtain ⟨_, _, _, h20⟩ := hp 20 (by simp)
   simp only [PSRl1] at h20
   have hsz := hg.size
   have hgB : Below w.heap.size w w' := hg.below (fun k hk => ⟨hk, fun o => by rintro ⟨j, _, _, _, hw⟩; exact False.elim hw⟩)
   go_wp2
   exact ⟨_, rfl, GrowC.refl _, rfl⟩
  | 22, _ =>
   obtain rfl := Option.some.inj ho
   clear ho
   simp only [actsD, Act.put, actL]
   obtain ⟨_, _, _, h20⟩ := hp 20 (by simp)
   simp only [PSRl1] at h20
   obtain ⟨_, _, _, h21⟩ := hp 21 (by simp)
   simp only [PSRl1] at h21
   have hsz := hg.size
   have hgB : Below w.heap.size w w' := hg.below (fun k hk => ⟨hk, fun o => by rintro ⟨j, _, _, _, hw⟩; exact False.elim hw⟩)
   obtain ⟨ao, cp, e20⟩ := h20
   rw [h21, e20]
   go_wp2
   exact ⟨_, rfl, GrowC.refl _, ao, cp, e20, rfl⟩
  | 23, _ =>
   obtain rfl := Option.some.inj ho
   clear ho
   simp only [actsD, Act.put, actL]
   obtain ⟨_, _, _, h20⟩ := hp 20 (by simp)
   simp only [PSRl1] at h20
   obtain ⟨_, _, _, h21⟩ := hp 21 (by simp)
   simp only [PSRl1] at h21
   have hsz := hg.size
   have hgB : Below w.heap.size w w' := hg.below (fun k hk => ⟨hk, fun o => by rintro ⟨j, _, _, _, hw⟩; exact False.elim hw⟩)
   obtain ⟨ao, cp, e20⟩ := h20
   rw [h21, e20]
   go_wp2
   exact ⟨_, rfl, GrowC.refl _, rfl⟩
  | 24, _ =>
   obtain rfl := Option.some.inj ho
   clear ho
   simp only [actsD, Act.put, actL]
   obtain ⟨_, _, _, h22⟩ := hp 22 (by simp)
   simp only [PSRl1] at h22
   have hsz := hg.size
   have hgB : Below w.heap.size w w' := hg.below (fun k hk => ⟨hk, fun o => by rintro ⟨j, _, _, _, hw⟩; exact False.elim hw⟩)
   go_wp2
   exact ⟨_, rfl, GrowC.refl _, rfl⟩
  | 25, _ =>
   obtain rfl := Option.some.inj ho
   clear ho
   simp only [actsD, Act.put, actL]
   obtain ⟨_, _, _, h23⟩ := hp 23 (by simp)
   simp only [PSRl1] at h23
   have hsz := hg.size
   have hgB : Below w.heap.size w w' := hg.below (fun k hk => ⟨hk, fun o => by rintro ⟨j, _, _, _, hw⟩; exact False.elim hw⟩)
   rw [h23]
   go_wp2
   exact ⟨_, rfl, GrowC.refl _, rfl⟩
  | (q + 26), hq => exact absurd hq (by omega)
 intro vS lo hi w5 hg hp hd
 obtain ⟨_, _, _, h0⟩ := hp 0 (by decide)
 replace h0 := h0 (by decide)
 obtain ⟨_, _, _, h1⟩ := hp 1 (by decide)
 replace h1 := h1 (by decide)
 obtain ⟨_, _, _, h2⟩ := hp 2 (by decide)
 replace h2 := h2 (by decide)
 obtain ⟨_, _, _, h3⟩ := hp 3 (by decide)
 replace h3 := h3 (by decide)
 obtain ⟨_, _, _, h4⟩ := hp 4 (by decide)
 replace h4 := h4 (by decide)
 obtain ⟨_, _, _, h5⟩ := hp 5 (by decide)
 replace h5 := h5 (by decide)
 obtain ⟨_, _, _, h6⟩ := hp 6 (by decide)
 replace h6 := h6 (by decide)
 obtain ⟨_, _, _, h7⟩ := hp 7 (by decide)
 replace h7 := h7 (by decide)
 obtain ⟨_, _, _, h8⟩ := hp 8 (by decide)
 replace h8 := h8 (by decide)
 obtain ⟨_, _, _, h9⟩ := hp 9 (by decide)
 replace h9 := h9 (by decide)
 obtain ⟨_, _, _, h10⟩ := hp 10 (by decide)
 replace h10 := h10 (by decide)
 obtain ⟨_, _, _, h11⟩ := hp 11 (by decide)
 replace h11 := h11 (by decide)
 obtain ⟨_, _, _, h12⟩ := hp 12 (by decide)
 replace h12 := h12 (by decide)
 obtain ⟨_, _, _, h13⟩ := hp 13 (by decide)
 replace h13 := h13 (by decide)
 obtain ⟨_, _, _, h14⟩ := hp 14 (by decide)
 replace h14 := h14 (by decide)
 obtain ⟨_, _, _, h15⟩ := hp 15 (by decide)
 replace h15 := h15 (by decide)
 obtain ⟨_, _, _, h16⟩ := hp 16 (by decide)
 replace h16 := h16 (by decide)
 obtain ⟨_, _, _, h17⟩ := hp 17 (by decide)
 replace h17 := h17 (by decide)
 obtain ⟨_, _, _, h18⟩ := hp 18 (by decide)
 replace h18 := h18 (by decide)
 obtain ⟨_, _, _, h19⟩ := hp 19 (by decide)
 replace h19 := h19 (by decide)
 obtain ⟨_, _, _, h20⟩ := hp 20 (by decide)
 replace h20 := h20 (by decide)
 obtain ⟨_, _, _, h21⟩ := hp 21 (by decide)
 replace h21 := h21 (by decide)
 obtain ⟨_, _, _, h22⟩ := hp 22 (by decide)
 replace h22 := h22 (by decide)
 obtain ⟨_, _, _, h23⟩ := hp 23 (by decide)
 replace h23 := h23 (by decide)
 obtain ⟨_, _, _, h24⟩ := hp 24 (by decide)
 replace h24 := h24 (by decide)
 obtain ⟨_, _, _, h25⟩ := hp 25 (by decide)
 replace h25 := h25 (by decide)
 simp only [PSRl1] at h0 h1 h2 h3 h4 h5 h6 h7 h8 h9 h10 h11 h12 h13 h14 h15 h16 h17 h18 h19 h20 h21 h22 h23 h24 h25
 clear hp hd
 have hsz := hg.size
 replace bs := bs.grow hg (by intro i _; rintro ⟨j, _, hw⟩; exact False.elim hw)
 replace hB := hB.trans (hg.below (fun k hk => ⟨by omega, fun o => by rintro ⟨j, _, hw⟩; exact False.elim hw⟩))
 have hr : List.range 26 = [0, 1, 2, 3, 4, 5, 6, 7, 8, 9, 10, 11, 12, 13, 14, 15, 16, 17, 18, 19, 20, 21, 22, 23, 24, 25] := rfl
 rw [hr]
 clear hr
 simp only [List.drop_succ_cons, List.drop_zero, List.drop_nil, actsD, Act.put, actL, h0, h1, h2, h3, h4, h5, h6, h7, h8, h9, h10, h11, h12, h13, h14, h15, h16, h17, h18, h19, h23, h25]
 clear h0 h1 h2 h3 h4 h5 h6 h7 h8 h9 h10 h11 h12 h13 h14 h15 h16 h17 h18 h19 h23 h25
 obtain ⟨ao, cp, h20a⟩ := h20
 have e22 : vS 22 = .slice ao 0 cp := by
  obtain ⟨a', c', e1, e2⟩ := h22
  rw [h20a] at e1
  injection e1 with e1
  injection e1 with e1
  injection e1 with e1
  injection e1 with e1 e3 e4
  rw [e2, e1, e4]
 rw [h24, e22, h21, h20a]
 have HB := Lib.hid hB
 have bs2 := HBS.out.below hB (Nat.le_refl _)
 have c1 := bs2.cell 1 _ rfl
 have clt := bs2.lt
 clear h20a h21 h22 h24 e22 hB hg hsz bs bs2
 go_wp2_with fail
 refine (HST.out _ HB.out).mono ?_
 rintro er y1 ⟨rfl, hy⟩
 obtain rfl : w5 = y1 := hy.symm
 clear c1 clt
 go_wp2_with fail
 refine wp_loop_once ?_
 go_wp2_with fail
 refine (decode_nil _ _ _).mono ?_
 rintro er y2 ⟨rfl, hb2⟩
 have hBB : Below w.heap.size w y2 := HB.out.trans (hb2.mono HB.out.size)
 clear hb2
 have HBB := Lib.hid hBB
 clear hBB HB
 go_wp2_with fail
 have hBB := HBB.out
 have hle := hBB.size
 go_ret
 first
 | exact ⟨rfl, hBB.alloc hle _⟩
 | exact ⟨by simp, hBB.alloc hle _⟩
end
end
section
open Go.RowKit
section
variable {W0 w w' w2 : World} {A : Adr} {c : Cf} {σ : St} {S : Nat → Prop} {vl vo vo' : Value} {EL : List Le} {EO : List Te} {K S1 : Nat → Prop} {X : Nat → Prop}
theorem SvAt.useEnd (h : SvAt W0 w A c σ vl vo EL EO K S1) : Calls Tryz.prog 83 #[.pointer (some ⟨A.r, 0, none⟩)] w fun e w' => e = .returned (.int .i64 (σ.io.R.fin : Nat)) ∧ w' = w := by
 obtain ⟨S5, hrg5, _⟩ := h.useRg
 obtain ⟨vb5, hat5⟩ := hrg5.at
 exact rend_at hat5
theorem sflush0_at (h : SvAt W0 w A c σ vl vo EL EO K S1) (ht : σ.io.R.tail = σ.io.R.fin) :
  Calls Tryz.prog 58 #[.pointer (some ⟨A.r, 0, none⟩)] w fun e w' => ∃ S1', e = .returned (.int .i64 0) ∧ SvAt W0 w' A c σ vl vo EL EO K S1' ∧ Foot S1 S1' w w' := by
 refine (sflush_at h).mono ?_
 rintro e w' ⟨S1', rfl, h1, h2⟩
 have e1 : ({ σ with io := { D := (σ.io.R.flush c.n σ.io.D).2, R := (σ.io.R.flush c.n σ.io.D).1 } } : St) = σ := by
  unfold Rg.flush
  rw [if_pos ht]
 rw [e1] at h1
 exact ⟨S1', rfl, h1, h2⟩
set_option maxRecDepth 100000 in
set_option maxHeartbeats 6400000 in
theorem restart0_at (h : SvAt W0 w A c σ (.slice none 0 0) vo [] EO K S1) (st cm : Nat) (hst : σ.io.R.start = st) (hfi : σ.io.R.fin = st) (htl : σ.io.R.tail = st) (hnd : ∀ x ∈ σ.p.F, x.dirty = false)
  (hsn : st ≤ 1099511627776) (hma : σ.master ≤ 1099511627776) (hnx : σ.next ≤ 1099511627776) (hcm : cm ≤ 1099511627776) :
  Calls Tryz.prog 84 #[.pointer (some ⟨A.sb, 0, none⟩), .int .i64 (cm : Nat)] w fun er w' => ∃ S1', er = .returned (.int .i64 0) ∧ SvAt W0 w' A c (St.mark { σ with commits := cm } st) (.slice none 0 0) vo [] EO K S1' ∧ Foot (sfoot S1 (.slice none 0 0) vo EO K) (sfoot S1' (.slice none 0 0) vo EO K) w w' := by
 have HS := Lib.hid h
 have HST := Lib.hid hst
 have HFI := Lib.hid hfi
 have HTL := Lib.hid htl
 have HND := Lib.hid hnd
 have HMA := Lib.hid hma
 have HNX := Lib.hid hnx
 have HR := Lib.hid (read0_at h st hst hfi)
 clear h hst hfi htl hnd hma hnx
 go_enter Tryz.func84, Tryz.ntmps84
 go_wp2_with fail
 refine wp_scope_fwd 0 rfl ?_
 go_wp2_with fail
 refine HR.out.mono ?_
 rintro er y1 ⟨rfl, hb1⟩
 have hs1 := HS.out.below hb1
 have HB1 := Lib.hid hb1
 have HS1 := Lib.hid hs1
 have c4 := hs1.sbx.cell 4 _ rfl
 have clt := hs1.sbx.lt
 clear hs1 hb1 HR
 go_wp2_with fail
 refine wp_loop_once ?_
 go_wp2_with fail
 refine (analyze_nil _ _ _).mono ?_
 rintro er y2 ⟨rfl, hy⟩
 obtain rfl : y1 = y2 := hy.symm
 obtain ⟨S2, hs2, hf2⟩ := HS1.out.pokeN (σ' := { σ with commits := 0 }) 8 (by decide) (.int .i64 0) rfl rfl rfl rfl rfl
 obtain ⟨S3, hs3, hf3⟩ := hs2.pokeN (σ' := { σ with commits := cm }) 8 (by decide) (.int .i64 (cm : Nat)) rfl rfl rfl rfl rfl
 have HS3 := Lib.hid hs3
 have HF23 := Lib.hid (hf2.trans hf3)
 have c8o := HS1.out.sbx.cell 8 _ rfl
 have cfz := HS1.out.sbx.free
 have h4 := again0_at hs3
 have H4 := Lib.hid h4
 clear hs2 hf2 hs3 hf3 c4 h4
 go_wp2_with fail
 refine H4.out.mono ?_
 rintro er y3 ⟨rfl, hb3⟩
 have HS5 := Lib.hid (HS3.out.below hb3)
 have HF5 := Lib.hid ((Foot.below (grow_below HB1.out)).trans (HF23.out.trans (Foot.below (grow_below hb3))))
 have c4 := HS5.out.sbx.cell 4 _ rfl
 have c1 := HS5.out.sbx.cell 1 _ rfl
 have clt5 := HS5.out.sbx.lt
 clear hb3 H4 c8o cfz clt
 go_wp2_with fail
 refine (cloneTxn_nil _).mono ?_
 rintro er y4 ⟨rfl, hy⟩
 obtain rfl : y3 = y4 := hy.symm
 go_wp2_with fail
 refine (undo_nil _ _ _).mono ?_
 rintro er y4 ⟨rfl, hy⟩
 obtain rfl : y3 = y4 := hy.symm
 go_wp2_with fail
 refine wp_loop_once ?_
 go_wp2_with fail
 refine wp_loop_once ?_
 go_wp2_with fail
 refine (sflush0_at HS5.out (HTL.out.trans HFI.out.symm)).mono ?_
 rintro er y5 ⟨S6, rfl, hs6, hf6⟩
 have HS6 := Lib.hid hs6
 have HF6 := Lib.hid (HF5.out.trans hf6)
 clear hs6 hf6 c4 c1 clt5 HF5 HS5
 go_wp2_with fail
 refine (clean0_at HS6.out HND.out).mono ?_
 rintro er y6 ⟨rfl, hb6⟩
 have HS7 := Lib.hid (HS6.out.below hb6)
 have HF7 := Lib.hid (HF6.out.trans (Foot.below (grow_below hb6)))
 have c1 := HS7.out.sbx.cell 1 _ rfl
 have clt7 := HS7.out.sbx.lt
 clear hb6 HF6 HS6
 go_wp2_with fail
 refine HS7.out.useEnd.mono ?_
 rintro er y7 ⟨rfl, hy⟩
 obtain rfl : y6 = y7 := hy.symm
 have h8 := mark0_at HS7.out st (Nat.le_of_eq HST.out) (Nat.le_of_eq HFI.out.symm) hsn HMA.out HNX.out hcm
 rw [show (({ σ with commits := cm } : St).io.R.fin) = st from HFI.out]
 have H8 := Lib.hid h8
 clear h8
 go_wp2_with fail
 refine H8.out.mono ?_
 rintro er y8 ⟨S8, rfl, hs8, hf8⟩
 have HS8 := Lib.hid hs8
 have HF8 := Lib.hid ((sfoot_of HF7.out).trans hf8)
 clear hs8 hf8 H8 c1 clt7
 go_wp2_with fail
 go_step3
 go_wp2_with fail
 try simp only [Exit.jump]
 try rw [Exit.noGoto_ret]
 go_ret
 first | exact ⟨_, rfl, HS8.out, HF8.out⟩ | exact ⟨rfl, _, HS8.out, HF8.out⟩
end
end
section
open Go.RowKit
def num8 (l : List UInt8) : Nat := l.foldl (fun n c => n * 256 + c.toNat) 0
theorem num8_snoc (l : List UInt8) (c : UInt8) : num8 (l ++ [c]) = num8 l * 256 + c.toNat := by simp [num8]
theorem num8_step (L : List UInt8) (t : Nat) (h : t < L.length) : num8 (L.take (t + 1)) = num8 (L.take t) * 256 + (L[t]).toNat := by
 rw [List.take_add_one, List.getElem?_eq_getElem h]
 exact num8_snoc _ _
theorem num8_mono (L : List UInt8) : ∀ t, t ≤ L.length → num8 (L.take t) ≤ num8 L := by
 intro t ht
 induction hk : L.length - t generalizing t with
 | zero => rw [List.take_of_length_le (by omega)]; exact Nat.le_refl _
 | succ k ih =>
  have h1 := ih (t + 1) (by omega) (by omega)
  rw [num8_step L t (by omega)] at h1
  omega
theorem num8_be8 (n : Nat) (h : n ≤ 1152921504606846976) : num8 (be8 n) = n := by
 simp only [be8, num8, hbyte, List.range, List.range.loop, List.map, List.foldl, UInt8.toNat_ofNat']
 omega
theorem num8_zero : num8 (List.replicate 8 0) = 0 := by decide
theorem or_i64b (a : Nat) (c : UInt8) (h : a * 256 + c.toNat ≤ 4611686018427387904) : bits BinOp.or IntKind.i64 ((a : Int) * 256) (c.toNat : Int) = ((a * 256 + c.toNat : Nat) : Int) := by
 have hc := c.toNat_lt
 have e0 : ((a : Int) * 256) = ((a * 256 : Nat) : Int) := by omega
 have e1 : (BitVec.ofInt 64 ((a * 256 : Nat) : Int) ||| BitVec.ofInt 64 (c.toNat : Int)).toNat = a * 256 + c.toNat := by
  rw [BitVec.toNat_or, BitVec.ofInt_natCast, BitVec.ofInt_natCast, BitVec.toNat_ofNat, BitVec.toNat_ofNat, Nat.mod_eq_of_lt (by omega), Nat.mod_eq_of_lt (by omega)]
  have := Nat.two_pow_add_eq_or_of_lt (i := 8) (b := c.toNat) (by omega) a
  rw [show a * 256 = 2 ^ 8 * a by omega, this]
 rw [e0]
 show IntKind.i64.wrap ((BitVec.ofInt 64 ((a * 256 : Nat) : Int) ||| BitVec.ofInt 64 (c.toNat : Int)).toNat : Int) = _
 rw [e1]
 simp [IntKind.wrap, IntKind.signed, IntKind.bits]; omega
set_option maxRecDepth 100000 in
set_option maxHeartbeats 3200000 in
theorem number_any (w : World) (g o m cc : Nat) (L : List UInt8) (hL : L.length = 8) (hm : 8 ≤ m) (hc : m ≤ cc) (hcc : cc ≤ 1000000) (hn : num8 L ≤ 1152921504606846976) (hg : g < w.heap.size) (hl : ∀ j c, L[j]? = some c → w.cell? ⟨g, o + j, none⟩ = some (B c)) :
  Calls Tryz.prog 110 #[.slice (some ⟨g, o, none⟩) m cc] w fun e w' => e = .returned (.int .i64 (num8 L : Nat)) ∧ w' = w := by
 have HL := Lib.hid hl
 have HLL := Lib.hid hL
 have HN := Lib.hid hn
 have hc8 : 8 ≤ cc := by omega
 have hc0 : 0 < cc := by omega
 have b1 : decide ((cc : Int) < 8) = false := by simp; omega
 have b2 : decide (cc < 8) = false := by simp; omega
 clear hl hn
 go_enter Tryz.func110, Tryz.ntmps110
 go_wp2_with fail
 go_loopw [3, 5, 9] (fun nn cz j wr => ∃ t : Nat, t ≤ 8 ∧ j = .int .i64 t ∧ nn = .int .i64 ((num8 (L.take t) : Nat) : Int) ∧ wr = w) (fun _ _ j _ => 8 - (intOf j).toNat)
 case atStart => exact ⟨0, by omega, rfl, rfl, rfl⟩
 case round =>
  obtain ⟨t, ht, rfl, rfl, hy⟩ := hrel
  obtain rfl : w = wr := hy.symm
  by_cases hlt : t < 8
  ·have htl : t < L.length := by rw [HLL.out]; exact hlt
   have hck := HL.out t _ (List.getElem?_eq_getElem htl)
   simp only [B] at hck
   have hsm := num8_mono L (t + 1) (by omega)
   rw [num8_step L t htl] at hsm
   have HS := Lib.hid (num8_step L t htl)
   generalize hae : num8 (L.take t) = a at hsm HS ⊢
   generalize hce : L[t] = cb at hck hsm HS
   have hcb := cb.toNat_lt
   have hab : a ≤ 4503599627370496 := by have := HN.out; omega
   have HO := Lib.hid (or_i64b a cb (by have := HN.out; omega))
   clear hae hce hsm
   go_wp2_with fail
   go_roundw
   case rel => exact ⟨t + 1, by omega, by go_num, by rw [HS.out]; exact congrArg (Value.int IntKind.i64) HO.out, trivial⟩
   case measure => simp [intOf]; omega
  ·obtain rfl : t = 8 := by omega
   have HT := Lib.hid (show L.take 8 = L from List.take_of_length_le (Nat.le_of_eq HLL.out))
   go_wp2_with fail
   go_ret
   rw [HT.out]
   exact ⟨rfl, rfl⟩
end
section
open Go.RowKit
def WSMa7 (d g gb t : Nat) (j b o : Nat) : Prop := False
def PSMa7 (d g gb t : Nat) (i : Nat) (v : Value) (lo hi : Nat) (w : World) : Prop :=
 match i with
 | 0 => v = .slice (some ⟨gb, 0, none⟩) 128 128
 | 1 => v = .int .i64 0
 | 2 => v = .pointer (some ⟨g, 0, none⟩)
 | 3 => v = .int .i64 0
 | 4 => v = .bool false
 | _ => True
theorem PSMa7_stable (d g gb t : Nat)  : ∀ i j, i < 5 → j < 5 → j ≠ i → j ∉ ([[], [0], [], [2], [0, 1, 2, 3]] : List (List Nat)).getD i [] → ∀ v lo hi w w', PSMa7 d g gb t i v lo hi w → GrowC (WSMa7 d g gb t j) w w' → PSMa7 d g gb t i v lo hi w' := by
 intro i j hi hj hne hbs v lo hj2 w w' h hg
 match i, hi with
 | 0, _ | 1, _ | 2, _ | 3, _ | 4, _ =>
  simp only [PSMa7] at h ⊢
  exact h
 | (q + 5), hq => exact absurd hq (by omega)
section
variable {W0 w w' w2 : World} {d : Nat} {D : Dv} {S : Nat → Prop}
theorem Dv.reads_sec (D : Dv) (k : Nat) : (D.reads k).sec = D.sec := by
 induction k with
 | zero => rfl
 | succ k ih => rw [← ih]; rfl
theorem Dv.reads_len (D : Dv) (k : Nat) : (D.reads k).l.length = D.l.length := by
 induction k with
 | zero => rfl
 | succ k ih => rw [← ih]; rfl
theorem Dv.reads_dead (D : Dv) (k : Nat) : (D.reads k).dead = D.dead := by
 induction k with
 | zero => rfl
 | succ k ih => rw [← ih]; rfl
theorem number_zsec (w : World) (g : Nat) (h : Buf w g zsec) :
  Calls Tryz.prog 110 #[.slice (some ⟨g, 0, none⟩) 128 128] w fun e w' => e = .returned (.int .i64 0) ∧ w' = w := by
 have h1 := number_any w g 0 128 128 (List.replicate 8 0) rfl (by decide) (by decide) (by decide) (by decide) h.lt (fun j c hj => by
  have hj8 : j < 8 := by have := (List.getElem?_eq_some_iff.1 hj).1; simpa using this
  rw [List.getElem?_replicate, if_pos hj8] at hj
  injection hj with hj
  subst hj
  rw [Nat.zero_add]
  refine h.cell j _ ?_
  rw [zsec, List.map_replicate, List.getElem?_replicate, if_pos (by omega)])
 rw [num8_zero] at h1
 exact h1
theorem put4 {w : World} {g : Nat} {a0 a1 a2 a3 : Value} (h : Box w g [a0, a1, a2, a3]) (v0 v1 v2 v3 : Value) :
  Box ((((w.setCell ⟨g, 0, none⟩ v0).setCell ⟨g, 1, none⟩ v1).setCell ⟨g, 2, none⟩ v2).setCell ⟨g, 3, none⟩ v3) g [v0, v1, v2, v3] ∧ GrowX (fun b => b = g) w ((((w.setCell ⟨g, 0, none⟩ v0).setCell ⟨g, 1, none⟩ v1).setCell ⟨g, 2, none⟩ v2).setCell ⟨g, 3, none⟩ v3) :=
 ⟨(((h.setCell 0 v0).setCell 1 v1).setCell 2 v2).setCell 3 v3, ((((growX_setCell w g 0 v0).trans (growX_setCell _ g 1 v1)).trans (growX_setCell _ g 2 v2)).trans (growX_setCell _ g 3 v3))⟩
set_option maxRecDepth 100000 in
set_option maxHeartbeats 6400000 in
theorem masters0_dv (h : DV W0 d D S w) (hdd : D.dead = false) (hl : 2 ≤ D.l.length) (hz0 : D.sec 0 = zsec) (hz1 : D.sec 1 = zsec) :
  Calls Tryz.prog 78 #[.pointer (some ⟨d, 0, none⟩)] w fun e w' => e = .returned (.tuple #[.agg #[.int .i64 0, .int .i64 0, .int .i64 0, .int .i64 0], .int .i64 0]) ∧ DV W0 d (D.reads 2) S w' ∧ Foot S S w w' := by
 have HL := Lib.hid hl
 have HD := Lib.hid hdd
 have HZ : Hid (∀ t, t < 2 → D.sec t = zsec) := Lib.hid (fun t ht => by
  match t, ht with
  | 0, _ => exact hz0
  | 1, _ => exact hz1)
 have hlt := h.lt
 have bx := Box.new w #[.int .i64 0, .int .i64 0, .int .i64 0, .int .i64 0] 131 rfl
 have hal : Below w.heap.size w (w.alloc (.cells #[.int .i64 0, .int .i64 0, .int .i64 0, .int .i64 0] 131)) := (Below.refl _ _).alloc (Nat.le_refl _) _
 have H1 := Lib.hid (h.below hal)
 have HAL := Lib.hid hal
 obtain ⟨g, hg⟩ : ∃ g, w.heap.size = g := ⟨_, rfl⟩
 have HDS := Lib.hid (h.self)
 have HLT : Hid (∀ k, S k → k < g) := Lib.hid (fun k hk => hg ▸ (hlt k hk).2)
 have HW := Lib.hid h.bel
 have hdg : d ≠ g := fun e => by have := (hlt d h.self).2; omega
 have HGE := Lib.hid hg
 rw [hg] at bx
 clear h hl hdd hz0 hz1 hal hlt
 have hwd : ∀ z : Nat, z = g → (w.heap.size = z) := fun z e => e ▸ hg
 go_enter Tryz.func78, Tryz.ntmps78
 go_wp2_with fail
 clear hwd
 rw [hg] at HAL
 generalize (w.alloc (.cells #[.int .i64 0, .int .i64 0, .int .i64 0, .int .i64 0] 131)) = w1 at *
 have HBX := Lib.hid bx
 clear bx hg
 go_loopw [3, 4, 5, 6, 7] (fun z3 z4 z5 z6 i wr => ∃ t : Nat, t ≤ 2 ∧ z3 = .int .i64 0 ∧ i = .int .i64 t ∧ Box wr g [.int .i64 0, .int .i64 0, .int .i64 0, .int .i64 0] ∧ DV W0 d (D.reads t) S wr ∧ GrowX (fun k => k = d) w1 wr) (fun _ _ _ _ i _ => 2 - (intOf i).toNat)
 case atStart => exact ⟨0, by omega, rfl, rfl, HBX.out, H1.out, GrowX.refl _⟩
 case round =>
  obtain ⟨t, ht, rfl, rfl, hbx, hdv, hgr⟩ := hrel
  have HB := Lib.hid hbx
  have HDV := Lib.hid hdv
  have HGR := Lib.hid hgr
  clear hbx hdv hgr
  by_cases hlt : t < 2
  ·have hcall := dread_dv HDV.out ((D.reads_dead t).trans HD.out) t (by rw [D.reads_len]; have := HL.out; omega)
   have HC := Lib.hid hcall
   clear hcall
   go_wp2_with fail
   refine HC.out.mono ?_
   rintro er y1 ⟨gb, rfl, hdv1, hbuf, hgb, hg1⟩
   rw [D.reads_sec, HZ.out t hlt] at hbuf
   have HDV1 : Hid (DV W0 d (D.reads (t + 1)) S y1) := Lib.hid hdv1
   have HBUF := Lib.hid hbuf
   have HGR1 := Lib.hid (HGR.out.trans hg1)
   have bs := HB.out.growx hg1 (fun e => hdg e.symm)
   clear hdv1 hbuf hg1 HC
   go_upto_region 7 with (fail)
   have hnum : ∀ y, Below y1.heap.size y1 y → Calls Tryz.prog 110 #[.slice (some ⟨gb, 0, none⟩) 128 128] y fun e w' => e = .returned (.int .i64 0) ∧ w' = y := fun y hb => number_zsec y gb (HBUF.out.growx (X := fun _ => False) (grow_below hb) (fun h => h))
   have HNU := Lib.hid hnum
   have hB : Below y1.heap.size y1 y1 := Below.refl _ _
   clear hnum
   refine wp_region_partsDC (WSMa7 d g gb t) 5 [[], [0], [], [2], [0, 1, 2, 3]] [some 20, some 21, some 22, some 23, some 24] (by kernel_rfl) (by kernel_rfl) rfl (PSMa7 d g gb t) (PSMa7_stable d g gb t ) ?pSMa7 ?_
   case pSMa7 =>
    intro i hi o ho vs lo hx_ w' hg hp
    match i, hi with
    | 0, _ | 2, _ =>
     obtain rfl := Option.some.inj ho
     clear ho
     simp only [actsD, Act.put, actL]
     have hsz := hg.size
     have hgB : Below y1.heap.size y1 w' := hg.below (fun k hk => ⟨hk, fun o => by rintro ⟨j, _, _, _, hw⟩; exact False.elim hw⟩)
     go_wp2
     exact ⟨_, rfl, GrowC.refl _, rfl⟩
    | 1, _ =>
     obtain rfl := Option.some.inj ho
     clear ho
     simp only [actsD, Act.put, actL]
     obtain ⟨_, _, _, h0⟩ := hp 0 (by simp)
     simp only [PSMa7] at h0
     have hsz := hg.size
     have hgB : Below y1.heap.size y1 w' := hg.below (fun k hk => ⟨hk, fun o => by rintro ⟨j, _, _, _, hw⟩; exact False.elim hw⟩)
     rw [h0]
     go_wp2_with fail
     refine (HNU.out _ hgB).mono ?_
     rintro er wh ⟨rfl, hy⟩
     obtain rfl : w' = wh := hy.symm
     go_wp2
     exact ⟨_, rfl, GrowC.refl _, rfl⟩
    | 3, _ =>
     obtain rfl := Option.some.inj ho
     clear ho
     simp only [actsD, Act.put, actL]
     obtain ⟨_, _, _, h2⟩ := hp 2 (by simp)
     simp only [PSMa7] at h2
     have hsz := hg.size
     have hgB : Below y1.heap.size y1 w' := hg.below (fun k hk => ⟨hk, fun o => by rintro ⟨j, _, _, _, hw⟩; exact False.elim hw⟩)
     rw [h2]
     have e0 := (hg.cell (g) 0 bs.lt (by rintro ⟨j, _, hne, hb, hw⟩; exact False.elim hw)).trans (bs.cell 0 _ rfl)
     go_wp2
     exact ⟨_, rfl, GrowC.refl _, rfl⟩
    | 4, _ =>
     obtain rfl := Option.some.inj ho
     clear ho
     simp only [actsD, Act.put, actL]
     obtain ⟨_, _, _, h1⟩ := hp 1 (by simp)
     simp only [PSMa7] at h1
     obtain ⟨_, _, _, h3⟩ := hp 3 (by simp)
     simp only [PSMa7] at h3
     have hsz := hg.size
     have hgB : Below y1.heap.size y1 w' := hg.below (fun k hk => ⟨hk, fun o => by rintro ⟨j, _, _, _, hw⟩; exact False.elim hw⟩)
     rw [h1, h3]
     go_wp2
     exact ⟨_, rfl, GrowC.refl _, rfl⟩
    | (q + 5), hq => exact absurd hq (by omega)
   intro vS lo hi y7 hg hp hd
   obtain ⟨_, _, _, h0⟩ := hp 0 (by decide)
   obtain ⟨_, _, _, h1⟩ := hp 1 (by decide)
   obtain ⟨_, _, _, h2⟩ := hp 2 (by decide)
   obtain ⟨_, _, _, h3⟩ := hp 3 (by decide)
   obtain ⟨_, _, _, h4⟩ := hp 4 (by decide)
   simp only [PSMa7] at h0 h1 h2 h3 h4
   clear hp hd
   have hsz := hg.size
   replace bs := bs.grow hg (by intro i _; rintro ⟨j, _, hw⟩; exact False.elim hw)
   replace hB := hB.trans (hg.below (fun k hk => ⟨by omega, fun o => by rintro ⟨j, _, hw⟩; exact False.elim hw⟩))
   have hr : List.range 5 = [0, 1, 2, 3, 4] := rfl
   rw [hr]
   clear hr
   simp only [List.drop_succ_cons, List.drop_zero, List.drop_nil, actsD, Act.put, actL, h0, h1, h2, h3, h4]
   clear h0 h1 h2 h3 h4
   go_wp2_with fail
   exact ⟨⟨t + 1, by omega, rfl, by simp, bs, HDV1.out.below hB, HGR1.out.trans (grow_no hB)⟩, by simp [intOf]; omega⟩
  ·obtain rfl : t = 2 := by omega
   have c0 := HB.out.cell 0 _ rfl
   have c1 := HB.out.cell 1 _ rfl
   have c2 := HB.out.cell 2 _ rfl
   have c3 := HB.out.cell 3 _ rfl
   have cfz := HB.out.free
   have clt := HB.out.lt
   go_wp2_with fail
   clear c0 c1 c2 c3 cfz clt
   obtain ⟨hp1, hp2⟩ := put4 HB.out (.int .i64 0) (.int .i64 0) (.int .i64 0) (.int .i64 0)
   generalize ((((wr.setCell ⟨g, 0, none⟩ (.int .i64 0)).setCell ⟨g, 1, none⟩ (.int .i64 0)).setCell ⟨g, 2, none⟩ (.int .i64 0)).setCell ⟨g, 3, none⟩ (.int .i64 0)) = y2 at *
   have hag : (isAgg 131).run Tryz.prog y2 = .ok true y2 := by kernel_rfl
   have hsz : (Go.sizeOf 131).run Tryz.prog y2 = .ok 4 y2 := by kernel_rfl
   have q0 := hp1.cell 0 _ rfl
   have q1 := hp1.cell 1 _ rfl
   have q2 := hp1.cell 2 _ rfl
   have q3 := hp1.cell 3 _ rfl
   refine bodyPost_ret (v := .tuple #[.agg #[.int .i64 0, .int .i64 0, .int .i64 0, .int .i64 0], .int .i64 0]) ?_ rfl ?_
   ·simp [results, Tryz.results78, go_sem, loadVar, hag, hsz, loadCells, asAddr, Result.andThen, q0, q1, q2, q3]
   ·refine ⟨rfl, ?_⟩
    have hnS : ¬ S g := fun hs => Nat.lt_irrefl _ (HLT.out g hs)
    have hfo : GrowX S w y2 := ((GrowX.step (X := S) (Y := fun _ => False) (GrowX.refl w) (grow_below (by rw [HGE.out]; exact HAL.out)) (fun _ _ h => h.elim)).step HGR.out (fun q _ e => e ▸ HDS.out)).step hp2 (fun q hq e => absurd hq (by have := HGE.out; omega))
    refine ⟨HDV.out.grow hp2 (fun k hk e => hnS (e ▸ hk)) (HDV.out.bel.trans (hp2.below (fun k hk => ⟨Nat.lt_of_lt_of_le hk HDV.out.bel.size, fun e => ?_⟩))), hfo, fun k hk => .inl hk⟩
    have := HW.out.size
    have := HGE.out
    omega
end
end
section
open Go.RowKit
def layI (n : Int) : Int × Int := if n < 128 then (0, 0) else (n / 4, (n - 2 - n / 4 - 5) / 4)
theorem layI_nat (n : Nat) : layI (n : Int) = ((((layoutL n).1 : Nat) : Int), (((layoutL n).2 : Nat) : Int)) := by
 unfold layI layoutL
 by_cases h : n < 128
 ·rw [if_pos (by omega), if_pos h]; rfl
 ·rw [if_neg (by omega), if_neg h]
  refine Prod.ext ?_ ?_ <;> simp only <;> omega
set_option maxRecDepth 100000 in
set_option maxHeartbeats 3200000 in
theorem layout_any (w : World) (n : Int) (h1 : -9223372036854775808 ≤ n) (h2 : n ≤ 9223372036854775807) :
  Calls Tryz.prog 16 #[.int .i64 n] w fun e w' => e = .returned (.tuple #[.int .i64 (layI n).1, .int .i64 (layI n).2]) ∧ w' = w := by
 by_cases h : n < 128
 ·have hE := Lib.hid (show layI n = (0, 0) by unfold layI; rw [if_pos h])
  have hb : decide (n < 128) = true := by simpa using h
  rw [hE.out]
  go_enter Tryz.func16, Tryz.ntmps16
  go_wp2_with fail
  go_ret2
  exact ⟨rfl, rfl⟩
 ·have hE := Lib.hid (show layI n = (n / 4, (n - 2 - n / 4 - 5) / 4) by unfold layI; rw [if_neg h])
  have hb : decide (n < 128) = false := by simpa using h
  rw [hE.out]
  go_enter Tryz.func16, Tryz.ntmps16
  go_wp2_with fail
  go_ret2
  exact ⟨rfl, rfl⟩
set_option maxRecDepth 100000 in
set_option maxHeartbeats 3200000 in
theorem fopen2_dv {W0 w : World} {d : Nat} {D : Dv} {S : Nat → Prop} (h : DV W0 d D S w) (hgood : D.good) (hcl : D.c.length ≤ 1000) (fr pg : Nat) (hpg : 1 ≤ pg) (hq : fr + 5 + 4 * pg ≤ D.l.length) (hz : D.sec fr = zsec) :
  Calls Tryz.prog 80 #[.pointer (some ⟨d, 0, none⟩), .int .i64 (fr : Nat), .int .i64 (pg : Nat)] w fun e w' => ∃ f, e = .returned (.tuple #[.pointer (some ⟨f, 0, none⟩), .int .i64 0]) ∧ FileBox w' f d fr pg false ∧ ¬ S f ∧ w.heap.size ≤ f ∧ DV W0 d (D.reads 1) S w' ∧ GrowX S w w' := by
 have hn := h.ok.n
 have hsz := h.size
 obtain ⟨n, hnn⟩ : ∃ n, D.l.length = n := ⟨_, rfl⟩
 rw [hnn] at hsz hq hn
 have HSZ := Lib.hid hsz
 have H := Lib.hid h
 have HG := Lib.hid hgood
 have HN := Lib.hid hnn
 have HZ := Lib.hid hz
 have HQ := Lib.hid hq
 have hb1 : decide ((pg : Int) < 1) = false := by simp; omega
 have hb2 : decide ((fr : Int) < 0) = false := by simp
 have hb3 : decide ((n : Int) < (fr : Int)) = false := by simp; omega
 have hb4 : decide ((n : Int) - (fr : Int) < 5) = false := by simp; omega
 have hb5 : decide (n < fr) = false := by simp; omega
 clear hsz h hgood hnn hz
 go_enter Tryz.func80, Tryz.ntmps80
 go_wp2_with fail
 refine HSZ.out.mono ?_
 rintro e wh ⟨rfl, rfl⟩
 go_wp2_with fail
 refine HSZ.out.mono ?_
 rintro e wh ⟨rfl, rfl⟩
 go_wp2_with fail
 refine HSZ.out.mono ?_
 rintro e wh ⟨rfl, rfl⟩
 go_wp2_with fail
 have bx := Box.new wh #[.pointer (some ⟨d, 0, none⟩), .int .i64 (fr : Nat), .int .i64 (pg : Nat), .bool false] 147 rfl
 have hal : Below wh.heap.size wh (wh.alloc (.cells #[.pointer (some ⟨d, 0, none⟩), .int .i64 (fr : Nat), .int .i64 (pg : Nat), .bool false] 147)) := (Below.refl _ _).alloc (Nat.le_refl _) _
 have H1 : Hid (DV W0 d D S (wh.alloc (.cells #[.pointer (some ⟨d, 0, none⟩), .int .i64 (fr : Nat), .int .i64 (pg : Nat), .bool false] 147))) := Lib.hid (H.out.below hal)
 have HAL := Lib.hid hal
 obtain ⟨f, hf⟩ : ∃ f, wh.heap.size = f := ⟨_, rfl⟩
 rw [hf] at bx HAL ⊢
 clear hal
 generalize wh.alloc (.cells #[.pointer (some ⟨d, 0, none⟩), .int .i64 (fr : Nat), .int .i64 (pg : Nat), .bool false] 147) = w1 at *
 refine (dread_dv H1.out HG.out.dead fr (by rw [HN.out]; omega)).mono ?_
 rintro e w2 ⟨g, rfl, hdv, hbuf, hg, hgr⟩
 rw [HZ.out] at hbuf
 have H2 := Lib.hid hdv
 have HG2 := Lib.hid hgr
 have HB2 := Lib.hid hbuf
 have HBX := Lib.hid bx
 have hz : ∀ k, k < 8 → w2.cell? ⟨g, k, none⟩ = some (.int .u8 0) := fun k hk => hbuf.cell k _ (by rw [zsec, List.map_replicate, List.getElem?_replicate, if_pos (by omega)]; rfl)
 have hlg := hbuf.lt
 clear hdv hgr hbuf bx hb1 hb2 hb3 hb4 hb5
 go_wp2_with fail
 go_loopw [11, 66] (fun s z wr => ∃ k : Nat, k ≤ 8 ∧ z = .int .i64 k ∧ s = .int .i64 0 ∧ wr = w2) (fun _ z _ => 8 - (intOf z).toNat)
 case atStart => exact ⟨0, Nat.zero_le _, rfl, rfl, rfl⟩
 case round =>
  obtain ⟨k, hk, rfl, rfl, rfl⟩ := hrel
  by_cases hk8 : k < 8
  case neg =>
   obtain rfl : k = 8 := by omega
   go_wp2_with fail
   go_ret2
   have hfS : ¬ S f := fun hs => by have := (H.out.lt f hs).2; omega
   have hfd : f ≠ d := fun e => hfS (e ▸ H.out.self)
   refine ⟨f, rfl, HBX.out.growx HG2.out hfd, hfS, by omega, H2.out, ?_⟩
   exact (GrowX.step (X := S) (Y := fun _ => False) (GrowX.refl _) (grow_below (by rw [hf]; exact HAL.out)) (fun _ _ h => h.elim)).step HG2.out (fun q _ e => e ▸ H.out.self)
  have hkb : decide ((k : Int) < 8) = true := by simp; omega
  have hc := hz k hk8
  have hpb : decide ((0 : Int) > (pg : Int)) = false := by simp
  have hpb2 : decide ((pg : Int) < 0) = false := by simp
  go_wp2_with fail
  exact ⟨⟨k + 1, by omega, by simp, by rfl, trivial⟩, by simp [intOf]; omega⟩
section
variable {W0 : World} {n f pg : Nat} {T : Type} {Iw : T → (Nat → Prop) → World → Prop} {s : T} {S1 S2 : Nat → Prop} {w : World} {fn : Nat} {caps : Array Value} {O : IoF T}
set_option maxRecDepth 100000 in
set_option maxHeartbeats 3200000 in
theorem pnew2_pv (hF : IoOf W0 f pg fn caps Iw O) (h3 : DM W0 S1 w) (h4 : Iw s S2 w) (h9 : Disj S1 S2) (h1 : 1 ≤ n) (h2 : n ≤ 64) :
  Calls Tryz.prog 81 #[.pointer (some ⟨f, 0, none⟩), .int .i64 (n : Nat), .func (.func fn) #[] caps] w fun e w' => ∃ g S', e = .returned (.tuple #[.pointer (some ⟨g, 0, none⟩), .int .i64 0]) ∧ PV W0 g n f pg (.func (.func fn) #[] caps) Iw (Pq.new n) s S' w' ∧ Below w.heap.size w w' ∧ (∀ k, S' k → (S1 k ∨ S2 k) ∨ w.heap.size ≤ k) := by
 have hb1 : decide ((n : Int) < 1) = false := by simp; omega
 have hb2 : decide ((n : Int) > 64) = false := by simp; omega
 have hb3 : decide (64 < (n : Int)) = false := by simp; omega
 have hb4 : decide (64 < n) = false := by simp; omega
 have hb5 : decide (n < 1) = false := by simp; omega
 obtain ⟨i0, hi, hz0, hz1, hz2⟩ := info_parts infoFr
 have H3 := Lib.hid h3
 have H4 := Lib.hid h4
 have H9 := Lib.hid h9
 have HF := Lib.hid hF
 have hbs := h3.bel.size
 have hfn := fun w => eql_fn (P := Tryz.prog) w _ fn caps Tryz.underlying52
 clear h3 h4 h9 hF
 go_enter Tryz.func81, Tryz.ntmps81
 go_wp2_with (at_make; refine wpList_make_full _ rfl _ _ 155 rfl w.heap.size 159 i0 (.agg Z6) 6 Tryz.underlying155 hi hz0 hz1 .i64 .i64 _ _ n rfl rfl rfl rfl (by rw [hz2]; omega) (by unfold maxLen; omega) (Nat.le_refl _) ?_; intro w0 hown0 hgrow0)
 have hb0 : Below w.heap.size w w0 := (Below.refl w.heap.size w).grown hgrow0 (Nat.le_refl _) (fun q e => by cases e)
 have bx := Box.new w0 #[.pointer (some ⟨f, 0, none⟩), .slice (some ⟨w.heap.size, 0, none⟩) n n, .func (.func fn) #[] caps, .int .i64 0, .int .i64 0] 157 rfl
 have hal := hb0.alloc hb0.size (.cells #[.pointer (some ⟨f, 0, none⟩), .slice (some ⟨w.heap.size, 0, none⟩) n n, .func (.func fn) #[] caps, .int .i64 0, .int .i64 0] 157)
 have hrow : w0.ownsRow w.heap.size 159 6 (.slice (some ⟨w.heap.size, 0, none⟩) n n) n (fcells (newE n 0)) := by
  have := hown0; rw [show (Value.agg Z6).cells = Z6 from rfl, made_frames] at this; exact this
 have hrow1 := hrow.alloc (.cells #[.pointer (some ⟨f, 0, none⟩), .slice (some ⟨w.heap.size, 0, none⟩) n n, .func (.func fn) #[] caps, .int .i64 0, .int .i64 0] 157)
 have hlb : w.heap.size < w0.heap.size := (hrow.lt w.heap.size rfl).2
 have hat : PoolAt (w0.alloc (.cells #[.pointer (some ⟨f, 0, none⟩), .slice (some ⟨w.heap.size, 0, none⟩) n n, .func (.func fn) #[] caps, .int .i64 0, .int .i64 0] 157)) W0.heap.size w0.heap.size w.heap.size n f (.func (.func fn) #[] caps) (newE n 0) 0 0 (fun _ => False) :=
  ⟨bx, own_base hrow1 hbs, newE_len (Nat.zero_le _), fun e he => by obtain ⟨e1, e2⟩ := newE_mem he; rw [e1, e2]; exact SecAt.nil, fun k h => h.elim, fun h => h, fun h => h, by omega⟩
 obtain ⟨lb, hlbe⟩ : ∃ x, w.heap.size = x := ⟨_, rfl⟩
 obtain ⟨g, hge⟩ : ∃ x, w0.heap.size = x := ⟨_, rfl⟩
 rw [hlbe, hge] at hat
 rw [hlbe] at hal hlb
 have HLB := Lib.hid hlbe
 rw [hlbe, hge]
 clear hown0 hgrow0 hrow hrow1 bx hb0
 generalize w0.alloc (.cells #[.pointer (some ⟨f, 0, none⟩), .slice (some ⟨lb, 0, none⟩) n n, .func (.func fn) #[] caps, .int .i64 0, .int .i64 0] 157) = w1 at *
 have c1 := hat.box.cell 1 _ rfl
 have glt := hat.box.lt
 have HAT := Lib.hid hat
 have HAL := Lib.hid hal
 clear hat hal
 go_wp2_with fail
 go_loopw [35] (fun z wr => ∃ k : Nat, k ≤ n ∧ z = .int .i64 k ∧ PoolAt wr W0.heap.size g lb n f (.func (.func fn) #[] caps) (newE n k) 0 0 (fun _ => False) ∧ Below lb w wr ∧ g < wr.heap.size) (fun z _ => n - (intOf z).toNat)
 case atStart => exact ⟨0, Nat.zero_le _, rfl, HAT.out, HAL.out, glt⟩
 case round =>
  obtain ⟨k, hk, rfl, hat, hbl, hgz⟩ := hrel
  have d1 := hat.box.cell 1 _ rfl
  have dlt := hat.box.lt
  have lefz := hat.fzl
  have lelt := hat.ll.2
  have HA := Lib.hid hat
  have HB := Lib.hid hbl
  by_cases hkn : k < n
  ·have x0 := hat.cell k _ (newE_at hkn) 0 _ rfl
   rw [Nat.add_zero] at x0
   simp only [Fm.zero] at x0
   have hkb : decide (k < n) = true := by simpa using hkn
   obtain ⟨a1, a2⟩ := hat.setF k _ (Fm.free, .slice none 0 0) (newE_at hkn) 0 (by omega) (.int .i64 (-1)) rfl SecAt.nil
   rw [Nat.add_zero, newE_step hkn] at a1
   rw [Nat.add_zero] at a2
   have HA1 := Lib.hid a1
   have HA2 := Lib.hid a2
   clear hat hbl a1 a2
   go_wp2_with fail
   go_roundw
   ·exact ⟨k + 1, by omega, by go_num, HA1.out, HB.out.trans (HA2.out.below (fun k hk => ⟨by have := HB.out.size; have := HLB.out; omega, fun e => by omega⟩)), by have := HA2.out.size; omega⟩
   ·simp [intOf]; omega
  ·obtain rfl : k = n := by omega
   clear hat hbl
   go_wp2_with fail
   go_ret2
   have hmF : (newE k k).map (·.1) = List.replicate k Fm.free := by simp [newE]
   have hlw : w.heap.size = lb := HLB.out
   have hbw : Below w.heap.size w wr := by rw [hlw]; exact HB.out
   have h3' := H3.out.below hbw
   have h4' : Iw s S2 wr := HF.out.grow _ _ (fun _ => False) _ _ H4.out (grow_below hbw) (fun _ _ h => h) h3'.bel
   refine ⟨g, _, rfl, ⟨lb, newE k k, _, S1, S2, HA.out, by omega, h3', h4', hmF, newE_ok h1 h2, ?_, ?_, H9.out, rfl⟩, hbw, ?_⟩
   ·rintro q (e | e | e) hs
    ·have := (H3.out.lt q hs).2; omega
    ·have := (H3.out.lt q hs).2; omega
    ·exact e
   ·rintro q (e | e | e) hs
    ·have := (HF.out.lt _ _ _ H4.out q hs).2; omega
    ·have := (HF.out.lt _ _ _ H4.out q hs).2; omega
    ·exact e
   ·rintro q ((e | e | e) | hs)
    ·exact .inr (by omega)
    ·exact .inr (by omega)
    ·exact e.elim
    ·exact .inl hs
end
end
section
open Go.RowKit
section
variable {W0 w w' w2 : World} {r d n : Nat} {D : Dv} {S : Nat → Prop} {s : Io}
theorem Dv.reads_c (D : Dv) (k : Nat) : (D.reads k).c = D.c := by
 induction k with
 | zero => rfl
 | succ k ih => rw [← ih]; rfl
theorem tup_inj {a b : Nat} (h : (Value.tuple #[.pointer (some ⟨a, 0, none⟩), .int .i64 0]) = .tuple #[.pointer (some ⟨b, 0, none⟩), .int .i64 0]) : a = b := by
 injection h with h
 injection h with h
 injection h with h _
 injection h with h
 injection h with h
 injection h with h
theorem fopen_rg (h : RGV W0 r d n s S w) (hcl : s.D.c.length ≤ 1000) (fr pg : Nat) (hpg : 1 ≤ pg) (hq : fr + 5 + 4 * pg ≤ s.D.l.length) (hz : s.D.sec fr = zsec) :
  Calls Tryz.prog 80 #[.pointer (some ⟨d, 0, none⟩), .int .i64 (fr : Nat), .int .i64 (pg : Nat)] w fun e w' => ∃ f S', e = .returned (.tuple #[.pointer (some ⟨f, 0, none⟩), .int .i64 0]) ∧ RGV W0 r d n { s with D := s.D.reads 1 } S' w' ∧ FileBox w' f d fr pg false ∧ ¬ S' f ∧ w.heap.size ≤ f ∧ Foot S S' w w' := by
 have hlt := h.lt
 obtain ⟨vb, S0, h1, h2, h3, h4, h5, h6, h7, rfl⟩ := h
 refine (fopen2_dv h2 h3 hcl fr pg hpg hq hz).mono ?_
 rintro e w' ⟨f, rfl, hb, hnf, hf, hd, hg⟩
 obtain ⟨z1, z2⟩ := RGV.dev h1 h2 h4 h6 h7 hd (h3.reads 1) (by rw [Dv.reads_len]; exact h5) ⟨hg, fun k hk => .inl hk⟩
 exact ⟨f, _, rfl, z1, hb, fun hs => by have := (hlt f hs).2; omega, hf, z2⟩
end
def WSOp7 (d sb m : Nat) (j b o : Nat) : Prop := (j = 9 ∧ b = sb ∧ o = 6) ∨ (j = 12 ∧ b = sb ∧ o = 7)
def PSOp7 (d sb m : Nat) (i : Nat) (v : Value) (lo hi : Nat) (w : World) : Prop :=
 match i with
 | 0 => v = .pointer (some ⟨sb, 0, none⟩)
 | 1 => v = .pointer (some ⟨sb, 0, none⟩)
 | 2 => v = .pointer (some ⟨m, 0, none⟩)
 | 3 => v = .int .i64 0
 | 4 => v = .pointer (some ⟨m, 3, none⟩)
 | 5 => v = .int .i64 0
 | 6 => v = .int .i64 1
 | 7 => v = .pointer (some ⟨sb, 0, none⟩)
 | 8 => v = .pointer (some ⟨sb, 6, none⟩)
 | 9 => sb < w.heap.size ∧ w.cell? ⟨sb, 6, none⟩ = some (.int .i64 0)
 | 10 => v = .pointer (some ⟨sb, 0, none⟩)
 | 11 => v = .pointer (some ⟨sb, 7, none⟩)
 | 12 => sb < w.heap.size ∧ w.cell? ⟨sb, 7, none⟩ = some (.int .i64 1)
 | _ => True
theorem PSOp7_stable (d sb m : Nat)  : ∀ i j, i < 13 → j < 13 → j ≠ i → j ∉ ([[], [], [], [2], [], [4], [4, 5], [0, 2, 3], [0, 2, 3, 7], [0, 2, 3, 7, 8], [0, 1, 2, 3, 4, 5, 6, 7, 8, 9], [0, 1, 2, 3, 4, 5, 6, 7, 8, 9, 10], [0, 1, 2, 3, 4, 5, 6, 7, 8, 9, 10, 11]] : List (List Nat)).getD i [] → ∀ v lo hi w w', PSOp7 d sb m i v lo hi w → GrowC (WSOp7 d sb m j) w w' → PSOp7 d sb m i v lo hi w' := by
 intro i j hi hj hne hbs v lo hj2 w w' h hg
 match i, hi with
 | 0, _ | 1, _ | 2, _ | 3, _ | 4, _ | 5, _ | 6, _ | 7, _ | 8, _ | 10, _ | 11, _ =>
  simp only [PSOp7] at h ⊢
  exact h
 | 9, _ | 12, _ =>
  simp only [PSOp7] at h ⊢
  obtain ⟨h0, h1⟩ := h
  exact ⟨Nat.lt_of_lt_of_le h0 hg.size, (hg.cell _ _ h0 (by simp only [WSOp7]; omega)).trans h1⟩
 | (q + 13), hq => exact absurd hq (by omega)
def WSOp9 (W0 : World) (d sb m lg G : Nat) (D : Dv) (S : Nat → Prop) (j b : Nat) : Prop := (j = 5 ∧ S b) ∨ (j = 11 ∧ b = sb)
def PSOp9 (W0 : World) (d sb m lg G : Nat) (D : Dv) (S : Nat → Prop) (i : Nat) (VS : Nat → Value) (LO HI : Nat → Nat) (v : Value) (lo hi : Nat) (w : World) : Prop :=
 match i with
 | 0 => v = .pointer (some ⟨sb, 0, none⟩)
 | 1 => v = .pointer (some ⟨d, 0, none⟩)
 | 2 => v = .int .i64 ((lg : Nat) : Int)
 | 3 => v = .pointer (some ⟨m, 1, none⟩)
 | 4 => v = .int .i64 0
 | 5 => ∃ r S1, v = .tuple #[.pointer (some ⟨r, 0, none⟩), .int .i64 0] ∧ RGV W0 r d lg ⟨(D.reads 2).reads 1, ⟨0, [], 0, 0⟩⟩ S1 w ∧ (∀ k, S1 k → S k ∨ G ≤ k)
 | 6 => v = VS 5
 | 7 => ∃ r, VS 5 = .tuple #[.pointer (some ⟨r, 0, none⟩), .int .i64 0] ∧ v = .pointer (some ⟨r, 0, none⟩)
 | 8 => v = .int .i64 0
 | 9 => v = .pointer (some ⟨sb, 0, none⟩)
 | 10 => v = .pointer (some ⟨sb, 1, none⟩)
 | 11 => Box w sb [.pointer (some ⟨d, 0, none⟩), VS 7, .pointer none, .pointer none, .slice none 0 0, .slice none 0 0, .int .i64 0, .int .i64 1, .int .i64 0, .bool false, .int .i64 0, .int .i64 0]
 | _ => True
abbrev bSOp9 : List (List Nat) := [[], [], [], [], [3], [1, 2, 3, 4], [1, 2, 3, 4, 5], [1, 2, 3, 4, 5, 6], [1, 2, 3, 4, 5, 6], [0, 1, 2, 3, 4, 5, 6, 7], [0, 1, 2, 3, 4, 5, 6, 7, 9], [0, 1, 2, 3, 4, 5, 6, 7, 9, 10]]
theorem PSOp9_stable (W0 : World) (d sb m lg G : Nat) (D : Dv) (S : Nat → Prop) (hvS : ∀ k, S k → k < sb) (hg7 : sb + 1 < G) (hgs : W0.heap.size ≤ sb) : ∀ i j, i < 12 → j < 12 → j ≠ i → j ∉ bSOp9.getD i [] → (i, j) ∉ ([] : List (Nat × Nat)) → ∀ VS LO HI v lo hi w w', PSOp9 W0 d sb m lg G D S i VS LO HI v lo hi w → GrowX (WSOp9 W0 d sb m lg G D S j) w w' → PSOp9 W0 d sb m lg G D S i VS LO HI v lo hi w' := by
 intro i j hi hj hne hbs hx VS LO HI v lo hj2 w w' h hg
 match i, hi with
 | 0, _ | 1, _ | 2, _ | 3, _ | 4, _ | 6, _ | 7, _ | 8, _ | 9, _ | 10, _ =>
  simp only [PSOp9] at h ⊢
  exact h
 | 5, _ =>
  simp only [PSOp9] at h ⊢
  have hgx : GrowX (fun b => b = sb) w w' := hg.mono (fun b hw => by
   simp only [WSOp9] at hw
   rcases hw with hw | hw
   ·exact absurd hw.1 hne
   ·exact hw.2)
  obtain ⟨r, S1, h1, h2, h3⟩ := h
  exact ⟨r, S1, h1, h2.grow hgx (fun k hk e => by rcases h3 k hk with h5 | h5; exact absurd (hvS k h5) (by omega); omega) (h2.bel.trans (hgx.below (fun k hk => ⟨Nat.lt_of_lt_of_le hk h2.bel.size, fun e => by omega⟩))), h3⟩
 | 11, _ =>
  simp only [PSOp9] at h ⊢
  refine h.growx hg ?_
  intro hw
  simp only [WSOp9] at hw
  rcases hw with hw | hw
  ·exact absurd (hvS _ hw.2) (Nat.lt_irrefl _)
  ·exact absurd hw.1 hne
 | (q + 12), hq => exact absurd hq (by omega)
theorem PSOp9_cong (W0 : World) (d sb m lg G : Nat) (D : Dv) (S : Nat → Prop) : ∀ i, i < 12 → ∀ VS VS' LO LO' HI HI' v lz hz w, (∀ j ∈ bSOp9.getD i [], VS j = VS' j ∧ LO j = LO' j ∧ HI j = HI' j) → PSOp9 W0 d sb m lg G D S i VS LO HI v lz hz w → PSOp9 W0 d sb m lg G D S i VS' LO' HI' v lz hz w := by
 intro i hi VS VS' LO LO' HI HI' v lz hz w he h
 match i, hi with
 | 0, _ | 1, _ | 2, _ | 3, _ | 4, _ | 5, _ | 8, _ | 9, _ | 10, _ =>
  simp only [PSOp9] at h ⊢
  exact h
 | 6, _ | 7, _ =>
  simp only [PSOp9] at h ⊢
  obtain ⟨e5a, e5b, e5c⟩ := he 5 (by decide)
  simp only [← e5a, ← e5b, ← e5c]
  exact h
 | 11, _ =>
  simp only [PSOp9] at h ⊢
  obtain ⟨e7a, e7b, e7c⟩ := he 7 (by decide)
  simp only [← e7a, ← e7b, ← e7c]
  exact h
 | (q + 12), hq => exact absurd hq (by omega)
def WSOp12 (W0 : World) (r d sb m lg pg G : Nat) (D : Dv) (S : Nat → Prop) (j b : Nat) : Prop := (j = 5 ∧ S b) ∨ (j = 11 ∧ b = sb)
def PSOp12 (W0 : World) (r d sb m lg pg G : Nat) (D : Dv) (S : Nat → Prop) (i : Nat) (VS : Nat → Value) (LO HI : Nat → Nat) (v : Value) (lo hi : Nat) (w : World) : Prop :=
 match i with
 | 0 => v = .pointer (some ⟨sb, 0, none⟩)
 | 1 => v = .pointer (some ⟨d, 0, none⟩)
 | 2 => v = .int .i64 ((lg : Nat) : Int)
 | 3 => v = .int .i64 (2 + (lg : Int))
 | 4 => v = .int .i64 ((pg : Nat) : Int)
 | 5 => ∃ f S1, v = .tuple #[.pointer (some ⟨f, 0, none⟩), .int .i64 0] ∧ RGV W0 r d lg ⟨((D.reads 2).reads 1).reads 1, ⟨0, [], 0, 0⟩⟩ S1 w ∧ FileBox w f d (2 + lg) pg false ∧ ¬ S1 f ∧ G ≤ f ∧ (∀ k, S1 k → S k ∨ G ≤ k)
 | 6 => v = VS 5
 | 7 => ∃ r, VS 5 = .tuple #[.pointer (some ⟨r, 0, none⟩), .int .i64 0] ∧ v = .pointer (some ⟨r, 0, none⟩)
 | 8 => v = .int .i64 0
 | 9 => v = .pointer (some ⟨sb, 0, none⟩)
 | 10 => v = .pointer (some ⟨sb, 2, none⟩)
 | 11 => Box w sb [.pointer (some ⟨d, 0, none⟩), .pointer (some ⟨r, 0, none⟩), VS 7, .pointer none, .slice none 0 0, .slice none 0 0, .int .i64 0, .int .i64 1, .int .i64 0, .bool false, .int .i64 0, .int .i64 0]
 | _ => True
abbrev bSOp12 : List (List Nat) := [[], [], [], [2], [], [1, 2, 3, 4], [1, 2, 3, 4, 5], [1, 2, 3, 4, 5, 6], [1, 2, 3, 4, 5, 6], [0, 1, 2, 3, 4, 5, 6, 7], [0, 1, 2, 3, 4, 5, 6, 7, 9], [0, 1, 2, 3, 4, 5, 6, 7, 9, 10]]
theorem PSOp12_stable (W0 : World) (r d sb m lg pg G : Nat) (D : Dv) (S : Nat → Prop) (hsg : ∀ k, S k → k ≠ sb ∧ k ≠ sb + 1 ∧ k ≠ m) (hg9 : sb + 1 < G ∧ m < G) (hgs : W0.heap.size ≤ sb) : ∀ i j, i < 12 → j < 12 → j ≠ i → j ∉ bSOp12.getD i [] → (i, j) ∉ ([] : List (Nat × Nat)) → ∀ VS LO HI v lo hi w w', PSOp12 W0 r d sb m lg pg G D S i VS LO HI v lo hi w → GrowX (WSOp12 W0 r d sb m lg pg G D S j) w w' → PSOp12 W0 r d sb m lg pg G D S i VS LO HI v lo hi w' := by
 intro i j hi hj hne hbs hx VS LO HI v lo hj2 w w' h hg
 match i, hi with
 | 0, _ | 1, _ | 2, _ | 3, _ | 4, _ | 6, _ | 7, _ | 8, _ | 9, _ | 10, _ =>
  simp only [PSOp12] at h ⊢
  exact h
 | 5, _ =>
  simp only [PSOp12] at h ⊢
  have hgx : GrowX (fun b => b = sb) w w' := hg.mono (fun b hw => by
   simp only [WSOp12] at hw
   rcases hw with hw | hw
   ·exact absurd hw.1 hne
   ·exact hw.2)
  obtain ⟨f, S1, h1, h2, h3, h4, h5, h6⟩ := h
  exact ⟨f, S1, h1, h2.grow hgx (fun k hk e => by rcases h6 k hk with h7 | h7; exact absurd (hsg k h7) (by omega); omega) (h2.bel.trans (hgx.below (fun k hk => ⟨Nat.lt_of_lt_of_le hk h2.bel.size, fun e => by omega⟩))), h3.growx hgx (fun e => by omega), h4, h5, h6⟩
 | 11, _ =>
  simp only [PSOp12] at h ⊢
  refine h.growx hg ?_
  intro hw
  simp only [WSOp12] at hw
  rcases hw with hw | hw
  ·exact absurd rfl (hsg _ hw.2).1
  ·exact absurd hw.1 hne
 | (q + 12), hq => exact absurd hq (by omega)
theorem PSOp12_cong (W0 : World) (r d sb m lg pg G : Nat) (D : Dv) (S : Nat → Prop) : ∀ i, i < 12 → ∀ VS VS' LO LO' HI HI' v lz hz w, (∀ j ∈ bSOp12.getD i [], VS j = VS' j ∧ LO j = LO' j ∧ HI j = HI' j) → PSOp12 W0 r d sb m lg pg G D S i VS LO HI v lz hz w → PSOp12 W0 r d sb m lg pg G D S i VS' LO' HI' v lz hz w := by
 intro i hi VS VS' LO LO' HI HI' v lz hz w he h
 match i, hi with
 | 0, _ | 1, _ | 2, _ | 3, _ | 4, _ | 5, _ | 8, _ | 9, _ | 10, _ =>
  simp only [PSOp12] at h ⊢
  exact h
 | 6, _ | 7, _ =>
  simp only [PSOp12] at h ⊢
  obtain ⟨e5a, e5b, e5c⟩ := he 5 (by decide)
  simp only [← e5a, ← e5b, ← e5c]
  exact h
 | 11, _ =>
  simp only [PSOp12] at h ⊢
  obtain ⟨e7a, e7b, e7c⟩ := he 7 (by decide)
  simp only [← e7a, ← e7b, ← e7c]
  exact h
 | (q + 12), hq => exact absurd hq (by omega)
def WSOp15 (W0 : World) (r d f sb m nf lg pg G : Nat) (D : Dv) (S : Nat → Prop) (j b : Nat) : Prop := (j = 13 ∧ b = sb)
def PSOp15 (W0 : World) (r d f sb m nf lg pg G : Nat) (D : Dv) (S : Nat → Prop) (i : Nat) (VS : Nat → Value) (LO HI : Nat → Nat) (v : Value) (lo hi : Nat) (w : World) : Prop :=
 match i with
 | 0 => v = .pointer (some ⟨sb, 0, none⟩)
 | 1 => v = .pointer (some ⟨sb, 0, none⟩)
 | 2 => v = .pointer (some ⟨sb, 0, none⟩)
 | 3 => v = .pointer (some ⟨sb, 2, none⟩)
 | 4 => v = .pointer (some ⟨f, 0, none⟩)
 | 5 => v = .int .i64 ((nf : Nat) : Int)
 | 6 => v = .func (.func 82) #[] #[.pointer (some ⟨sb + 1, 0, none⟩)]
 | 7 => ∃ g S1, v = .tuple #[.pointer (some ⟨g, 0, none⟩), .int .i64 0] ∧ SP W0 g nf r d f sb (sb + 1) lg (2 + lg) pg (Pq.new nf) (⟨((D.reads 2).reads 1).reads 1, ⟨0, [], 0, 0⟩⟩, [.pointer (some ⟨d, 0, none⟩), .pointer (some ⟨r, 0, none⟩), .pointer (some ⟨f, 0, none⟩), .pointer none, .slice none 0 0, .slice none 0 0, .int .i64 0, .int .i64 1, .int .i64 0, .bool false, .int .i64 0, .int .i64 0]) S1 w ∧ (∀ k, S1 k → (S k ∨ k = f ∨ k = sb ∨ k = sb + 1) ∨ G ≤ k)
 | 8 => ∃ g, VS 7 = .tuple #[.pointer (some ⟨g, 0, none⟩), .int .i64 0] ∧ v = .tuple #[.pointer (some ⟨g, 0, none⟩), .int .i64 0]
 | 9 => ∃ g, VS 8 = .tuple #[.pointer (some ⟨g, 0, none⟩), .int .i64 0] ∧ v = .pointer (some ⟨g, 0, none⟩)
 | 10 => v = .int .i64 0
 | 11 => v = .pointer (some ⟨sb, 0, none⟩)
 | 12 => v = .pointer (some ⟨sb, 3, none⟩)
 | 13 => ∃ g S1, VS 9 = .pointer (some ⟨g, 0, none⟩) ∧ SP W0 g nf r d f sb (sb + 1) lg (2 + lg) pg (Pq.new nf) (⟨((D.reads 2).reads 1).reads 1, ⟨0, [], 0, 0⟩⟩, [.pointer (some ⟨d, 0, none⟩), .pointer (some ⟨r, 0, none⟩), .pointer (some ⟨f, 0, none⟩), .pointer (some ⟨g, 0, none⟩), .slice none 0 0, .slice none 0 0, .int .i64 0, .int .i64 1, .int .i64 0, .bool false, .int .i64 0, .int .i64 0]) S1 w ∧ (∀ k, S1 k → (S k ∨ k = f ∨ k = sb ∨ k = sb + 1) ∨ G ≤ k)
 | _ => True
abbrev bSOp15 : List (List Nat) := [[], [], [1], [1, 2], [1, 2, 3], [], [], [1, 2, 3, 4, 5, 6], [1, 2, 3, 4, 5, 6, 7], [1, 2, 3, 4, 5, 6, 7, 8], [1, 2, 3, 4, 5, 6, 7, 8], [0, 1, 2, 3, 4, 5, 6, 7, 8, 9], [0, 1, 2, 3, 4, 5, 6, 7, 8, 9, 11], [0, 1, 2, 3, 4, 5, 6, 7, 8, 9, 11, 12]]
theorem PSOp15_stable (W0 : World) (r d f sb m nf lg pg G : Nat) (D : Dv) (S : Nat → Prop)  : ∀ i j, i < 14 → j < 14 → j ≠ i → j ∉ bSOp15.getD i [] → (i, j) ∉ ([(7, 13)] : List (Nat × Nat)) → ∀ VS LO HI v lo hi w w', PSOp15 W0 r d f sb m nf lg pg G D S i VS LO HI v lo hi w → GrowX (WSOp15 W0 r d f sb m nf lg pg G D S j) w w' → PSOp15 W0 r d f sb m nf lg pg G D S i VS LO HI v lo hi w' := by
 intro i j hi hj hne hbs hx VS LO HI v lo hj2 w w' h hg
 match i, hi with
 | 0, _ | 1, _ | 2, _ | 3, _ | 4, _ | 5, _ | 6, _ | 8, _ | 9, _ | 10, _ | 11, _ | 12, _ =>
  simp only [PSOp15] at h ⊢
  exact h
 | 7, _ =>
  simp only [PSOp15] at h ⊢
  simp at hx
  have hgx : GrowX (fun b => False) w w' := hg.mono (fun b hw => by
   simp only [WSOp15] at hw
   exact absurd hw.1 (by omega))
  obtain ⟨g, S1, h1, h2, h3⟩ := h
  exact ⟨g, S1, h1, h2.grow hgx (fun _ _ h => h) (h2.bel.trans (hgx.below (fun k hk => ⟨Nat.lt_of_lt_of_le hk h2.bel.size, fun e => e⟩))), h3⟩
 | 13, _ =>
  simp only [PSOp15] at h ⊢
  have hgx : GrowX (fun b => False) w w' := hg.mono (fun b hw => by
   simp only [WSOp15] at hw
   exact absurd hw.1 (by omega))
  obtain ⟨g, S1, h1, h2, h3⟩ := h
  exact ⟨g, S1, h1, h2.grow hgx (fun _ _ h => h) (h2.bel.trans (hgx.below (fun k hk => ⟨Nat.lt_of_lt_of_le hk h2.bel.size, fun e => e⟩))), h3⟩
 | (q + 14), hq => exact absurd hq (by omega)
theorem PSOp15_cong (W0 : World) (r d f sb m nf lg pg G : Nat) (D : Dv) (S : Nat → Prop) : ∀ i, i < 14 → ∀ VS VS' LO LO' HI HI' v lz hz w, (∀ j ∈ bSOp15.getD i [], VS j = VS' j ∧ LO j = LO' j ∧ HI j = HI' j) → PSOp15 W0 r d f sb m nf lg pg G D S i VS LO HI v lz hz w → PSOp15 W0 r d f sb m nf lg pg G D S i VS' LO' HI' v lz hz w := by
 intro i hi VS VS' LO LO' HI HI' v lz hz w he h
 match i, hi with
 | 0, _ | 1, _ | 2, _ | 3, _ | 4, _ | 5, _ | 6, _ | 7, _ | 10, _ | 11, _ | 12, _ =>
  simp only [PSOp15] at h ⊢
  exact h
 | 8, _ =>
  simp only [PSOp15] at h ⊢
  obtain ⟨e7a, e7b, e7c⟩ := he 7 (by decide)
  simp only [← e7a, ← e7b, ← e7c]
  exact h
 | 9, _ =>
  simp only [PSOp15] at h ⊢
  obtain ⟨e8a, e8b, e8c⟩ := he 8 (by decide)
  simp only [← e8a, ← e8b, ← e8c]
  exact h
 | 13, _ =>
  simp only [PSOp15] at h ⊢
  obtain ⟨e9a, e9b, e9c⟩ := he 9 (by decide)
  simp only [← e9a, ← e9b, ← e9c]
  exact h
 | (q + 14), hq => exact absurd hq (by omega)
section
variable {W0 w w' w2 : World} {d : Nat} {D : Dv} {S : Nat → Prop}
set_option maxRecDepth 100000 in
set_option maxHeartbeats 6400000 in
theorem sopen_new (h : DV W0 d D S w) (hg : D.good) (hc : D.c = []) (L : Nat) (hL : D.l.length = L) (hL1 : 128 ≤ L) (hz : ∀ i, D.sec i = zsec) (nf : Nat) (hn1 : 1 ≤ nf) (hn2 : nf ≤ 64) :
  Calls Tryz.prog 37 #[.pointer (some ⟨d, 0, none⟩), .int .i64 (nf : Nat)] w fun e w' => ∃ (A : Adr) (S' : Nat → Prop), e = .returned (.tuple #[.pointer (some ⟨A.sb, 0, none⟩), .int .i64 0]) ∧ A.d = d ∧ A.nf = nf ∧
   SvAt W0 w' A (Cf.of L) (St.mark ⟨⟨((D.reads 2).reads 1).reads 1, ⟨0, [], 0, 0⟩⟩, Pq.new nf, [], [], 0, 1, 0, 0, 0⟩ 0) (.slice none 0 0) (.slice none 0 0) [] [] (fun _ => False) S' ∧ Foot S (sfoot S' (.slice none 0 0) (.slice none 0 0) [] (fun _ => False)) w w' := by
 have hsz := size_dv h
 rw [hL] at hsz
 have hLb : L ≤ 8192 := by rw [← hL]; exact hg.ok.n
 have HSZ := Lib.hid hsz
 have HG := Lib.hid hg
 have HC := Lib.hid hc
 have HL := Lib.hid hL
 have HZ := Lib.hid hz
 have b1 : decide ((L : Int) < 128) = false := by simp; omega
 have b1n : decide (L < 128) = false := by simp; omega
 have b2 : decide ((nf : Int) < 1) = false := by simp; omega
 have b3 : decide ((nf : Int) > 64) = false := by simp; omega
 have b4 : decide (64 < (nf : Int)) = false := by simp; omega
 have b5 : decide (64 < nf) = false := by simp; omega
 have b6 : decide (nf < 1) = false := by simp; omega
 have H := Lib.hid h
 have hgz : W0.heap.size ≤ w.heap.size := h.bel.size
 have HGZ := Lib.hid hgz
 obtain ⟨sb, hsb⟩ : ∃ x, w.heap.size = x := ⟨_, rfl⟩
 clear hsz hg hc hL hz h hgz
 go_enter Tryz.func37, Tryz.ntmps37
 go_wp2_with fail
 refine HSZ.out.mono ?_
 rintro e wh ⟨rfl, hy⟩
 obtain rfl : w = wh := hy.symm
 go_wp2_with fail
 have hal : Below w.heap.size w (w.alloc (.cells #[.pointer (some ⟨d, 0, none⟩), .pointer none, .pointer none, .pointer none, .slice none 0 0, .slice none 0 0, .int .i64 0, .int .i64 0, .int .i64 0, .bool false, .int .i64 0, .int .i64 0] 95)) := (Below.refl _ _).alloc (Nat.le_refl _) _
 have hal2 : Below w.heap.size w ((w.alloc (.cells #[.pointer (some ⟨d, 0, none⟩), .pointer none, .pointer none, .pointer none, .slice none 0 0, .slice none 0 0, .int .i64 0, .int .i64 0, .int .i64 0, .bool false, .int .i64 0, .int .i64 0] 95)).alloc (.cells #[.pointer (some ⟨sb, 0, none⟩)] 28)) := hal.alloc (by simp) _
 have bs := (Box.new w #[.pointer (some ⟨d, 0, none⟩), .pointer none, .pointer none, .pointer none, .slice none 0 0, .slice none 0 0, .int .i64 0, .int .i64 0, .int .i64 0, .bool false, .int .i64 0, .int .i64 0] 95 rfl).alloc (.cells #[.pointer (some ⟨sb, 0, none⟩)] 28)
 have bc := Box.new (w.alloc (.cells #[.pointer (some ⟨d, 0, none⟩), .pointer none, .pointer none, .pointer none, .slice none 0 0, .slice none 0 0, .int .i64 0, .int .i64 0, .int .i64 0, .bool false, .int .i64 0, .int .i64 0] 95)) #[.pointer (some ⟨sb, 0, none⟩)] 28 rfl
 rw [show (w.alloc (.cells #[.pointer (some ⟨d, 0, none⟩), .pointer none, .pointer none, .pointer none, .slice none 0 0, .slice none 0 0, .int .i64 0, .int .i64 0, .int .i64 0, .bool false, .int .i64 0, .int .i64 0] 95)).heap.size = sb + 1 by rw [← hsb]; simp] at bc
 rw [hsb] at bs
 have H1 := Lib.hid (H.out.below hal2)
 have hLT := H.out.lt
 have HLT : Hid (∀ k, S k → W0.heap.size ≤ k ∧ k < sb) := Lib.hid (fun k hk => ⟨(hLT k hk).1, hsb ▸ (hLT k hk).2⟩)
 rw [hsb] at hal2
 have HB1 := Lib.hid hal2
 have HGS : Hid (W0.heap.size ≤ sb) := Lib.hid (hsb ▸ HGZ.out)
 have HSB := Lib.hid hsb
 have e1 : ((w.alloc (.cells #[.pointer (some ⟨d, 0, none⟩), .pointer none, .pointer none, .pointer none, .slice none 0 0, .slice none 0 0, .int .i64 0, .int .i64 0, .int .i64 0, .bool false, .int .i64 0, .int .i64 0] 95)).alloc (.cells #[.pointer (some ⟨sb, 0, none⟩)] 28)).heap.size = sb + 2 := by simp only [World.size_alloc]; omega
 have HE1 := Lib.hid e1
 clear hal hal2 hLT hsb e1 HGZ
 generalize ((w.alloc (.cells #[.pointer (some ⟨d, 0, none⟩), .pointer none, .pointer none, .pointer none, .slice none 0 0, .slice none 0 0, .int .i64 0, .int .i64 0, .int .i64 0, .bool false, .int .i64 0, .int .i64 0] 95)).alloc (.cells #[.pointer (some ⟨sb, 0, none⟩)] 28)) = w1 at *
 refine (masters0_dv H1.out HG.out.dead (by rw [HL.out]; omega) (HZ.out 0) (HZ.out 1)).mono ?_
 rintro e y1 ⟨rfl, hdv1, hf1⟩
 have HDV1 := Lib.hid hdv1
 have HF1 := Lib.hid hf1
 have HBS := Lib.hid (bs.growx hf1.grow (fun hk => by have := (HLT.out _ hk).2; omega))
 have HBC := Lib.hid (bc.growx hf1.grow (fun hk => by have := (HLT.out _ hk).2; omega))
 obtain ⟨m, hm⟩ : ∃ x, y1.heap.size = x := ⟨_, rfl⟩
 have HMS : Hid (sb + 2 ≤ m) := Lib.hid (by rw [← hm, ← HE1.out]; exact hf1.grow.size)
 clear hdv1 hf1 bs bc
 go_wp2_with fail
 have hal : Below y1.heap.size y1 (y1.alloc (.cells #[.int .i64 0, .int .i64 0, .int .i64 0, .int .i64 0] 131)) := (Below.refl _ _).alloc (Nat.le_refl _) _
 have bs := HBS.out.alloc (.cells #[.int .i64 0, .int .i64 0, .int .i64 0, .int .i64 0] 131)
 have bc := HBC.out.alloc (.cells #[.int .i64 0, .int .i64 0, .int .i64 0, .int .i64 0] 131)
 have bm := Box.new y1 #[.int .i64 0, .int .i64 0, .int .i64 0, .int .i64 0] 131 rfl
 rw [hm] at bm
 have HM := Lib.hid hm
 have H2 := Lib.hid (HDV1.out.below hal)
 have HF2 := Lib.hid (HF1.out.trans (Foot.below (grow_below hal)))
 have hms := HMS.out
 clear hal hm
 generalize y1.alloc (.cells #[.int .i64 0, .int .i64 0, .int .i64 0, .int .i64 0] 131) = w2 at *
 have hB : Below 0 w2 w2 := Below.refl _ _
 refine wp_region_partsDC (WSOp7 d sb m) 13 [[], [], [], [2], [], [4], [4, 5], [0, 2, 3], [0, 2, 3, 7], [0, 2, 3, 7, 8], [0, 1, 2, 3, 4, 5, 6, 7, 8, 9], [0, 1, 2, 3, 4, 5, 6, 7, 8, 9, 10], [0, 1, 2, 3, 4, 5, 6, 7, 8, 9, 10, 11]] [some 37, some 38, some 39, some 40, some 41, some 42, some 43, some 44, some 45, none, some 46, some 47, none] (by kernel_rfl) (by kernel_rfl) rfl (PSOp7 d sb m) (PSOp7_stable d sb m ) ?pSOp7 ?_
 case pSOp7 =>
  intro i hi o ho vs lo hx_ w' hg hp
  match i, hi with
  | 0, _ | 1, _ =>
   obtain rfl := Option.some.inj ho
   clear ho
   simp only [actsD, Act.put, actL]
   have hsz := hg.size
   have e0 := (hg.cell (sb + 1) 0 bc.lt (by rintro ⟨j, _, hne, hb, hw⟩; simp only [WSOp7] at hw; omega)).trans (bc.cell 0 _ rfl)
   go_wp2
   exact ⟨_, rfl, GrowC.refl _, rfl⟩
  | 2, _ | 4, _ =>
   obtain rfl := Option.some.inj ho
   clear ho
   simp only [actsD, Act.put, actL]
   have hsz := hg.size
   go_wp2
   exact ⟨_, rfl, GrowC.refl _, rfl⟩
  | 3, _ =>
   obtain rfl := Option.some.inj ho
   clear ho
   simp only [actsD, Act.put, actL]
   obtain ⟨_, _, _, h2⟩ := hp 2 (by simp)
   simp only [PSOp7] at h2
   have hsz := hg.size
   rw [h2]
   have e0 := (hg.cell (m) 0 bm.lt (by rintro ⟨j, _, hne, hb, hw⟩; simp only [WSOp7] at hw; omega)).trans (bm.cell 0 _ rfl)
   go_wp2
   exact ⟨_, rfl, GrowC.refl _, rfl⟩
  | 5, _ =>
   obtain rfl := Option.some.inj ho
   clear ho
   simp only [actsD, Act.put, actL]
   obtain ⟨_, _, _, h4⟩ := hp 4 (by simp)
   simp only [PSOp7] at h4
   have hsz := hg.size
   rw [h4]
   have e0 := (hg.cell (m) 3 bm.lt (by rintro ⟨j, _, hne, hb, hw⟩; simp only [WSOp7] at hw; omega)).trans (bm.cell 3 _ rfl)
   go_wp2
   exact ⟨_, rfl, GrowC.refl _, rfl⟩
  | 6, _ =>
   obtain rfl := Option.some.inj ho
   clear ho
   simp only [actsD, Act.put, actL]
   obtain ⟨_, _, _, h5⟩ := hp 5 (by simp)
   simp only [PSOp7] at h5
   have hsz := hg.size
   rw [h5]
   go_wp2
   exact ⟨_, rfl, GrowC.refl _, rfl⟩
  | 7, _ =>
   obtain rfl := Option.some.inj ho
   clear ho
   simp only [actsD, Act.put, actL]
   obtain ⟨_, _, _, h0⟩ := hp 0 (by simp)
   simp only [PSOp7] at h0
   have hsz := hg.size
   rw [h0]
   go_wp2
   exact ⟨_, rfl, GrowC.refl _, rfl⟩
  | 8, _ =>
   obtain rfl := Option.some.inj ho
   clear ho
   simp only [actsD, Act.put, actL]
   obtain ⟨_, _, _, h7⟩ := hp 7 (by simp)
   simp only [PSOp7] at h7
   have hsz := hg.size
   rw [h7]
   go_wp2
   exact ⟨_, rfl, GrowC.refl _, rfl⟩
  | 9, _ =>
   obtain rfl := Option.some.inj ho
   clear ho
   simp only [actsD, Act.put, actL]
   obtain ⟨_, _, _, h3⟩ := hp 3 (by simp)
   simp only [PSOp7] at h3
   obtain ⟨_, _, _, h8⟩ := hp 8 (by simp)
   simp only [PSOp7] at h8
   have hsz := hg.size
   rw [h3, h8]
   have o0 := (hg.cell (sb) 6 bs.lt (by rintro ⟨j, _, hne, hb, hw⟩; simp only [WSOp7] at hw; omega)).trans (bs.cell 6 _ rfl)
   have fz : ∀ o, w'.frozen? ⟨sb, o, none⟩ = false := fun o => (hg.frozen _ o bs.lt).trans (bs.free o)
   have hlt : sb < w'.heap.size := by have := bs.lt; omega
   go_wp2
   exact ⟨.bool true, rfl, ((GrowC.refl _).setCell (by unfold WSOp7; omega) hlt _), by simpa [World.setCell] using hlt, World.cell?_setCell_same _ _ _ o0⟩
  | 10, _ =>
   obtain rfl := Option.some.inj ho
   clear ho
   simp only [actsD, Act.put, actL]
   obtain ⟨_, _, _, h1⟩ := hp 1 (by simp)
   simp only [PSOp7] at h1
   obtain ⟨_, _, _, h9⟩ := hp 9 (by simp)
   simp only [PSOp7] at h9
   have hsz := hg.size
   rw [h1]
   go_wp2
   exact ⟨_, rfl, GrowC.refl _, rfl⟩
  | 11, _ =>
   obtain rfl := Option.some.inj ho
   clear ho
   simp only [actsD, Act.put, actL]
   obtain ⟨_, _, _, h9⟩ := hp 9 (by simp)
   simp only [PSOp7] at h9
   obtain ⟨_, _, _, h10⟩ := hp 10 (by simp)
   simp only [PSOp7] at h10
   have hsz := hg.size
   rw [h10]
   go_wp2
   exact ⟨_, rfl, GrowC.refl _, rfl⟩
  | 12, _ =>
   obtain rfl := Option.some.inj ho
   clear ho
   simp only [actsD, Act.put, actL]
   obtain ⟨_, _, _, h6⟩ := hp 6 (by simp)
   simp only [PSOp7] at h6
   obtain ⟨_, _, _, h9⟩ := hp 9 (by simp)
   simp only [PSOp7] at h9
   obtain ⟨_, _, _, h11⟩ := hp 11 (by simp)
   simp only [PSOp7] at h11
   have hsz := hg.size
   rw [h6, h11]
   have o0 := (hg.cell (sb) 7 bs.lt (by rintro ⟨j, _, hne, hb, hw⟩; simp only [WSOp7] at hw; omega)).trans (bs.cell 7 _ rfl)
   have fz : ∀ o, w'.frozen? ⟨sb, o, none⟩ = false := fun o => (hg.frozen _ o bs.lt).trans (bs.free o)
   have hlt : sb < w'.heap.size := by have := bs.lt; omega
   go_wp2
   exact ⟨.bool true, rfl, ((GrowC.refl _).setCell (by unfold WSOp7; omega) hlt _), by simpa [World.setCell] using hlt, World.cell?_setCell_same _ _ _ o0⟩
  | (q + 13), hq => exact absurd hq (by omega)
 intro vS lo hi w7 hg hp hd
 obtain ⟨_, _, _, h0⟩ := hp 0 (by decide)
 obtain ⟨_, _, _, h1⟩ := hp 1 (by decide)
 obtain ⟨_, _, _, h2⟩ := hp 2 (by decide)
 obtain ⟨_, _, _, h3⟩ := hp 3 (by decide)
 obtain ⟨_, _, _, h4⟩ := hp 4 (by decide)
 obtain ⟨_, _, _, h5⟩ := hp 5 (by decide)
 obtain ⟨_, _, _, h6⟩ := hp 6 (by decide)
 obtain ⟨_, _, _, h7⟩ := hp 7 (by decide)
 obtain ⟨_, _, _, h8⟩ := hp 8 (by decide)
 obtain ⟨_, _, _, h9⟩ := hp 9 (by decide)
 obtain ⟨_, _, _, h10⟩ := hp 10 (by decide)
 obtain ⟨_, _, _, h11⟩ := hp 11 (by decide)
 obtain ⟨_, _, _, h12⟩ := hp 12 (by decide)
 simp only [PSOp7] at h0 h1 h2 h3 h4 h5 h6 h7 h8 h9 h10 h11 h12
 clear hp hd
 have hsz := hg.size
 replace bs : Box w7 (sb) [.pointer (some ⟨d, 0, none⟩), .pointer none, .pointer none, .pointer none, .slice none 0 0, .slice none 0 0, .int .i64 0, .int .i64 1, .int .i64 0, .bool false, .int .i64 0, .int .i64 0] := bs.upd hg (by
  intro i v hi
  match i, hi with
  | 0, hi | 1, hi | 2, hi | 3, hi | 4, hi | 5, hi | 8, hi | 9, hi | 10, hi | 11, hi => exact .inr ⟨(by rintro ⟨j, _, hw⟩; simp only [WSOp7] at hw; omega), hi⟩
  | 6, hi => exact .inl (by obtain rfl := Option.some.inj hi; exact h9.2)
  | 7, hi => exact .inl (by obtain rfl := Option.some.inj hi; exact h12.2)
  | (q + 12), hi => cases hi)
 replace bc := bc.grow hg (by intro i _; rintro ⟨j, _, hw⟩; simp only [WSOp7] at hw; omega)
 replace bm := bm.grow hg (by intro i _; rintro ⟨j, _, hw⟩; simp only [WSOp7] at hw; omega)
 replace hB := hB.trans (hg.below (fun k hk => ⟨by omega, fun o => by rintro ⟨j, _, hw⟩; simp only [WSOp7] at hw; omega⟩))
 have hr : List.range 13 = [0, 1, 2, 3, 4, 5, 6, 7, 8, 9, 10, 11, 12] := rfl
 rw [hr]
 clear hr
 simp only [List.drop_succ_cons, List.drop_zero, List.drop_nil, actsD, Act.put, actL, h0, h1, h2, h3, h4, h5, h6, h7, h8, h10, h11]
 clear h0 h1 h2 h3 h4 h5 h6 h7 h8 h9 h10 h11 h12
 have HX7 := Lib.hid (GrowX.of_growC hg (Y := fun b => b = sb) (fun k o ⟨j, _, hw⟩ => by simp only [WSOp7] at hw; rcases hw with hw | hw <;> exact hw.2.1))
 have HDV7 : Hid (DV W0 d (D.reads 2) S w7) := Lib.hid (H2.out.grow HX7.out (fun k hk e => by have := (HLT.out _ hk).2; omega) (H2.out.bel.trans (HX7.out.below (fun k hk => ⟨Nat.lt_of_lt_of_le hk H2.out.bel.size, fun e => by have := HGS.out; omega⟩))))
 have HBS7 := Lib.hid bs
 have HBC7 := Lib.hid bc
 have HBM7 := Lib.hid bm
 clear hB hg hsz bs bc bm hms
 have hsz := size_dv HDV7.out
 rw [D.reads_len, HL.out] at hsz
 have HSZ7 := Lib.hid hsz
 clear hsz
 go_wp2_with fail
 refine HSZ7.out.mono ?_
 rintro e wh ⟨rfl, hy⟩
 obtain rfl : w7 = wh := hy.symm
 have hly := layout_any w7 (L : Int) (by omega) (by omega)
 rw [layI_nat] at hly
 obtain ⟨lg, hlg⟩ : ∃ x, (layoutL L).1 = x := ⟨_, rfl⟩
 obtain ⟨pg, hpg⟩ : ∃ x, (layoutL L).2 = x := ⟨_, rfl⟩
 rw [hlg, hpg] at hly
 have HLY := Lib.hid hly
 have HLG := Lib.hid hlg
 have HPG := Lib.hid hpg
 clear hly hlg hpg
 go_wp2_with fail
 refine HLY.out.mono ?_
 rintro e wh ⟨rfl, hy⟩
 obtain rfl : w7 = wh := hy.symm
 have hlay : 32 ≤ lg ∧ 2 + lg ≤ L ∧ 1 ≤ pg ∧ 2 + lg + 5 + 4 * pg ≤ L := by
  have e1 := HLG.out
  have e2 := HPG.out
  unfold layoutL at e1 e2
  rw [if_neg (by omega)] at e1 e2
  simp only at e1 e2
  omega
 obtain ⟨l1, l2, l3, l4⟩ := hlay
 have F7 : Hid (Foot S S w w7) := Lib.hid ((Foot.fin (T := S) (Foot.below (grow_below (by rw [HSB.out]; exact HB1.out))) HF2.out.grow (fun k hk => .inl hk) (fun k hk => .inl hk)).fin HX7.out (fun k e => .inr (by have := HSB.out; omega)) (fun k hk => .inl hk))
 go_upto_region 9 with (fail)
 have bs := HBS7.out
 have bc := HBC7.out
 have bm := HBM7.out
 have hms := HMS.out
 obtain ⟨G7, hG7⟩ : ∃ x, w7.heap.size = x := ⟨_, rfl⟩
 have hg7 : sb + 1 < G7 := by rw [← hG7]; exact bc.lt
 have hvS : ∀ k, S k → k < sb := fun k hk => (HLT.out k hk).2
 have hB : Below 0 w7 w7 := Below.refl _ _
 have HG7 := Lib.hid hG7
 refine wp_region_partsDVK (WSOp9 W0 d sb m lg G7 D S) 12 bSOp9 [some 55, some 56, some 57, some 58, some 59, some 60, some 54, some 61, some 62, some 63, some 64, none, some 8] [[], [], [], [], [3], [1, 2, 4], [5], [5, 6], [5, 6], [0], [9], [7, 10]] [0, 1, 2, 3, 4, 5, 6, 7, 8, 9, 10, 11] [] (by decide) (by kernel_rfl) (by kernel_rfl) rfl (PSOp9 W0 d sb m lg G7 D S) (PSOp9_cong W0 d sb m lg G7 D S) (PSOp9_stable W0 d sb m lg G7 D S hvS hg7 HGS.out) ?pSOp9 ?_
 case pSOp9 =>
  intro i hi o ho vs lo hx_ w' hg hp hdd
  match i, hi with
  | 0, _ =>
   obtain rfl := Option.some.inj ho
   clear ho
   simp only [actsD, Act.put, actL]
   have hsz := hg.size
   have e0 := (bc.growx hg (by rintro ⟨j, _, hne, hb, hw⟩; simp only [WSOp9] at hw; rcases hw with ⟨rfl, hw⟩ | ⟨rfl, hw⟩ <;> first | (have := hvS _ hw; omega) | exact absurd rfl hne | exact hb (by decide) | omega)).cell 0 _ rfl
   go_wp2
   exact ⟨_, rfl, GrowX.refl _, rfl⟩
  | 1, _ | 2, _ | 3, _ =>
   obtain rfl := Option.some.inj ho
   clear ho
   simp only [actsD, Act.put, actL]
   have hsz := hg.size
   go_wp2
   exact ⟨_, rfl, GrowX.refl _, rfl⟩
  | 4, _ =>
   obtain rfl := Option.some.inj ho
   clear ho
   simp only [actsD, Act.put, actL]
   obtain ⟨_, _, _, h3⟩ := hp 3 (by simp)
   simp only [PSOp9] at h3
   have hsz := hg.size
   rw [h3]
   have e0 := (bm.growx hg (by rintro ⟨j, _, hne, hb, hw⟩; simp only [WSOp9] at hw; rcases hw with ⟨rfl, hw⟩ | ⟨rfl, hw⟩ <;> first | (have := hvS _ hw; omega) | exact absurd rfl hne | exact hb (by decide) | omega)).cell 1 _ rfl
   go_wp2
   exact ⟨_, rfl, GrowX.refl _, rfl⟩
  | 5, _ =>
   obtain rfl := Option.some.inj ho
   clear ho
   simp only [actsD, Act.put, actL]
   obtain ⟨_, _, _, h1⟩ := hp 1 (by simp)
   simp only [PSOp9] at h1
   obtain ⟨_, _, _, h2⟩ := hp 2 (by simp)
   simp only [PSOp9] at h2
   obtain ⟨_, _, _, h4⟩ := hp 4 (by simp)
   simp only [PSOp9] at h4
   have hsz := hg.size
   rw [h1, h2, h4]
   have hbl : Below w7.heap.size w7 w' := hg.below (fun k hk => ⟨hk, by rintro ⟨j, _, hne, hb, hw⟩; simp only [WSOp9] at hw; rcases hw with ⟨rfl, hw⟩ | ⟨rfl, hw⟩ <;> first | exact absurd rfl hne | exact hb (by decide)⟩)
   have hcall := ropen_new (n := lg) (HDV7.out.below hbl) (HG.out.reads 2) (by omega) (by omega) (by rw [D.reads_len, HL.out]; omega) (by rw [D.reads_sec]; exact HZ.out 2)
   have HCA := Lib.hid hcall
   clear hcall
   go_wp2_with fail
   refine HCA.out.mono ?_
   rintro er y ⟨r, S1, rfl, hr, hf⟩
   go_wp2
   exact ⟨_, rfl, hf.grow.mono (fun b h => .inl ⟨rfl, h⟩), r, S1, rfl, hr, fun k hk => (hf.new k hk).imp (fun h => h) (fun h => by have := HG7.out; have := hbl.size; omega)⟩
  | 6, _ =>
   obtain rfl := Option.some.inj ho
   clear ho
   simp only [actsD, Act.put, actL]
   obtain ⟨_, _, _, h5⟩ := hp 5 (by simp)
   simp only [PSOp9] at h5
   have hsz := hg.size
   go_wp2
   exact ⟨_, rfl, GrowX.refl _, rfl⟩
  | 7, _ =>
   obtain rfl := Option.some.inj ho
   clear ho
   simp only [actsD, Act.put, actL]
   obtain ⟨_, _, _, h5⟩ := hp 5 (by simp)
   simp only [PSOp9] at h5
   obtain ⟨_, _, _, h6⟩ := hp 6 (by simp)
   simp only [PSOp9] at h6
   have hsz := hg.size
   obtain ⟨r, S1, e5, _⟩ := h5
   rw [h6, e5]
   go_wp2
   exact ⟨_, rfl, GrowX.refl _, r, e5, rfl⟩
  | 8, _ =>
   obtain rfl := Option.some.inj ho
   clear ho
   simp only [actsD, Act.put, actL]
   obtain ⟨_, _, _, h5⟩ := hp 5 (by simp)
   simp only [PSOp9] at h5
   obtain ⟨_, _, _, h6⟩ := hp 6 (by simp)
   simp only [PSOp9] at h6
   have hsz := hg.size
   obtain ⟨r, S1, e5, _⟩ := h5
   rw [h6, e5]
   go_wp2
   exact ⟨_, rfl, GrowX.refl _, rfl⟩
  | 9, _ =>
   obtain rfl := Option.some.inj ho
   clear ho
   simp only [actsD, Act.put, actL]
   obtain ⟨_, _, _, h0⟩ := hp 0 (by simp)
   simp only [PSOp9] at h0
   have hsz := hg.size
   rw [h0]
   go_wp2
   exact ⟨_, rfl, GrowX.refl _, rfl⟩
  | 10, _ =>
   obtain rfl := Option.some.inj ho
   clear ho
   simp only [actsD, Act.put, actL]
   obtain ⟨_, _, _, h9⟩ := hp 9 (by simp)
   simp only [PSOp9] at h9
   have hsz := hg.size
   rw [h9]
   go_wp2
   exact ⟨_, rfl, GrowX.refl _, rfl⟩
  | 11, _ =>
   obtain rfl := Option.some.inj ho
   clear ho
   simp only [actsD, Act.put, actL]
   obtain ⟨_, _, _, h7⟩ := hp 7 (by simp)
   simp only [PSOp9] at h7
   obtain ⟨_, _, _, h10⟩ := hp 10 (by simp)
   simp only [PSOp9] at h10
   have hsz := hg.size
   rw [h10]
   have bz := bs.growx hg (by rintro ⟨j, _, hne, hb, hw⟩; simp only [WSOp9] at hw; rcases hw with ⟨rfl, hw⟩ | ⟨rfl, hw⟩ <;> first | (have := hvS _ hw; omega) | exact absurd rfl hne | exact hb (by decide) | omega)
   obtain ⟨r, e5, e7⟩ := h7
   rw [e7]
   have cz := bz.cell 1 _ rfl
   have fz := bz.free
   have lz := bz.lt
   go_wp2
   exact ⟨.bool true, rfl, (growX_setCell w' sb 1 _).mono (fun k e => .inr ⟨rfl, e⟩), by simp only [PSOp9]; rw [e7]; exact bz.setCell 1 _⟩
  | (q + 12), hq => exact absurd hq (by omega)
 intro vS lo hi w9 hg hp hd
 obtain ⟨_, _, _, h0⟩ := hp 0 (by decide)
 replace h0 := h0 (by decide)
 obtain ⟨_, _, _, h1⟩ := hp 1 (by decide)
 replace h1 := h1 (by decide)
 obtain ⟨_, _, _, h2⟩ := hp 2 (by decide)
 replace h2 := h2 (by decide)
 obtain ⟨_, _, _, h3⟩ := hp 3 (by decide)
 replace h3 := h3 (by decide)
 obtain ⟨_, _, _, h4⟩ := hp 4 (by decide)
 replace h4 := h4 (by decide)
 obtain ⟨_, _, _, h5⟩ := hp 5 (by decide)
 replace h5 := h5 (by decide)
 obtain ⟨_, _, _, h6⟩ := hp 6 (by decide)
 replace h6 := h6 (by decide)
 obtain ⟨_, _, _, h7⟩ := hp 7 (by decide)
 replace h7 := h7 (by decide)
 obtain ⟨_, _, _, h8⟩ := hp 8 (by decide)
 replace h8 := h8 (by decide)
 obtain ⟨_, _, _, h9⟩ := hp 9 (by decide)
 replace h9 := h9 (by decide)
 obtain ⟨_, _, _, h10⟩ := hp 10 (by decide)
 replace h10 := h10 (by decide)
 obtain ⟨_, _, _, h11⟩ := hp 11 (by decide)
 replace h11 := h11 (by decide)
 simp only [PSOp9] at h0 h1 h2 h3 h4 h5 h6 h7 h8 h9 h10 h11
 clear hp hd
 have hsz := hg.size
 replace bc := bc.growx hg (by rintro ⟨j, _, hw⟩; simp only [WSOp9] at hw; rcases hw with ⟨rfl, hw⟩ | ⟨rfl, hw⟩ <;> first | (have := hvS _ hw; omega) | exact absurd rfl hne | exact hb (by decide) | omega)
 replace bm := bm.growx hg (by rintro ⟨j, _, hw⟩; simp only [WSOp9] at hw; rcases hw with ⟨rfl, hw⟩ | ⟨rfl, hw⟩ <;> first | (have := hvS _ hw; omega) | exact absurd rfl hne | exact hb (by decide) | omega)
 replace hB := hB.trans (hg.below (fun k hk => ⟨by omega, by rintro ⟨j, _, hw⟩; simp only [WSOp9] at hw; rcases hw with ⟨rfl, hw⟩ | ⟨rfl, hw⟩ <;> first | (have := hvS _ hw; omega) | exact absurd rfl hne | exact hb (by decide) | omega⟩))
 have hr : List.range 12 = [0, 1, 2, 3, 4, 5, 6, 7, 8, 9, 10, 11] := rfl
 rw [hr]
 clear hr
 simp only [List.drop_succ_cons, List.drop_zero, List.drop_nil, actsD, Act.put, actL, h0, h1, h2, h3, h4, h8, h9, h10]
 clear h0 h1 h2 h3 h4 h8 h9 h10
 obtain ⟨r, S9, e5, hrg9, hs9⟩ := h5
 obtain ⟨r', e5', e7⟩ := h7
 obtain rfl : r = r' := by
  rw [e5] at e5'
  injection e5' with e5'
  injection e5' with e5'
  injection e5' with e5' _
  injection e5' with e5'
  injection e5' with e5'
  injection e5' with e5'
 rw [e7] at h11
 rw [h6, e7, e5]
 have hmG : m < G7 := by have := HBM7.out.lt; omega
 have F9 : Hid (Foot S S9 w w9) := Lib.hid (F7.out.fin hg (fun k hk => by
  obtain ⟨j, _, hw⟩ := hk
  simp only [WSOp9] at hw
  rcases hw with hw | hw
  ·exact .inl hw.2
  ·exact .inr (by have := HSB.out; omega)) (fun k hk => (hs9 k hk).imp (fun h => h) (fun h => by have := HSB.out; omega)))
 have HRG9 := Lib.hid hrg9
 have hsg : ∀ k, S9 k → k ≠ sb ∧ k ≠ sb + 1 ∧ k ≠ m := fun k hk => by
  rcases hs9 k hk with h | h
  ·have := hvS k h; omega
  ·omega
 have HBS9 := Lib.hid h11
 have HBC9 := Lib.hid bc
 have HBM9 := Lib.hid bm
 clear e5 e5' e7 h6 h11 hrg9 hs9 hg hsz hB bs bc bm hmG hvS hg7 HG7 hG7
 go_wp2_with fail
 go_upto_region 12 with (fail)
 have bs := HBS9.out
 have bc := HBC9.out
 have bm := HBM9.out
 obtain ⟨G9, hG9⟩ : ∃ x, w9.heap.size = x := ⟨_, rfl⟩
 have hg9 : sb + 1 < G9 ∧ m < G9 := by rw [← hG9]; exact ⟨bc.lt, bm.lt⟩
 have hB : Below 0 w9 w9 := Below.refl _ _
 have HG9 := Lib.hid hG9
 refine wp_region_partsDVK (WSOp12 W0 r d sb m lg pg G9 D S9) 12 bSOp12 [some 69, some 70, some 71, some 72, some 73, some 74, some 68, some 75, some 76, some 77, some 78, none, some 8] [[], [], [], [2], [], [1, 3, 4], [5], [5, 6], [5, 6], [0], [9], [7, 10]] [0, 1, 2, 3, 4, 5, 6, 7, 8, 9, 10, 11] [] (by decide) (by kernel_rfl) (by kernel_rfl) rfl (PSOp12 W0 r d sb m lg pg G9 D S9) (PSOp12_cong W0 r d sb m lg pg G9 D S9) (PSOp12_stable W0 r d sb m lg pg G9 D S9 hsg hg9 HGS.out) ?pSOp12 ?_
 case pSOp12 =>
  intro i hi o ho vs lo hx_ w' hg hp hdd
  match i, hi with
  | 0, _ =>
   obtain rfl := Option.some.inj ho
   clear ho
   simp only [actsD, Act.put, actL]
   have hsz := hg.size
   have e0 := (bc.growx hg (by rintro ⟨j, _, hne, hb, hw⟩; simp only [WSOp12] at hw; rcases hw with ⟨rfl, hw⟩ | ⟨rfl, hw⟩ <;> first | (have := hsg _ hw; omega) | exact absurd rfl hne | exact hb (by decide) | omega)).cell 0 _ rfl
   go_wp2
   exact ⟨_, rfl, GrowX.refl _, rfl⟩
  | 1, _ | 2, _ | 4, _ =>
   obtain rfl := Option.some.inj ho
   clear ho
   simp only [actsD, Act.put, actL]
   have hsz := hg.size
   go_wp2
   exact ⟨_, rfl, GrowX.refl _, rfl⟩
  | 3, _ =>
   obtain rfl := Option.some.inj ho
   clear ho
   simp only [actsD, Act.put, actL]
   obtain ⟨_, _, _, h2⟩ := hp 2 (by simp)
   simp only [PSOp12] at h2
   have hsz := hg.size
   rw [h2]
   go_wp2
   exact ⟨_, rfl, GrowX.refl _, rfl⟩
  | 5, _ =>
   obtain rfl := Option.some.inj ho
   clear ho
   simp only [actsD, Act.put, actL]
   obtain ⟨_, _, _, h1⟩ := hp 1 (by simp)
   simp only [PSOp12] at h1
   obtain ⟨_, _, _, h3⟩ := hp 3 (by simp)
   simp only [PSOp12] at h3
   obtain ⟨_, _, _, h4⟩ := hp 4 (by simp)
   simp only [PSOp12] at h4
   have hsz := hg.size
   rw [h1, h3, h4]
   have hbl : Below w9.heap.size w9 w' := hg.below (fun k hk => ⟨hk, by rintro ⟨j, _, hne, hb, hw⟩; simp only [WSOp12] at hw; rcases hw with ⟨rfl, hw⟩ | ⟨rfl, hw⟩ <;> first | exact absurd rfl hne | exact hb (by decide)⟩)
   have hcall := fopen_rg (HRG9.out.below hbl) (by rw [Dv.reads_c, Dv.reads_c, HC.out]; decide) (2 + lg) pg l3 (by rw [Dv.reads_len, Dv.reads_len, HL.out]; exact l4) (by rw [Dv.reads_sec, Dv.reads_sec]; exact HZ.out _)
   rw [show (((2 + lg : Nat)) : Int) = 2 + (lg : Int) by omega] at hcall
   have HCA := Lib.hid hcall
   clear hcall
   go_wp2_with fail
   refine HCA.out.mono ?_
   rintro er y ⟨f, S1, rfl, hr, hf1, hf2, hf3, hf⟩
   go_wp2
   exact ⟨_, rfl, hf.grow.mono (fun b h => .inl ⟨rfl, h⟩), f, S1, rfl, hr, hf1, hf2, by have := HG9.out; have := hbl.size; omega, fun k hk => (hf.new k hk).imp (fun h => h) (fun h => by have := HG9.out; have := hbl.size; omega)⟩
  | 6, _ =>
   obtain rfl := Option.some.inj ho
   clear ho
   simp only [actsD, Act.put, actL]
   obtain ⟨_, _, _, h5⟩ := hp 5 (by simp)
   simp only [PSOp12] at h5
   have hsz := hg.size
   go_wp2
   exact ⟨_, rfl, GrowX.refl _, rfl⟩
  | 7, _ =>
   obtain rfl := Option.some.inj ho
   clear ho
   simp only [actsD, Act.put, actL]
   obtain ⟨_, _, _, h5⟩ := hp 5 (by simp)
   simp only [PSOp12] at h5
   obtain ⟨_, _, _, h6⟩ := hp 6 (by simp)
   simp only [PSOp12] at h6
   have hsz := hg.size
   obtain ⟨f, S1, e5, _⟩ := h5
   rw [h6, e5]
   go_wp2
   exact ⟨_, rfl, GrowX.refl _, f, e5, rfl⟩
  | 8, _ =>
   obtain rfl := Option.some.inj ho
   clear ho
   simp only [actsD, Act.put, actL]
   obtain ⟨_, _, _, h5⟩ := hp 5 (by simp)
   simp only [PSOp12] at h5
   obtain ⟨_, _, _, h6⟩ := hp 6 (by simp)
   simp only [PSOp12] at h6
   have hsz := hg.size
   obtain ⟨f, S1, e5, _⟩ := h5
   rw [h6, e5]
   go_wp2
   exact ⟨_, rfl, GrowX.refl _, rfl⟩
  | 9, _ =>
   obtain rfl := Option.some.inj ho
   clear ho
   simp only [actsD, Act.put, actL]
   obtain ⟨_, _, _, h0⟩ := hp 0 (by simp)
   simp only [PSOp12] at h0
   have hsz := hg.size
   rw [h0]
   go_wp2
   exact ⟨_, rfl, GrowX.refl _, rfl⟩
  | 10, _ =>
   obtain rfl := Option.some.inj ho
   clear ho
   simp only [actsD, Act.put, actL]
   obtain ⟨_, _, _, h9⟩ := hp 9 (by simp)
   simp only [PSOp12] at h9
   have hsz := hg.size
   rw [h9]
   go_wp2
   exact ⟨_, rfl, GrowX.refl _, rfl⟩
  | 11, _ =>
   obtain rfl := Option.some.inj ho
   clear ho
   simp only [actsD, Act.put, actL]
   obtain ⟨_, _, _, h7⟩ := hp 7 (by simp)
   simp only [PSOp12] at h7
   obtain ⟨_, _, _, h10⟩ := hp 10 (by simp)
   simp only [PSOp12] at h10
   have hsz := hg.size
   rw [h10]
   have bz := bs.growx hg (by rintro ⟨j, _, hne, hb, hw⟩; simp only [WSOp12] at hw; rcases hw with ⟨rfl, hw⟩ | ⟨rfl, hw⟩ <;> first | (have := hsg _ hw; omega) | exact absurd rfl hne | exact hb (by decide) | omega)
   obtain ⟨rr, e5, e7⟩ := h7
   rw [e7]
   have cz := bz.cell 2 _ rfl
   have fz := bz.free
   have lz := bz.lt
   go_wp2
   exact ⟨.bool true, rfl, (growX_setCell w' sb 2 _).mono (fun k e => .inr ⟨rfl, e⟩), by simp only [PSOp12]; rw [e7]; exact bz.setCell 2 _⟩
  | (q + 12), hq => exact absurd hq (by omega)
 intro vS lo hi w12 hg hp hd
 obtain ⟨_, _, _, h0⟩ := hp 0 (by decide)
 replace h0 := h0 (by decide)
 obtain ⟨_, _, _, h1⟩ := hp 1 (by decide)
 replace h1 := h1 (by decide)
 obtain ⟨_, _, _, h2⟩ := hp 2 (by decide)
 replace h2 := h2 (by decide)
 obtain ⟨_, _, _, h3⟩ := hp 3 (by decide)
 replace h3 := h3 (by decide)
 obtain ⟨_, _, _, h4⟩ := hp 4 (by decide)
 replace h4 := h4 (by decide)
 obtain ⟨_, _, _, h5⟩ := hp 5 (by decide)
 replace h5 := h5 (by decide)
 obtain ⟨_, _, _, h6⟩ := hp 6 (by decide)
 replace h6 := h6 (by decide)
 obtain ⟨_, _, _, h7⟩ := hp 7 (by decide)
 replace h7 := h7 (by decide)
 obtain ⟨_, _, _, h8⟩ := hp 8 (by decide)
 replace h8 := h8 (by decide)
 obtain ⟨_, _, _, h9⟩ := hp 9 (by decide)
 replace h9 := h9 (by decide)
 obtain ⟨_, _, _, h10⟩ := hp 10 (by decide)
 replace h10 := h10 (by decide)
 obtain ⟨_, _, _, h11⟩ := hp 11 (by decide)
 replace h11 := h11 (by decide)
 simp only [PSOp12] at h0 h1 h2 h3 h4 h5 h6 h7 h8 h9 h10 h11
 clear hp hd
 have hsz := hg.size
 replace bc := bc.growx hg (by rintro ⟨j, _, hw⟩; simp only [WSOp12] at hw; rcases hw with ⟨rfl, hw⟩ | ⟨rfl, hw⟩ <;> first | (have := hsg _ hw; omega) | exact absurd rfl hne | exact hb (by decide) | omega)
 replace bm := bm.growx hg (by rintro ⟨j, _, hw⟩; simp only [WSOp12] at hw; rcases hw with ⟨rfl, hw⟩ | ⟨rfl, hw⟩ <;> first | (have := hsg _ hw; omega) | exact absurd rfl hne | exact hb (by decide) | omega)
 replace hB := hB.trans (hg.below (fun k hk => ⟨by omega, by rintro ⟨j, _, hw⟩; simp only [WSOp12] at hw; rcases hw with ⟨rfl, hw⟩ | ⟨rfl, hw⟩ <;> first | (have := hsg _ hw; omega) | exact absurd rfl hne | exact hb (by decide) | omega⟩))
 have hr : List.range 12 = [0, 1, 2, 3, 4, 5, 6, 7, 8, 9, 10, 11] := rfl
 rw [hr]
 clear hr
 simp only [List.drop_succ_cons, List.drop_zero, List.drop_nil, actsD, Act.put, actL, h0, h1, h2, h3, h4, h8, h9, h10]
 clear h0 h1 h2 h3 h4 h8 h9 h10
 obtain ⟨f, S12, e5, hrg12, hfb12, hnf12, hfG, hs12⟩ := h5
 obtain ⟨f', e5', e7⟩ := h7
 obtain rfl : f = f' := by
  rw [e5] at e5'
  injection e5' with e5'
  injection e5' with e5'
  injection e5' with e5' _
  injection e5' with e5'
  injection e5' with e5'
  injection e5' with e5'
 rw [e7] at h11
 rw [h6, e7, e5]
 have F12 : Hid (Foot S S12 w w12) := Lib.hid (F9.out.fin hg (fun k hk => by
  obtain ⟨j, _, hw⟩ := hk
  simp only [WSOp12] at hw
  rcases hw with hw | hw
  ·exact .inl hw.2
  ·exact .inr (by have := HSB.out; omega)) (fun k hk => (hs12 k hk).imp (fun h => h) (fun h => by have := HSB.out; omega)))
 have hio : IOV W0 r d f sb (sb + 1) lg (2 + lg) pg (⟨((D.reads 2).reads 1).reads 1, ⟨0, [], 0, 0⟩⟩, [.pointer (some ⟨d, 0, none⟩), .pointer (some ⟨r, 0, none⟩), .pointer (some ⟨f, 0, none⟩), .pointer none, .slice none 0 0, .slice none 0 0, .int .i64 0, .int .i64 1, .int .i64 0, .bool false, .int .i64 0, .int .i64 0]) (fun k => S12 k ∨ k = f ∨ k = sb ∨ k = sb + 1) w12 := by
  have ns : ∀ k, S12 k → k ≠ sb ∧ k ≠ sb + 1 := fun k hk => by
   rcases hs12 k hk with h | h
   ·exact ⟨(hsg k h).1, (hsg k h).2.1⟩
   ·omega
  exact ⟨S12, ⟨hrg12, by show ((((D.reads 2).reads 1).reads 1)).c = []; rw [Dv.reads_c, Dv.reads_c, Dv.reads_c]; exact HC.out, hfb12, h11, rfl, bc, hnf12, fun h => (ns _ h).1 rfl, fun h => (ns _ h).2 rfl, by omega, by omega, by omega, by have := HGS.out; omega, HGS.out, by have := HGS.out; omega, by show _ ≤ ((((D.reads 2).reads 1).reads 1)).l.length; rw [Dv.reads_len, Dv.reads_len, Dv.reads_len, HL.out]; exact l4⟩, rfl⟩
 have hfs : f ≠ m := by omega
 have hs12' : ∀ k, (S12 k ∨ k = f ∨ k = sb ∨ k = sb + 1) → k ≠ m := fun k hk => by
  rcases hk with hk | rfl | rfl | rfl
  ·rcases hs12 k hk with h | h
   ·exact (hsg k h).2.2
   ·omega
  ·exact hfs
  ·omega
  ·omega
 have HIO := Lib.hid hio
 have HBM12 := Lib.hid bm
 have HBC12 := Lib.hid bc
 have HBS12 := Lib.hid h11
 have HSM := Lib.hid hs12'
 have hGm := hg9.2
 have HFG := Lib.hid hfG
 clear e5 e5' e7 h6 h11 hrg12 hfb12 hnf12 hs12 hg hsz hB bs bc bm hio hs12' hg9 HG9 hG9 hfs hsg HRG9
 go_wp2_with fail
 go_upto_region 15 with (fail)
 have bs := HBS12.out
 have bc := HBC12.out
 have bm := HBM12.out
 obtain ⟨G12, hG12⟩ : ∃ x, w12.heap.size = x := ⟨_, rfl⟩
 have hg12 : sb + 1 < G12 ∧ m < G12 := by rw [← hG12]; exact ⟨bc.lt, bm.lt⟩
 have hB : Below 0 w12 w12 := Below.refl _ _
 have HG12 := Lib.hid hG12
 have hpg : pg ≤ 8192 := by omega
 refine wp_region_partsDVK (WSOp15 W0 r d f sb m nf lg pg G12 D S12) 14 bSOp15 [some 83, some 84, some 85, some 86, some 87, some 88, some 89, some 90, some 82, some 91, some 92, some 93, some 94, none, some 8] [[], [], [1], [2], [3], [], [], [4, 5, 6], [7], [8], [8], [0], [11], [7, 8, 9, 12]] [0, 1, 2, 3, 4, 5, 6, 8, 9, 10, 11, 12, 13] [(7, 13)] (by decide) (by kernel_rfl) (by kernel_rfl) rfl (PSOp15 W0 r d f sb m nf lg pg G12 D S12) (PSOp15_cong W0 r d f sb m nf lg pg G12 D S12) (PSOp15_stable W0 r d f sb m nf lg pg G12 D S12 ) ?pSOp15 ?_
 case pSOp15 =>
  intro i hi o ho vs lo hx_ w' hg hp hdd
  match i, hi with
  | 0, _ | 1, _ =>
   obtain rfl := Option.some.inj ho
   clear ho
   simp only [actsD, Act.put, actL]
   have hsz := hg.size
   have e0 := (bc.growx hg (by rintro ⟨j, _, hne, hb, hw⟩; simp only [WSOp15] at hw; obtain ⟨rfl, hw⟩ := hw; first | exact absurd rfl hne | exact hb (by decide) | omega)).cell 0 _ rfl
   go_wp2
   exact ⟨_, rfl, GrowX.refl _, rfl⟩
  | 2, _ =>
   obtain rfl := Option.some.inj ho
   clear ho
   simp only [actsD, Act.put, actL]
   obtain ⟨_, _, _, h1⟩ := hp 1 (by simp)
   simp only [PSOp15] at h1
   have hsz := hg.size
   rw [h1]
   go_wp2
   exact ⟨_, rfl, GrowX.refl _, rfl⟩
  | 3, _ =>
   obtain rfl := Option.some.inj ho
   clear ho
   simp only [actsD, Act.put, actL]
   obtain ⟨_, _, _, h2⟩ := hp 2 (by simp)
   simp only [PSOp15] at h2
   have hsz := hg.size
   rw [h2]
   go_wp2
   exact ⟨_, rfl, GrowX.refl _, rfl⟩
  | 4, _ =>
   obtain rfl := Option.some.inj ho
   clear ho
   simp only [actsD, Act.put, actL]
   obtain ⟨_, _, _, h3⟩ := hp 3 (by simp)
   simp only [PSOp15] at h3
   have hsz := hg.size
   rw [h3]
   have e0 := (bs.growx hg (by rintro ⟨j, _, hne, hb, hw⟩; simp only [WSOp15] at hw; obtain ⟨rfl, hw⟩ := hw; first | exact absurd rfl hne | exact hb (by decide) | omega)).cell 2 _ rfl
   go_wp2
   exact ⟨_, rfl, GrowX.refl _, rfl⟩
  | 5, _ | 6, _ =>
   obtain rfl := Option.some.inj ho
   clear ho
   simp only [actsD, Act.put, actL]
   have hsz := hg.size
   go_wp2
   exact ⟨_, rfl, GrowX.refl _, rfl⟩
  | 7, _ =>
   obtain rfl := Option.some.inj ho
   clear ho
   simp only [actsD, Act.put, actL]
   obtain ⟨_, _, _, h4⟩ := hp 4 (by simp)
   simp only [PSOp15] at h4
   obtain ⟨_, _, _, h5⟩ := hp 5 (by simp)
   simp only [PSOp15] at h5
   obtain ⟨_, _, _, h6⟩ := hp 6 (by simp)
   simp only [PSOp15] at h6
   have hsz := hg.size
   rw [h4, h5, h6]
   have hbl : Below w12.heap.size w12 w' := hg.below (fun k hk => ⟨hk, by rintro ⟨j, _, hne, hb, hw⟩; simp only [WSOp15] at hw; obtain ⟨rfl, hw⟩ := hw; first | exact absurd rfl hne | exact hb (by decide)⟩)
   have hio := HIO.out.below hbl
   have hcall := pnew2_pv (n := nf) (io_of (n := lg) (fr := 2 + lg) (r := r) (d := d) (f := f) (sb := sb) (cv := sb + 1) (W0 := W0) hpg) (S1 := fun _ => False) ⟨hio.bel, rfl⟩ hio (fun _ h => h.elim) hn1 hn2
   have HCA := Lib.hid hcall
   clear hcall
   go_wp2_with fail
   refine HCA.out.mono ?_
   rintro er y ⟨g, S1, rfl, hpv, hbl2, hsk⟩
   go_wp2
   exact ⟨_, rfl, grow_no hbl2, g, S1, rfl, ⟨hpv, hpg⟩, fun k hk => (hsk k hk).imp (fun h => h.elim (fun h => h.elim) (fun h => h)) (fun h => by have := HG12.out; have := hbl.size; omega)⟩
  | 8, _ =>
   obtain rfl := Option.some.inj ho
   clear ho
   simp only [actsD, Act.put, actL]
   obtain ⟨_, _, _, h7⟩ := hp 7 (by simp)
   simp only [PSOp15] at h7
   have hsz := hg.size
   obtain ⟨g, S1, e7, _⟩ := h7
   rw [e7]
   go_wp2
   exact ⟨_, rfl, GrowX.refl _, g, e7, rfl⟩
  | 9, _ =>
   obtain rfl := Option.some.inj ho
   clear ho
   simp only [actsD, Act.put, actL]
   obtain ⟨_, _, _, h8⟩ := hp 8 (by simp)
   simp only [PSOp15] at h8
   have hsz := hg.size
   obtain ⟨g, _, e8⟩ := h8
   rw [e8]
   go_wp2
   exact ⟨_, rfl, GrowX.refl _, g, e8, rfl⟩
  | 10, _ =>
   obtain rfl := Option.some.inj ho
   clear ho
   simp only [actsD, Act.put, actL]
   obtain ⟨_, _, _, h8⟩ := hp 8 (by simp)
   simp only [PSOp15] at h8
   have hsz := hg.size
   obtain ⟨g, _, e8⟩ := h8
   rw [e8]
   go_wp2
   exact ⟨_, rfl, GrowX.refl _, rfl⟩
  | 11, _ =>
   obtain rfl := Option.some.inj ho
   clear ho
   simp only [actsD, Act.put, actL]
   obtain ⟨_, _, _, h0⟩ := hp 0 (by simp)
   simp only [PSOp15] at h0
   have hsz := hg.size
   rw [h0]
   go_wp2
   exact ⟨_, rfl, GrowX.refl _, rfl⟩
  | 12, _ =>
   obtain rfl := Option.some.inj ho
   clear ho
   simp only [actsD, Act.put, actL]
   obtain ⟨_, _, _, h11⟩ := hp 11 (by simp)
   simp only [PSOp15] at h11
   have hsz := hg.size
   rw [h11]
   go_wp2
   exact ⟨_, rfl, GrowX.refl _, rfl⟩
  | 13, _ =>
   obtain rfl := Option.some.inj ho
   clear ho
   simp only [actsD, Act.put, actL]
   obtain ⟨_, _, _, h7⟩ := hp 7 (by simp)
   simp only [PSOp15] at h7
   obtain ⟨_, _, _, h8⟩ := hp 8 (by simp)
   simp only [PSOp15] at h8
   obtain ⟨_, _, _, h9⟩ := hp 9 (by simp)
   simp only [PSOp15] at h9
   obtain ⟨_, _, _, h12⟩ := hp 12 (by simp)
   simp only [PSOp15] at h12
   have hsz := hg.size
   rw [h12]
   obtain ⟨g, S1, e7, hsp, hsk⟩ := h7
   obtain ⟨g', e7', e8⟩ := h8
   obtain ⟨g'', e8', e9⟩ := h9
   obtain rfl : g = g' := tup_inj (e7.symm.trans e7')
   obtain rfl : g = g'' := tup_inj (e8.symm.trans e8')
   rw [e9]
   have bz := hsp.cells.1
   have cz := bz.cell 3 _ rfl
   have fz := bz.free
   have lz := bz.lt
   obtain ⟨S2, hsp2, hf2⟩ := hsp.poke 3 (by decide) (.pointer (some ⟨g, 0, none⟩))
   go_wp2
   refine ⟨.bool true, rfl, (growX_setCell w' sb 3 _).mono (fun k e => ⟨rfl, e⟩), ?_⟩
   simp only [PSOp15]
   exact ⟨g, S2, e9, hsp2, fun k hk => (hf2.new k hk).elim (hsk k) (fun h => .inr (by have := HG12.out; omega))⟩
  | (q + 14), hq => exact absurd hq (by omega)
 intro vS lo hi w15 hg hp hd
 obtain ⟨_, _, _, h0⟩ := hp 0 (by decide)
 replace h0 := h0 (by decide)
 obtain ⟨_, _, _, h1⟩ := hp 1 (by decide)
 replace h1 := h1 (by decide)
 obtain ⟨_, _, _, h2⟩ := hp 2 (by decide)
 replace h2 := h2 (by decide)
 obtain ⟨_, _, _, h3⟩ := hp 3 (by decide)
 replace h3 := h3 (by decide)
 obtain ⟨_, _, _, h4⟩ := hp 4 (by decide)
 replace h4 := h4 (by decide)
 obtain ⟨_, _, _, h5⟩ := hp 5 (by decide)
 replace h5 := h5 (by decide)
 obtain ⟨_, _, _, h6⟩ := hp 6 (by decide)
 replace h6 := h6 (by decide)
 obtain ⟨_, _, _, h8⟩ := hp 8 (by decide)
 replace h8 := h8 (by decide)
 obtain ⟨_, _, _, h9⟩ := hp 9 (by decide)
 replace h9 := h9 (by decide)
 obtain ⟨_, _, _, h10⟩ := hp 10 (by decide)
 replace h10 := h10 (by decide)
 obtain ⟨_, _, _, h11⟩ := hp 11 (by decide)
 replace h11 := h11 (by decide)
 obtain ⟨_, _, _, h12⟩ := hp 12 (by decide)
 replace h12 := h12 (by decide)
 obtain ⟨_, _, _, h13⟩ := hp 13 (by decide)
 replace h13 := h13 (by decide)
 simp only [PSOp15] at h0 h1 h2 h3 h4 h5 h6 h8 h9 h10 h11 h12 h13
 clear hp hd
 have hsz := hg.size
 replace bc := bc.growx hg (by rintro ⟨j, _, hw⟩; simp only [WSOp15] at hw; omega)
 replace bm := bm.growx hg (by rintro ⟨j, _, hw⟩; simp only [WSOp15] at hw; omega)
 replace hB := hB.trans (hg.below (fun k hk => ⟨by omega, by rintro ⟨j, _, hw⟩; simp only [WSOp15] at hw; omega⟩))
 have hr : List.range 14 = [0, 1, 2, 3, 4, 5, 6, 7, 8, 9, 10, 11, 12, 13] := rfl
 rw [hr]
 clear hr
 simp only [List.drop_succ_cons, List.drop_zero, List.drop_nil, actsD, Act.put, actL, h0, h1, h2, h3, h4, h5, h6, h10, h11, h12]
 clear h0 h1 h2 h3 h4 h5 h6 h10 h11 h12
 obtain ⟨g, S15, e9, hsp15, hs15⟩ := h13
 obtain ⟨g', e8', e9'⟩ := h9
 obtain rfl : g = g' := by
  rw [e9] at e9'
  injection e9' with e9'
  injection e9' with e9'
  injection e9' with e9'
 obtain ⟨g'', e7, e8⟩ := h8
 obtain rfl : g = g'' := tup_inj (e8'.symm.trans e8)
 rw [e8, e9, e7]
 have F15 : Hid (Foot S S15 w w15) := Lib.hid (F12.out.fin hg (fun k hk => by
  obtain ⟨j, _, hw⟩ := hk
  simp only [WSOp15] at hw
  exact .inr (by have := HSB.out; omega)) (fun k hk => by
   rcases hs15 k hk with (h | rfl | rfl | rfl) | h
   ·exact .inl h
   ·exact .inr (by have := HSB.out; have := HFG.out; omega)
   ·exact .inr (by have := HSB.out; omega)
   ·exact .inr (by have := HSB.out; omega)
   ·exact .inr (by have := HSB.out; omega)))
 have hsv : SvAt W0 w15 ⟨sb, r, d, f, sb + 1, g, nf⟩ (Cf.of L) ⟨⟨((D.reads 2).reads 1).reads 1, ⟨0, [], 0, 0⟩⟩, Pq.new nf, [], [], 0, 1, 0, 0, 0⟩ (.slice none 0 0) (.slice none 0 0) [] [] (fun _ => False) S15 := by
  have e1 : Cf.of L = ⟨lg, 2 + lg, pg⟩ := by unfold Cf.of; rw [HLG.out, HPG.out]
  rw [e1]
  exact ⟨hsp15, ⟨⟨rfl, .inl ⟨rfl, rfl⟩⟩, fun e h => (by cases h), fun e h => (by cases h)⟩, rfl, ⟨⟨rfl, .inl ⟨rfl, rfl⟩⟩, fun e h => (by cases h), List.Pairwise.nil, fun e h => (by cases h)⟩, rfl, fun k h => h.elim,
   fun k _ h => (by cases h), fun k _ h => (by rcases h with h | ⟨e, h, _⟩ <;> cases h), fun k _ h => (by rcases h with h | ⟨e, h, _⟩ <;> cases h), fun k h => h.elim, fun k h => h.elim, fun k h => h.elim⟩
 have HSV := Lib.hid hsv
 have hmS : ¬ S15 m := fun h => by
  rcases hs15 m h with h | h
  ·exact HSM.out m h rfl
  ·omega
 have HMS15 := Lib.hid hmS
 have hrs := restart0_at hsv 0 0 rfl rfl rfl (fun x hx => by
  have h1 : x = Fm.free := (List.mem_replicate.1 hx).2
  rw [h1]; rfl) (by decide) (by show (0 : Nat) ≤ _; decide) (by show (1 : Nat) ≤ _; decide) (by decide)
 have HRS : Hid (Calls Tryz.prog 84 #[.pointer (some ⟨sb, 0, none⟩), .int .i64 0] w15 _) := Lib.hid hrs
 have c1 := bc.cell 0 _ rfl
 have c2 := bm.cell 2 _ rfl
 have clt1 := bc.lt
 have clt2 := bm.lt
 clear e9 e9' e7 e8 e8' hsp15 hs15 hg hsz hB bs bc bm hg12 hG12 hsv hmS hrs
 go_wp2_with fail
 refine HRS.out.mono ?_
 rintro er y9 ⟨S16, rfl, hs16, hf16⟩
 obtain ⟨_, _, d3, _, _⟩ := hs16.sp.cells
 have d1 := d3.cell 0 _ rfl
 have dlt := d3.lt
 have HS16 := Lib.hid hs16
 have HF16 := Lib.hid hf16
 clear hs16 hf16 d3 c1 c2 clt1 clt2
 go_wp2_with fail
 go_ret2
 have FF : Foot S (sfoot S15 (.slice none 0 0) (.slice none 0 0) [] (fun _ => False)) w w15 := ⟨F15.out.grow, fun k hk => by
  rcases hk with hk | hk | hk | hk
  ·exact F15.out.new k hk
  ·cases hk
  ·rcases hk with hk | ⟨e, hk, _⟩ <;> cases hk
  ·exact hk.elim⟩
 exact ⟨⟨sb, r, d, f, sb + 1, g, nf⟩, S16, rfl, rfl, rfl, HS16.out, FF.trans HF16.out⟩
end
end
end Go.Proofs.YtpajagkhmodbnaaGreat

/- The store: Back (to a place that is there). Conditions: the device does not fail; sizes. -/
import Derived.Test.YtpajagkhmodbnaaGreatPk24
import Derived.Test.YtpajagkhmodbnaaGreatPk11
namespace Go.Proofs.YtpajagkhmodbnaaGreat
set_option linter.unusedSimpArgs false
set_option linter.unusedVariables false
open Go.RowKit
theorem aggLn (w : World) : (isAgg 87).run Tryz.prog w = .ok true w := by kernel_rfl
theorem sizeLn (w : World) : (Go.sizeOf 87).run Tryz.prog w = .ok 12 w := by kernel_rfl
instance : Inhabited Le := ⟨⟨0, Rc.zero, .slice none 0 0, .slice none 0 0⟩⟩
theorem idxL_any (E : List Le) (n lb c : Nat) (fn : Nat) (caps : Array Value) (p : Le → Bool) (F : World → Prop) (eg : ∀ args w, (callFunc fn args).run Tryz.prog w = .ok (.enter fn args) w)
  (hP : ∀ W (x : Le), F W → Calls Tryz.prog fn (#[.agg (lcell x).toArray] ++ caps) W fun e w' => e = .returned (.bool (p x)) ∧ Below W.heap.size W w')
  (hst : ∀ W W', F W → Below W.heap.size W W' → F W') (hl : E.length = n) (hn : n ≤ 1099511627776) (hpos : 0 < n) (w : World) (hF : F w) (hv : Reads 12 w (.slice (some ⟨lb, 0, none⟩) n c) n (lcells E)) :
  Calls Tryz.prog 121 #[.slice (some ⟨lb, 0, none⟩) n c, .func (.func fn) #[] caps] w fun e w' => e = .returned (.int .i64 (atI (E.findIdx? p))) ∧ Below w.heap.size w w' := by
 obtain ⟨_, _, b, o, e1, hbl, hc⟩ := hv.some_addr hpos
 injection e1 with e1
 injection e1 with e1 e2
 subst e1 e2
 have := AnyQ.slices_IndexFunc (α := Le) Tryz.idxLn 12 aggLn sizeLn lcell (fun _ => rfl) p fn caps eg lb 0 n c E w
  (fun W x hW => (hP W x (hst w W hF hW)).mono fun _ _ ⟨h1, h2⟩ => ⟨h1, hW.trans (h2.mono hW.size)⟩) (Nat.le_of_eq hl.symm) (by omega) hbl
  (fun j hj i v hi => by rw [Nat.add_assoc]; exact hc _ _ (flat_at lcell 12 (fun _ => rfl) E j hj i v hi))
 rw [List.take_of_length_le (Nat.le_of_eq hl), idx_findIdx] at this
 exact this
def isMark (mark t : Nat) (x : Le) : Bool := decide (x.lsn = mark) && decide (x.r.txn = t)
theorem bclos_any (gm gt mark t : Nat) (x : Le) (w : World) (hb1 : Box w gm [.int .i64 (mark : Nat)]) (hb2 : Box w gt [.int .i64 (t : Nat)]) :
  Calls Tryz.prog 86 #[.agg (lcell x).toArray, .pointer (some ⟨gm, 0, none⟩), .pointer (some ⟨gt, 0, none⟩)] w fun e w' => e = .returned (.bool (isMark mark t x)) ∧ Below w.heap.size w w' := by
 have hc1 := hb1.cell 0 _ rfl
 have hl1 := hb1.lt
 have hc2 := hb2.cell 0 _ rfl
 have hl2 := hb2.lt
 clear hb1 hb2
 obtain ⟨lsn, ⟨kd, tx, pr, nx, pg, of, bb, aa, tt, dd, cc⟩, vb, va⟩ := x
 by_cases h : lsn = mark
 ·subst h
  by_cases h2 : tx = t
  ·subst h2
   have HB : Hid (isMark lsn tx ⟨lsn, ⟨kd, tx, pr, nx, pg, of, bb, aa, tt, dd, cc⟩, vb, va⟩ = true) := Lib.hid (by simp [isMark])
   rw [HB.out]
   simp only [lcell, recL]
   go_enter Tryz.func86, Tryz.ntmps86
   go_wp2
   go_ret
   exact ⟨rfl, (Below.refl _ _).alloc (Nat.le_refl _) _⟩
  ·have HB : Hid (isMark lsn t ⟨lsn, ⟨kd, tx, pr, nx, pg, of, bb, aa, tt, dd, cc⟩, vb, va⟩ = false) := Lib.hid (by simp [isMark, h2])
   rw [HB.out]
   simp only [lcell, recL]
   have b1 : decide ((tx : Int) = (t : Int)) = false := by simp; omega
   have b2 : ((tx : Int) == (t : Int)) = false := by simp; omega
   go_enter Tryz.func86, Tryz.ntmps86
   go_wp2
   go_ret
   exact ⟨rfl, (Below.refl _ _).alloc (Nat.le_refl _) _⟩
 ·have HB : Hid (isMark mark t ⟨lsn, ⟨kd, tx, pr, nx, pg, of, bb, aa, tt, dd, cc⟩, vb, va⟩ = false) := Lib.hid (by simp [isMark, h])
  rw [HB.out]
  simp only [lcell, recL]
  have b1 : decide ((lsn : Int) = (mark : Int)) = false := by simp; omega
  have b2 : ((lsn : Int) == (mark : Int)) = false := by simp; omega
  go_enter Tryz.func86, Tryz.ntmps86
  go_wp2
  go_ret
  exact ⟨rfl, (Below.refl _ _).alloc (Nat.le_refl _) _⟩
set_option maxRecDepth 100000 in
set_option maxHeartbeats 3200000 in
theorem hasL_any (E : List Le) (n lb c gm gt mark t : Nat) (hl : E.length = n) (hn : n ≤ 1099511627776) (hpos : 0 < n) (w : World) (hb1 : Box w gm [.int .i64 (mark : Nat)]) (hb2 : Box w gt [.int .i64 (t : Nat)]) (hv : Reads 12 w (.slice (some ⟨lb, 0, none⟩) n c) n (lcells E)) (hin : ∃ x ∈ E, isMark mark t x = true) :
  Calls Tryz.prog 85 #[.slice (some ⟨lb, 0, none⟩) n c, .func (.func 86) #[] #[.pointer (some ⟨gm, 0, none⟩), .pointer (some ⟨gt, 0, none⟩)]] w fun e w' => e = .returned (.bool true) ∧ Below w.heap.size w w' := by
 have hcall := idxL_any E n lb c 86 #[.pointer (some ⟨gm, 0, none⟩), .pointer (some ⟨gt, 0, none⟩)] (isMark mark t) (fun W => Box W gm [.int .i64 (mark : Nat)] ∧ Box W gt [.int .i64 (t : Nat)])
  (enters_of Tryz.func86 (by kernel_rfl) rfl) (fun W x hF => bclos_any gm gt mark t x W hF.1 hF.2) (fun W W' hF hb => ⟨hF.1.below hb (Nat.le_refl _), hF.2.below hb (Nat.le_refl _)⟩) hl hn hpos w ⟨hb1, hb2⟩ hv
 obtain ⟨i, hi⟩ : ∃ i, E.findIdx? (isMark mark t) = some i := by
  cases h : E.findIdx? (isMark mark t) with
  | some i => exact ⟨i, rfl⟩
  | none =>
   obtain ⟨x, hx, hp⟩ := hin
   have := List.findIdx?_eq_none_iff.1 h x hx
   rw [hp] at this; cases this
 rw [hi] at hcall
 have HC := Lib.hid hcall
 have hb : decide ((i : Int) ≥ 0) = true := by simp
 clear hcall hb1 hb2 hv hin hi
 go_enter Tryz.func85, Tryz.ntmps85
 go_wp2_with fail
 refine HC.out.mono ?_
 rintro e y ⟨rfl, hb2⟩
 have HB2 := Lib.hid hb2
 clear hb2
 simp only [atI]
 go_wp2_with fail
 go_ret
 exact ⟨rfl, HB2.out⟩
def WSBk7 (e : Te) (gm mark t la : Nat) (j b o : Nat) : Prop := False
def PSBk7 (e : Te) (gm mark t la : Nat) (i : Nat) (v : Value) (lo hi : Nat) (w : World) : Prop :=
 match i with
 | 0 => v = .int .i64 (mark : Nat)
 | 1 => v = .bool false
 | 2 => v = .bool false
 | 3 => v = .int .i64 (mark : Nat)
 | 4 => v = .pointer (some ⟨e.t, 0, none⟩)
 | 5 => v = .pointer (some ⟨e.t, 0, none⟩)
 | 6 => v = .pointer (some ⟨e.t, 2, none⟩)
 | 7 => v = .int .i64 (la : Nat)
 | 8 => v = .bool false
 | 9 => v = .bool false
 | 10 => v = .bool false
 | 11 => v = .bool true
 | 12 => v = .bool false
 | 13 => v = .bool false
 | _ => True
theorem PSBk7_stable (e : Te) (gm mark t la : Nat)  : ∀ i j, i < 14 → j < 14 → j ≠ i → j ∉ ([[], [0], [0, 1], [0, 1, 2], [0, 1, 2], [0, 1, 2, 4], [0, 1, 2, 4, 5], [0, 1, 2, 4, 5, 6], [0, 1, 2, 3, 4, 5, 6, 7], [0, 1, 2, 3, 4, 5, 6, 7, 8], [0, 1, 2, 3, 4, 5, 6, 7, 8, 9], [0, 1, 2, 3, 4, 5, 6, 7, 8, 9, 10], [0, 1, 2, 3, 4, 5, 6, 7, 8, 9, 10, 11], [0, 1, 2, 3, 4, 5, 6, 7, 8, 9, 10, 11, 12]] : List (List Nat)).getD i [] → ∀ v lo hi w w', PSBk7 e gm mark t la i v lo hi w → GrowC (WSBk7 e gm mark t la j) w w' → PSBk7 e gm mark t la i v lo hi w' := by
 intro i j hi hj hne hbs v lo hj2 w w' h hg
 match i, hi with
 | 0, _ | 1, _ | 2, _ | 3, _ | 4, _ | 5, _ | 6, _ | 7, _ | 8, _ | 9, _ | 10, _ | 11, _ | 12, _ | 13, _ =>
  simp only [PSBk7] at h ⊢
  exact h
 | (q + 14), hq => exact absurd hq (by omega)
section
variable {W0 w w' w2 : World} {A : Adr} {c : Cf} {σ : St} {S : Nat → Prop} {vl vo vo' : Value} {EL : List Le} {EO : List Te} {K S1 : Nat → Prop} {X : Nat → Prop}
set_option maxRecDepth 100000 in
set_option maxHeartbeats 6400000 in
theorem back_at (h : SvAt W0 w A c σ vl vo EL EO K S1) (hn : EO.length ≤ 1000000) (i : Nat) (e : Te) (hof : σ.of (e.x.id : Int) = some i) (hei : EO[i]? = some e) (mark : Nat) (hm1 : 1 ≤ mark) (hm2 : mark ≤ e.x.last) (hin : ∃ y ∈ σ.lines, y.1 = mark ∧ y.2.txn = e.x.id) (hu : TxP c.pg e.EU) (hm : e.EU.length ≤ 1000000) (hpp : c.pg ≤ 1099511627776) (hid : e.x.id ≤ 1099511627776) (hla : e.x.last ≤ 1099511627776)
  (hk : upsA e.EU ≤ σ.io.R.room c.n) (ht : σ.io.R.tail + upsA e.EU ≤ 1099511627679) (hl : EL.length + e.EU.length ≤ 1000000) (hwr : σ.p.wr + 2 * e.EU.length ≤ 1000000000) :
  Calls Tryz.prog 42 #[.pointer (some ⟨A.sb, 0, none⟩), .int .i64 (e.x.id : Nat), .int .i64 (mark : Nat)] w fun er w' => ∃ S', er = .returned (.int .i64 0) ∧ SV W0 A c (St.undo c i mark (e.EU.length + 1) σ).2 S' w' ∧ Foot (sfoot S1 vl vo EO K) S' w w' := by
 have HS := Lib.hid h
 have HEI := Lib.hid hei
 have c9 := h.sbx.cell 9 _ rfl
 have c4 := h.sbx.cell 4 _ rfl
 have clt := h.sbx.lt
 have HOA := Lib.hid (fun (w1 : World) (hb : Below w.heap.size w w1) => of_at (h.below hb) (e.x.id : Int) (Nat.le_trans hn (by decide)))
 have HUN := Lib.hid (fun (w1 : World) (hb : Below w.heap.size w w1) => undo_at (h.below hb) i mark (by omega) e hei hu hm hpp 1099511627679 1000000 1000000000 0 (by decide) (by decide) (by decide) (by omega) hid hla ht hl hwr)
 have HO1 := Lib.hid hof
 have HIN : Hid (∃ x ∈ EL, isMark mark e.x.id x = true) := Lib.hid (by
  obtain ⟨y, hy, y1, y2⟩ := hin
  rw [h.lis] at hy
  obtain ⟨x, hx, rfl⟩ := List.mem_map.1 hy
  exact ⟨x, hx, by simp only at y1 y2; simp [isMark, y1, y2]⟩)
 have hpos : 0 < EL.length := by
  obtain ⟨x, hx, _⟩ := HIN.out
  exact List.length_pos_of_mem hx
 obtain ⟨lb, cl, hvl, _⟩ := own_slice h.ln.row hpos
 have HRL := Lib.hid (Reads.of_own h.ln.row)
 have HVL := Lib.hid hvl
 have HET := (h.tx.at_ e (List.mem_of_getElem? hei)).box
 have hcx2 := HET.cell 2 _ rfl
 have hltx := HET.lt
 have b1 : decide ((mark : Int) < 1) = false := by simp; omega
 have b1n : decide (mark < 1) = false := by simp; omega
 have b2 : decide ((mark : Int) > (e.x.last : Int)) = false := by simp; omega
 have b2n : decide (e.x.last < mark) = false := by simp; omega
 have b2m : decide ((e.x.last : Int) < (mark : Int)) = false := by simp; omega
 have hELn : EL.length ≤ 1099511627776 := by omega
 have HPOS := Lib.hid hpos
 obtain ⟨t, htt⟩ : ∃ t : Nat, e.x.id = t := ⟨_, rfl⟩
 obtain ⟨la, hlaa⟩ : ∃ t : Nat, e.x.last = t := ⟨_, rfl⟩
 rw [htt] at HOA HO1 HIN ⊢
 rw [hlaa] at b2 b2n b2m hcx2
 have HLA := Lib.hid hlaa
 have HTT := Lib.hid htt
 rw [hvl] at c4
 clear h hei hof hn hu hm hpp hk ht hl hwr hid hla hin htt hlaa hvl hpos HET
 go_enter Tryz.func42, Tryz.ntmps42
 go_wp2_with fail
 have bt0 := Box.new w #[.int .i64 (t : Nat)] 3 rfl
 have bt := bt0.alloc (.cells #[.int .i64 (mark : Nat)] 3)
 have bm := Box.new (w.alloc (.cells #[.int .i64 (t : Nat)] 3)) #[.int .i64 (mark : Nat)] 3 rfl
 have hb := ((Below.refl w.heap.size w).alloc (Nat.le_refl _) (.cells #[.int .i64 (t : Nat)] 3)).alloc (by simp) (.cells #[.int .i64 (mark : Nat)] 3)
 have hgm : (w.alloc (.cells #[.int .i64 (t : Nat)] 3)).heap.size = w.heap.size + 1 := by simp
 rw [hgm] at bm
 obtain ⟨gt, hgt⟩ : ∃ x, w.heap.size = x := ⟨_, rfl⟩
 obtain ⟨gm, hgm2⟩ : ∃ x, w.heap.size + 1 = x := ⟨_, rfl⟩
 have HGT := Lib.hid hgt
 have HB := Lib.hid hb
 have hge : e.t < w.heap.size := hltx
 rw [hgm2] at bm ⊢
 rw [hgt] at bt ⊢
 clear bt0 hb hgm
 generalize (w.alloc (.cells #[.int .i64 (t : Nat)] 3)).alloc (.cells #[.int .i64 (mark : Nat)] 3) = w1 at *
 refine (HOA.out w1 HB.out).mono ?_
 rintro er y0 ⟨⟨v, rfl, hofe⟩, hy⟩
 obtain rfl : w1 = y0 := hy.symm
 obtain rfl := of_get hofe HO1.out HEI.out
 have d4 : w1.cell? ⟨A.sb, 4, none⟩ = some (.slice (some ⟨lb, 0, none⟩) EL.length cl) := (HB.out.cell (p := ⟨A.sb, 4, none⟩) clt).trans c4
 have dlt : A.sb < w1.heap.size := Nat.lt_of_lt_of_le clt HB.out.size
 have hrl : Reads 12 w1 (.slice (some ⟨lb, 0, none⟩) EL.length cl) EL.length (lcells EL) := by
  have h1 := HRL.out.below HB.out (Nat.le_refl _)
  rw [HVL.out] at h1
  exact h1
 have hhas := hasL_any EL EL.length lb cl gm gt mark t rfl hELn HPOS.out w1 bm bt hrl HIN.out
 have HH := Lib.hid hhas
 have HBT := Lib.hid bt
 have HBM := Lib.hid bm
 clear hofe HOA c4 c9 clt hrl hhas bt bm
 go_wp2_with fail
 refine HH.out.mono ?_
 rintro er y2 ⟨rfl, hb2⟩
 have HB2 := Lib.hid hb2
 have bm := HBM.out.below hb2 (Nat.le_refl _)
 have be := (((HS.out.tx.at_ e (List.mem_of_getElem? HEI.out)).box.below HB.out (Nat.le_refl _)).below hb2 (Nat.le_refl _))
 clear hb2 HH d4 dlt
 go_wp2_with fail
 go_upto_region 7 with (fail)
 unfold tcell at be
 rw [HLA.out, HTT.out] at be
 have hB : Below y2.heap.size y2 y2 := Below.refl _ _
 have HBE := Lib.hid be
 refine wp_region_partsDC (WSBk7 e gm mark t la) 14 [[], [0], [0, 1], [0, 1, 2], [0, 1, 2], [0, 1, 2, 4], [0, 1, 2, 4, 5], [0, 1, 2, 4, 5, 6], [0, 1, 2, 3, 4, 5, 6, 7], [0, 1, 2, 3, 4, 5, 6, 7, 8], [0, 1, 2, 3, 4, 5, 6, 7, 8, 9], [0, 1, 2, 3, 4, 5, 6, 7, 8, 9, 10], [0, 1, 2, 3, 4, 5, 6, 7, 8, 9, 10, 11], [0, 1, 2, 3, 4, 5, 6, 7, 8, 9, 10, 11, 12]] [some 24, some 25, some 26, some 27, some 28, some 29, some 30, some 31, some 32, some 33, some 34, some 35, some 36, some 37] (by kernel_rfl) (by kernel_rfl) rfl (PSBk7 e gm mark t la) (PSBk7_stable e gm mark t la ) ?pSBk7 ?_
 case pSBk7 =>
  intro i hi o ho vs lo hx_ w' hg hp
  match i, hi with
  | 0, _ =>
   obtain rfl := Option.some.inj ho
   clear ho
   simp only [actsD, Act.put, actL]
   have hsz := hg.size
   have e0 := (hg.cell (gm) 0 bm.lt (by rintro ⟨j, _, hne, hb, hw⟩; exact False.elim hw)).trans (bm.cell 0 _ rfl)
   go_wp2
   exact ⟨_, rfl, GrowC.refl _, rfl⟩
  | 1, _ =>
   obtain rfl := Option.some.inj ho
   clear ho
   simp only [actsD, Act.put, actL]
   obtain ⟨_, _, _, h0⟩ := hp 0 (by simp)
   simp only [PSBk7] at h0
   have hsz := hg.size
   rw [h0]
   go_wp2
   exact ⟨_, rfl, GrowC.refl _, rfl⟩
  | 2, _ =>
   obtain rfl := Option.some.inj ho
   clear ho
   simp only [actsD, Act.put, actL]
   obtain ⟨_, _, _, h1⟩ := hp 1 (by simp)
   simp only [PSBk7] at h1
   have hsz := hg.size
   rw [h1]
   go_wp2
   exact ⟨_, rfl, GrowC.refl _, rfl⟩
  | 3, _ =>
   obtain rfl := Option.some.inj ho
   clear ho
   simp only [actsD, Act.put, actL]
   obtain ⟨_, _, _, h2⟩ := hp 2 (by simp)
   simp only [PSBk7] at h2
   have hsz := hg.size
   rw [h2]
   have e0 := (hg.cell (gm) 0 bm.lt (by rintro ⟨j, _, hne, hb, hw⟩; exact False.elim hw)).trans (bm.cell 0 _ rfl)
   go_wp2
   exact ⟨_, rfl, GrowC.refl _, rfl⟩
  | 4, _ =>
   obtain rfl := Option.some.inj ho
   clear ho
   simp only [actsD, Act.put, actL]
   obtain ⟨_, _, _, h2⟩ := hp 2 (by simp)
   simp only [PSBk7] at h2
   have hsz := hg.size
   rw [h2]
   go_wp2
   exact ⟨_, rfl, GrowC.refl _, rfl⟩
  | 5, _ =>
   obtain rfl := Option.some.inj ho
   clear ho
   simp only [actsD, Act.put, actL]
   obtain ⟨_, _, _, h2⟩ := hp 2 (by simp)
   simp only [PSBk7] at h2
   obtain ⟨_, _, _, h4⟩ := hp 4 (by simp)
   simp only [PSBk7] at h4
   have hsz := hg.size
   rw [h2, h4]
   go_wp2
   exact ⟨_, rfl, GrowC.refl _, rfl⟩
  | 6, _ =>
   obtain rfl := Option.some.inj ho
   clear ho
   simp only [actsD, Act.put, actL]
   obtain ⟨_, _, _, h2⟩ := hp 2 (by simp)
   simp only [PSBk7] at h2
   obtain ⟨_, _, _, h5⟩ := hp 5 (by simp)
   simp only [PSBk7] at h5
   have hsz := hg.size
   rw [h2, h5]
   go_wp2
   exact ⟨_, rfl, GrowC.refl _, rfl⟩
  | 7, _ =>
   obtain rfl := Option.some.inj ho
   clear ho
   simp only [actsD, Act.put, actL]
   obtain ⟨_, _, _, h2⟩ := hp 2 (by simp)
   simp only [PSBk7] at h2
   obtain ⟨_, _, _, h6⟩ := hp 6 (by simp)
   simp only [PSBk7] at h6
   have hsz := hg.size
   rw [h2, h6]
   have e0 := (hg.cell (e.t) 2 be.lt (by rintro ⟨j, _, hne, hb, hw⟩; exact False.elim hw)).trans (be.cell 2 _ rfl)
   go_wp2
   exact ⟨_, rfl, GrowC.refl _, rfl⟩
  | 8, _ =>
   obtain rfl := Option.some.inj ho
   clear ho
   simp only [actsD, Act.put, actL]
   obtain ⟨_, _, _, h2⟩ := hp 2 (by simp)
   simp only [PSBk7] at h2
   obtain ⟨_, _, _, h3⟩ := hp 3 (by simp)
   simp only [PSBk7] at h3
   obtain ⟨_, _, _, h7⟩ := hp 7 (by simp)
   simp only [PSBk7] at h7
   have hsz := hg.size
   rw [h2, h3, h7]
   go_wp2
   exact ⟨_, rfl, GrowC.refl _, rfl⟩
  | 9, _ =>
   obtain rfl := Option.some.inj ho
   clear ho
   simp only [actsD, Act.put, actL]
   obtain ⟨_, _, _, h2⟩ := hp 2 (by simp)
   simp only [PSBk7] at h2
   obtain ⟨_, _, _, h8⟩ := hp 8 (by simp)
   simp only [PSBk7] at h8
   have hsz := hg.size
   rw [h2, h8]
   go_wp2
   exact ⟨_, rfl, GrowC.refl _, rfl⟩
  | 10, _ =>
   obtain rfl := Option.some.inj ho
   clear ho
   simp only [actsD, Act.put, actL]
   obtain ⟨_, _, _, h9⟩ := hp 9 (by simp)
   simp only [PSBk7] at h9
   have hsz := hg.size
   rw [h9]
   go_wp2
   exact ⟨_, rfl, GrowC.refl _, rfl⟩
  | 11, _ =>
   obtain rfl := Option.some.inj ho
   clear ho
   simp only [actsD, Act.put, actL]
   obtain ⟨_, _, _, h10⟩ := hp 10 (by simp)
   simp only [PSBk7] at h10
   have hsz := hg.size
   rw [h10]
   go_wp2
   exact ⟨_, rfl, GrowC.refl _, rfl⟩
  | 12, _ =>
   obtain rfl := Option.some.inj ho
   clear ho
   simp only [actsD, Act.put, actL]
   obtain ⟨_, _, _, h10⟩ := hp 10 (by simp)
   simp only [PSBk7] at h10
   obtain ⟨_, _, _, h11⟩ := hp 11 (by simp)
   simp only [PSBk7] at h11
   have hsz := hg.size
   rw [h10, h11]
   go_wp2
   exact ⟨_, rfl, GrowC.refl _, rfl⟩
  | 13, _ =>
   obtain rfl := Option.some.inj ho
   clear ho
   simp only [actsD, Act.put, actL]
   obtain ⟨_, _, _, h10⟩ := hp 10 (by simp)
   simp only [PSBk7] at h10
   obtain ⟨_, _, _, h12⟩ := hp 12 (by simp)
   simp only [PSBk7] at h12
   have hsz := hg.size
   rw [h10, h12]
   go_wp2
   exact ⟨_, rfl, GrowC.refl _, rfl⟩
  | (q + 14), hq => exact absurd hq (by omega)
 intro vS lo hi z7 hg hp hd
 obtain ⟨_, _, _, h0⟩ := hp 0 (by decide)
 obtain ⟨_, _, _, h1⟩ := hp 1 (by decide)
 obtain ⟨_, _, _, h2⟩ := hp 2 (by decide)
 obtain ⟨_, _, _, h3⟩ := hp 3 (by decide)
 obtain ⟨_, _, _, h4⟩ := hp 4 (by decide)
 obtain ⟨_, _, _, h5⟩ := hp 5 (by decide)
 obtain ⟨_, _, _, h6⟩ := hp 6 (by decide)
 obtain ⟨_, _, _, h7⟩ := hp 7 (by decide)
 obtain ⟨_, _, _, h8⟩ := hp 8 (by decide)
 obtain ⟨_, _, _, h9⟩ := hp 9 (by decide)
 obtain ⟨_, _, _, h10⟩ := hp 10 (by decide)
 obtain ⟨_, _, _, h11⟩ := hp 11 (by decide)
 obtain ⟨_, _, _, h12⟩ := hp 12 (by decide)
 obtain ⟨_, _, _, h13⟩ := hp 13 (by decide)
 simp only [PSBk7] at h0 h1 h2 h3 h4 h5 h6 h7 h8 h9 h10 h11 h12 h13
 clear hp hd
 have hsz := hg.size
 replace bm := bm.grow hg (by intro i _; rintro ⟨j, _, hw⟩; exact False.elim hw)
 replace be := be.grow hg (by intro i _; rintro ⟨j, _, hw⟩; exact False.elim hw)
 replace hB := hB.trans (hg.below (fun k hk => ⟨by omega, fun o => by rintro ⟨j, _, hw⟩; exact False.elim hw⟩))
 have hr : List.range 14 = [0, 1, 2, 3, 4, 5, 6, 7, 8, 9, 10, 11, 12, 13] := rfl
 rw [hr]
 clear hr
 simp only [List.drop_succ_cons, List.drop_zero, List.drop_nil, actsD, Act.put, actL, h0, h1, h2, h3, h4, h5, h6, h7, h8, h9, h10, h11, h12, h13]
 clear h0 h1 h2 h3 h4 h5 h6 h7 h8 h9 h10 h11 h12 h13
 have HBL : Hid (Below w.heap.size w z7) := Lib.hid ((HB.out.trans (HB2.out.mono HB.out.size)).trans (hB.mono (by have := HB.out.size; have := HB2.out.size; omega)))
 have cm := bm.cell 0 _ rfl
 have clm := bm.lt
 have hun := HUN.out z7 HBL.out
 have HUN2 := Lib.hid hun
 clear HBE be hun hB hg hsz HUN
 go_wp2_with fail
 refine HUN2.out.mono ?_
 rintro er y3 ⟨rfl, σ2, vl2, EL2, EO2, e2, S3, hs2, _, _, _, _, _, _, _, _, hu2, hf2⟩
 have HS2 := Lib.hid hs2
 have HF2 := Lib.hid hf2
 have HU2 := Lib.hid hu2
 clear hs2 hf2 hu2 HUN2 cm clm bm
 go_wp2_with fail
 go_ret
 rw [HU2.out]
 exact ⟨_, rfl, ⟨_, _, _, _, _, _, HS2.out, rfl⟩, Foot.step_below HBL.out HF2.out⟩
end
end Go.Proofs.YtpajagkhmodbnaaGreat

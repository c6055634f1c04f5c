/- space: Maps of any int; Format, Taken, Count, Give over a store of at most 504 pages. Conditions: the device does not fail. -/
import Derived.Test.YtpajagkhmodbnaaGreatPk28
import Derived.Deep.DeepCutAuto
import Derived.Deep.CutBlock
namespace Go.Proofs.YtpajagkhmodbnaaGreat
set_option linter.unusedSimpArgs false
set_option linter.unusedVariables false
open Go.RowKit
def mapsI (n : Int) : Int := if n < 1 then 0 else (n - 1) / 504 + 1
theorem mapsI_one (n : Nat) (h1 : 1 ≤ n) (h2 : n ≤ 504) : mapsI (n : Int) = 1 := by
  unfold mapsI
  rw [if_neg (by omega)]
  omega
set_option maxRecDepth 100000 in
set_option maxHeartbeats 3200000 in
theorem maps_any (w : World) (n : Int) (h1 : -9223372036854775808 ≤ n) (h2 : n ≤ 9223372036854775807) :
    Calls Tryz.prog 19 #[.int .i64 n] w fun e w' => e = .returned (.int .i64 (mapsI n)) ∧ w' = w := by
  by_cases h : n < 1
  · have hE := Lib.hid (show mapsI n = 0 by unfold mapsI; rw [if_pos h])
    have hb : decide (n < 1) = true := by simpa using h
    rw [hE.out]
    go_enter Tryz.func19, Tryz.ntmps19
    go_wp2_with fail
    go_ret
    exact ⟨rfl, rfl⟩
  · have hE := Lib.hid (show mapsI n = (n - 1) / 504 + 1 by unfold mapsI; rw [if_neg h])
    have hb : decide (n < 1) = false := by simpa using h
    rw [hE.out]
    go_enter Tryz.func19, Tryz.ntmps19
    go_wp2_with fail
    go_ret
    exact ⟨rfl, rfl⟩
theorem maps_one (w : World) (n : Nat) (h1 : 1 ≤ n) (h2 : n ≤ 504) :
    Calls Tryz.prog 19 #[.int .i64 (n : Nat)] w fun e w' => e = .returned (.int .i64 1) ∧ w' = w := by
  have h := maps_any w (n : Int) (by omega) (by omega)
  rw [mapsI_one n h1 h2] at h
  exact h
theorem make1 (w : World) : (Instr.makeSlice 48 (.int .i64 1) (.int .i64 1)).run Tryz.prog w = .ok (.slice (some ⟨w.heap.size, 0, none⟩) 1 1) (w.alloc (.cells #[B 0] 5)) := by
  obtain ⟨i0, hi, hz0, hz1, hz2⟩ := info_parts (P := Tryz.prog) (e := 5) (z := .int .u8 0) (size := 1) (bytes := 1) (by kernel_rfl)
  have h := run_make (P := Tryz.prog) w 48 5 i0 (.int .u8 0) Tryz.underlying48 hi hz0 .i64 .i64 1 1 (by decide) (by decide) (by rw [hz2]; decide) (by decide)
  rw [h, hz1]
  have e : madeCells (Value.int .u8 0).cells (Int.toNat 1 * 1) = #[B 0] := by
    apply Array.ext'
    have e1 := toList_madeCells_one (.int .u8 0) 1
    show (madeCells #[.int .u8 0] 1).toList = _
    rw [e1]
    rfl
  rw [e]
  rfl
theorem Box.one {w : World} {g : Nat} {a : UInt8} (bx : Box w g [B a]) : Reads 1 w (.slice (some ⟨g, 0, none⟩) 1 1) 1 ([a].map B) :=
  ⟨_, _, rfl, rfl, Nat.le_refl _, fun _ => ⟨g, 0, rfl, bx.lt, fun j u hu => by rw [Nat.zero_add]; exact bx.cell j u hu⟩⟩
section
variable {W0 w w' w2 : World} {A : Adr} {c : Cf} {σ : St} {S X : Nat → Prop} {k b : Nat} {W : Nat → List UInt8}
def Wrote (σ σ' : St) (i : Nat) (x : Tx) (W : Nat → List UInt8) (p off : Nat) (bs : List UInt8) : Prop :=
  σ'.next = σ.next ∧ ((((W p).drop off).take bs.length = bs ∧ σ'.opn = σ.opn ∧ σ'.lines = σ.lines ∧ σ'.io.R.tail = σ.io.R.tail) ∨
       (((W p).drop off).take bs.length ≠ bs ∧ σ'.opn = σ.opn.set i { x with last := σ.io.R.tail + 1, l := x.l ++ [⟨σ.io.R.tail + 1, x.last, p, off, ((W p).drop off).take bs.length⟩] } ∧ σ'.lines = σ.lines ++ [(σ.io.R.tail + 1, wrRc x.id x.last p off (((W p).drop off).take bs.length) bs)] ∧ σ'.io.R.tail = σ.io.R.tail + (96 + 2 * bs.length)))
theorem Wrote.like {σ0 : St} {i : Nat} {x : Tx} {p off : Nat} {bs : List UInt8} {σ' : St} (h : Wrote σ σ' i x W p off bs) (hl : Like σ0 σ) : Wrote σ0 σ' i x W p off bs := by
  unfold Wrote at h ⊢
  rw [hl.opn, hl.next, hl.lines, hl.tail] at h
  exact h
theorem write1_st (h : Sto W0 A c k b σ W S w) (hk : k ≤ 900000) {i : Nat} {x : Tx} (hx : σ.opn[i]? = some x) (p off : Nat) (a : UInt8) (g : Nat) (hv : Box w g [B a]) (hpg : p < c.pg) (hoff : off < 504)
    (hbusy : σ.busy (x.id : Int) p off 1 = false) (harg : ¬ S g) (hb : b + 195 + 2048 ≤ (c.n - 1) * 118) :
    Calls Tryz.prog 31 #[.pointer (some ⟨A.sb, 0, none⟩), .int .i64 (x.id : Nat), .int .i64 (p : Nat), .int .i64 (off : Nat), .slice (some ⟨g, 0, none⟩) 1 1] w fun er w' => ∃ σ' S', er = .returned (.int .i64 0) ∧ Sto W0 A c (k + 3) (b + 195) σ' (updV W p (overB (W p) off [a])) S' w' ∧ Foot S S' w w' ∧ Wrote σ σ' i x W p off [a] := by
  refine (write_st h hk hx p off [a] (some ⟨g, 0, none⟩) 1 1 hv.one rfl hpg (by omega) hbusy (fun q e => by have e2 : g = q := (by simpa [Value.ownBlock] using e); exact e2 ▸ ⟨harg, hv.lt⟩) hb).mono ?_
  rintro e w' ⟨σ', S', rfl, h1, h2, h3, h4⟩
  exact ⟨σ', S', rfl, h1, h2, h3, h4⟩
set_option maxRecDepth 100000 in
set_option maxHeartbeats 3200000 in
theorem format_st (h : Sto W0 A c k b σ W S w) (hk : k ≤ 900000) {i : Nat} {x : Tx} (hx : σ.opn[i]? = some x) (hp1 : 1 ≤ c.pg) (hp2 : c.pg ≤ 504) (hbusy : σ.busy (x.id : Int) 0 0 1 = false) (hb : b + 195 + 2048 ≤ (c.n - 1) * 118) :
    Calls Tryz.prog 93 #[.pointer (some ⟨A.sb, 0, none⟩), .int .i64 (x.id : Nat)] w fun er w' => ∃ σ' S', er = .returned (.int .i64 0) ∧ Sto W0 A c (k + 3) (b + 195) σ' (updV W 0 (overB (W 0) 0 [1])) S' w' ∧ Foot S S' w w' ∧ Wrote σ σ' i x W 0 0 [1] := by
  have hlt := h.lt
  have HP := Lib.hid (pages_st h)
  have HM := Lib.hid (maps_one w c.pg hp1 hp2)
  have HW := Lib.hid (fun (w1 : World) (hbl : Below w.heap.size w w1) (g : Nat) (bx : Box w1 g [B 1]) (hg : ¬ S g) => write1_st (h.below hbl) hk hx 0 0 1 g bx (by omega) (by decide) hbusy hg hb)
  obtain ⟨t, ht⟩ : ∃ t : Nat, x.id = t := ⟨_, rfl⟩
  rw [ht] at HW ⊢
  have HLT := Lib.hid hlt
  have hmk := make1
  clear h hx hbusy hlt hb ht
  go_enter Tryz.func93, Tryz.ntmps93
  go_wp2_with fail
  refine HP.out.mono ?_
  rintro e y ⟨rfl, rfl⟩
  go_wp2_with fail
  refine HM.out.mono ?_
  rintro e y ⟨rfl, rfl⟩
  go_wp2_with fail
  go_loopw [6, 7, 8, 9, 10, 15] (fun z6 z7 z8 z9 z10 j wr => (j = .int .i64 0 ∧ wr = y) ∨ (j = .int .i64 1 ∧ ∃ σ' S', Sto W0 A c (k + 3) (b + 195) σ' (updV W 0 (overB (W 0) 0 [1])) S' wr ∧ Foot S S' y wr ∧ Wrote σ σ' i x W 0 0 [1])) (fun _ _ _ _ _ j _ => 1 - (intOf j).toNat)
  case atStart => exact .inl ⟨rfl, rfl⟩
  case round =>
    rcases hrel with ⟨rfl, rfl⟩ | ⟨rfl, σ', S', h1, h2, h3⟩
    · have hmin : min (1 : Int) 504 = 1 := by decide
      obtain ⟨g, hg⟩ : ∃ g, wr.heap.size = g := ⟨_, rfl⟩
      have bx := Box.new wr #[B 0] 5 rfl
      have hal := (Below.refl wr.heap.size wr).alloc (Nat.le_refl _) (.cells #[B 0] 5)
      have HG := Lib.hid hg
      have hm1 := hmk wr
      rw [hg] at bx hm1
      clear hmk
      have HBX := Lib.hid bx
      have HAL := Lib.hid hal
      have cx := bx.cell 0 _ rfl
      have lx := bx.lt
      have fx := bx.free
      clear bx hal
      go_wp2_with fail
      clear hm1
      generalize wr.alloc (.cells #[B 0] 5) = y1 at *
      go_loopw [9, 29] (fun z9 z29 wq => (z29 = .int .i64 0 ∧ wq = y1) ∨ (z29 = .int .i64 1 ∧ wq = y1.setCell ⟨g, 0, none⟩ (B 1))) (fun _ q _ => 1 - (intOf q).toNat)
      case atStart => exact .inl ⟨rfl, rfl⟩
      case round =>
        rcases hrel with ⟨rfl, rfl⟩ | ⟨rfl, rfl⟩
        · go_wp2_with fail
          go_roundw
          · exact .inr ⟨by rfl, rfl⟩
          · simp [intOf]
        · obtain ⟨bx1, gc1⟩ := HBX.out.set1 0 (B 1)
          have hb1 : Below wr.heap.size wr (y1.setCell ⟨g, 0, none⟩ (B 1)) := HAL.out.trans ((growX_setCell y1 g 0 (B 1)).below (fun q hq => ⟨by have := HAL.out.size; omega, fun e => by have := HG.out; omega⟩))
          have HWW := Lib.hid (HW.out _ hb1 g bx1 (fun hs => by have := (HLT.out g hs).2; have := HG.out; omega))
          have HB1 := Lib.hid hb1
          clear bx1 gc1 hb1 cx fx lx
          go_wp2_with fail
          refine HWW.out.mono ?_
          rintro er y2 ⟨σ', S', rfl, h1, h2, h3⟩
          have H1 := Lib.hid h1
          have H2 := Lib.hid h2
          have H3 := Lib.hid h3
          clear h1 h2 h3 HWW
          go_wp2_with fail
          go_roundw
          · exact .inr ⟨by rfl, σ', S', H1.out, Foot.step_below HB1.out H2.out, H3.out⟩
          · simp [intOf]
    · have H1 := Lib.hid h1
      have H2 := Lib.hid h2
      have H3 := Lib.hid h3
      clear h1 h2 h3
      go_wp2_with fail
      go_ret
      exact ⟨σ', S', rfl, H1.out, H2.out, H3.out⟩
end
end Go.Proofs.YtpajagkhmodbnaaGreat

/- The file: Write and Read over a device that does not fail, page by page. Conditions: the page is there. -/
import Derived.Test.YtdnjjdpenfhpeaaFlWrite
namespace Go.Proofs.Ytdnjjdpenfhpeaa
set_option linter.unusedSimpArgs false
set_option linter.unusedVariables false
open Go.RowKit

theorem chunk_one {b : List UInt8} (h : b.length = 128) : chunk b 0 = b := by simp [chunk, List.take_of_length_le (Nat.le_of_eq h)]
theorem Dv.good.fwrite {D : Dv} (h : D.good) (fr p : Nat) (b : List UInt8) (hb : b.length = 512) (hq : fr + 5 + 4 * (p + 1) ≤ D.l.length) :
    (D.fwrite fr p b).1 = true ∧ (D.fwrite fr p b).2.good ∧ (D.fwrite fr p b).2.l.length = D.l.length ∧ (D.fwrite fr p b).2.c = [] ∧
    ∀ i, fr + 5 ≤ i → (D.fwrite fr p b).2.sec i = if fr + 5 + 4 * p ≤ i ∧ i < fr + 5 + 4 * p + 4 then chunk b (i - (fr + 5 + 4 * p)) else D.sec i := by
  obtain ⟨a1, a2, a3, a4, a5⟩ := Dv.good.layR (q := fr + 1) (b := b) 4 0 D h (by omega) (by omega)
  obtain ⟨b1, b2, b3, b4, b5⟩ := Dv.good.layR (q := fr) (b := headL (p + 1) 8) 1 0 _ a2 (by omega) (by rw [headL_len _ (by omega)])
  obtain ⟨c1, c2, c3, c4, c5⟩ := Dv.good.layR (q := fr + 5 + 4 * p) (b := b) 4 0 _ b2 (by omega) (by omega)
  obtain ⟨d1, d2, d3, d4, d5⟩ := Dv.good.layR (q := fr) (b := headL 0 8) 1 0 _ c2 (by omega) (by rw [headL_len _ (by omega)])
  unfold Dv.fwrite
  rw [if_pos a1, if_pos b1, if_pos c1]
  refine ⟨d1, d2, d3.trans (c3.trans (b3.trans a3)), d4, fun i hi => ?_⟩
  rw [d5, if_neg (by omega), c5]
  by_cases hr : fr + 5 + 4 * p ≤ i ∧ i < fr + 5 + 4 * p + 4
  · rw [if_pos hr, if_pos (by omega)]
  · rw [if_neg hr, if_neg (by omega), b5, if_neg (by omega), a5, if_neg (by omega)]
theorem Dv.good.fwrite_pages {D : Dv} (h : D.good) (fr p : Nat) (b : List UInt8) (hb : b.length = 512) (hq : fr + 5 + 4 * (p + 1) ≤ D.l.length) (q : Nat) :
    secsD (D.fwrite fr p b).2 (fr + 5 + 4 * q) 4 = if q = p then b else secsD D (fr + 5 + 4 * q) 4 := by
  obtain ⟨_, _, _, _, hs⟩ := h.fwrite fr p b hb hq
  by_cases e : q = p
  · subst e
    rw [if_pos rfl, secsD_chunks (b := b) (by omega) (fun k hk => ?_)]
    · exact List.take_of_length_le (by omega)
    · rw [hs _ (by omega), if_pos (by omega)]
      congr 1; omega
  · rw [if_neg e]
    exact secsD_ext (fun i h1 h2 => by rw [hs i (by omega), if_neg (by omega)])

/-- a file at f whose pages are P; S are its blocks and its device's -/
def FV (W0 : World) (f d fr pg : Nat) (P : Nat → List UInt8) (S : Nat → Prop) (w : World) : Prop :=
  ∃ D S0, FileBox w f d fr pg false ∧ ¬ S0 f ∧ W0.heap.size ≤ f ∧ DV W0 d D S0 w ∧ D.good ∧ D.c.length ≤ 1000 ∧ fr + 5 + 4 * pg ≤ D.l.length ∧ (∀ q, q < pg → secsD D (fr + 5 + 4 * q) 4 = P q) ∧ S = fun k => k = f ∨ S0 k
theorem FV.lt {W0 w : World} {f d fr pg : Nat} {P : Nat → List UInt8} {S : Nat → Prop} (h : FV W0 f d fr pg P S w) : ∀ k, S k → W0.heap.size ≤ k ∧ k < w.heap.size := by
  obtain ⟨D, S0, h1, h2, h3, h4, h5, h6, h7, h8, rfl⟩ := h
  rintro k (rfl | hk)
  · exact ⟨h3, h1.lt⟩
  · exact h4.lt k hk
theorem FV.bel {W0 w : World} {f d fr pg : Nat} {P : Nat → List UInt8} {S : Nat → Prop} (h : FV W0 f d fr pg P S w) : Below W0.heap.size W0 w := by
  obtain ⟨D, S0, h1, h2, h3, h4, h5, h6, h7, h8, rfl⟩ := h
  exact h4.bel
theorem FV.grow {W0 w w' : World} {f d fr pg : Nat} {P : Nat → List UInt8} {S X : Nat → Prop} (h : FV W0 f d fr pg P S w) (hg : GrowX X w w') (hX : Disj S X) (hB : Below W0.heap.size W0 w') : FV W0 f d fr pg P S w' := by
  obtain ⟨D, S0, h1, h2, h3, h4, h5, h6, h7, h8, rfl⟩ := h
  exact ⟨D, S0, h1.growx hg (fun hx => hX f (.inl rfl) hx), h2, h3, h4.grow hg (fun k hk hx => hX k (.inr hk) hx) hB, h5, h6, h7, h8, rfl⟩
theorem FV.below {W0 w w' : World} {f d fr pg : Nat} {P : Nat → List UInt8} {S : Nat → Prop} (h : FV W0 f d fr pg P S w) (hb : Below w.heap.size w w') : FV W0 f d fr pg P S w' :=
  h.grow (X := fun _ => False) (grow_below hb) (fun _ _ h => h) (h.bel.trans (hb.mono h.bel.size))
def putP (P : Nat → List UInt8) (p : Nat) (b : List UInt8) : Nat → List UInt8 := fun q => if q = p then b else P q
theorem FV.box {W0 w : World} {f d fr pg : Nat} {P : Nat → List UInt8} {S : Nat → Prop} (h : FV W0 f d fr pg P S w) : FileBox w f d fr pg false := by
  obtain ⟨D, S0, h1, _⟩ := h
  exact h1
theorem FV.self {W0 w : World} {f d fr pg : Nat} {P : Nat → List UInt8} {S : Nat → Prop} (h : FV W0 f d fr pg P S w) : S f := by
  obtain ⟨D, S0, h1, h2, h3, h4, h5, h6, h7, h8, rfl⟩ := h
  exact .inl rfl
theorem FV.small {W0 w : World} {f d fr pg : Nat} {P : Nat → List UInt8} {S : Nat → Prop} (h : FV W0 f d fr pg P S w) : fr + 5 + 4 * pg ≤ 8192 := by
  obtain ⟨D, S0, h1, h2, h3, h4, h5, h6, h7, h8, rfl⟩ := h
  have := h5.ok.n
  omega
theorem FV.len {W0 w : World} {f d fr pg : Nat} {P : Nat → List UInt8} {S : Nat → Prop} (h : FV W0 f d fr pg P S w) {q : Nat} (hq : q < pg) : (P q).length = 512 := by
  obtain ⟨D, S0, h1, h2, h3, h4, h5, h6, h7, h8, rfl⟩ := h
  rw [← h8 q hq, secsD_len h5.ok (by omega)]

set_option maxRecDepth 100000 in
set_option maxHeartbeats 1600000 in
theorem fread_fv {W0 w : World} {f d fr pg : Nat} {P : Nat → List UInt8} {S : Nat → Prop} (h : FV W0 f d fr pg P S w) (p : Nat) (hp : p < pg) :
    Calls Try.prog 11 #[.pointer (some ⟨f, 0, none⟩), .int .i64 (p : Nat)] w fun e w' => ∃ v : Value, e = .returned (.tuple #[v, .int .i64 0]) ∧ w'.ownsRow w.heap.size 5 1 v 512 ((P p).map B) ∧ FV W0 f d fr pg P S w' ∧ GrowX S w w' := by
  have hsm := h.small
  obtain ⟨D, S0, h1, h2, h3, h4, h5, h6, h7, h8, rfl⟩ := h
  have c2 := h1.cell 2 _ rfl
  have hlt := h1.lt
  have H1 := Lib.hid h1
  have H2 := Lib.hid h2
  have H3 := Lib.hid h3
  have H4 := Lib.hid h4
  have H5 := Lib.hid h5
  have H7 := Lib.hid h7
  have H8 := Lib.hid h8
  have H6 := Lib.hid h6
  have hb1 : decide ((p : Int) < 0) = false := by simp
  have hb2 : decide ((p : Int) ≥ (pg : Int)) = false := by simp; omega
  have hb3 : decide ((pg : Int) ≤ (p : Int)) = false := by simp; omega
  have hb4 : decide (pg ≤ p) = false := by simp; omega
  clear h1 h2 h3 h4 h5 h7 h8 h6
  go_enter Try.func11, Try.ntmps11
  go_wp2_with fail
  refine (home_at H1.out (by omega) p (by omega)).mono ?_
  rintro e wh ⟨rfl, rfl⟩
  go_wp2_with fail
  refine (gather_dv H1.out H2.out H4.out H5.out.dead (fr + 5 + 4 * p) (by have := H7.out; omega)).mono ?_
  rintro e w2 ⟨v, cc, rfl, ho, hdv, hg⟩
  have HO := Lib.hid ho
  have HV := Lib.hid hdv
  have HG := Lib.hid hg
  clear ho hdv hg
  go_wp2_with fail
  go_ret2
  refine ⟨v, rfl, ?_, ⟨_, S0, H1.out.growx HG.out (fun e => ?_), H2.out, H3.out, HV.out, ?_, H6.out, H7.out, ?_, rfl⟩, HG.out.mono (fun k e => .inr ?_)⟩
  · rw [← H8.out p hp]; exact HO.out
  · have hd : S0 d := by obtain ⟨_, _, _, _, _, _, _, _, rfl⟩ := H4.out; exact .inl rfl
    exact H2.out (e ▸ hd)
  · exact ⟨HV.out.ok, H5.out.fuse, H5.out.dead⟩
  · intro q hq
    rw [← H8.out q hq]
    exact secsD_ext (fun i _ _ => rfl)
  · have hd : S0 d := by obtain ⟨_, _, _, _, _, _, _, _, rfl⟩ := H4.out; exact .inl rfl
    exact e ▸ hd
set_option maxRecDepth 100000 in
set_option maxHeartbeats 1600000 in
theorem fread_bad {W0 w : World} {f d fr pg : Nat} {P : Nat → List UInt8} {S : Nat → Prop} (h : FV W0 f d fr pg P S w) (p : Int) (hp : p < 0 ∨ (pg : Int) ≤ p) :
    Calls Try.prog 11 #[.pointer (some ⟨f, 0, none⟩), .int .i64 p] w fun e w' => e = .returned (.tuple #[.slice none 0 0, .int .i64 1]) ∧ w' = w := by
  have h1 := h.box
  have c2 := h1.cell 2 _ rfl
  have hlt := h1.lt
  clear h1 h
  by_cases hn : p < 0
  · have hb1 : decide (p < 0) = true := by simpa using hn
    go_enter Try.func11, Try.ntmps11
    go_wp2_with fail
    go_ret2
    exact ⟨rfl, rfl⟩
  · have hb1 : decide (p < 0) = false := by simpa using hn
    have hb2 : decide (p ≥ (pg : Int)) = true := by simp; omega
    have hb3 : decide ((pg : Int) ≤ p) = true := by simp; omega
    clear hp
    go_enter Try.func11, Try.ntmps11
    go_wp2_with fail
    go_ret2
    exact ⟨rfl, rfl⟩
set_option maxRecDepth 100000 in
set_option maxHeartbeats 1600000 in
theorem fwrite_fv {W0 w : World} {f d fr pg : Nat} {P : Nat → List UInt8} {S : Nat → Prop} (h : FV W0 f d fr pg P S w) (p : Nat) (hp : p < pg) (b : List UInt8) (hb : b.length = 512) (v : Value) (hv : Reads 1 w v 512 (b.map B)) (hsl : ∀ k, v.ownBlock = some k → ¬ S k) :
    Calls Try.prog 48 #[.pointer (some ⟨f, 0, none⟩), .int .i64 (p : Nat), v] w fun e w' => ∃ S', e = .returned (.int .i64 0) ∧ FV W0 f d fr pg (putP P p b) S' w' ∧ Foot S S' w w' := by
  have hsm := h.small
  obtain ⟨D, S0, h1, h2, h3, h4, h5, h6, h7, h8, rfl⟩ := h
  have c2 := h1.cell 2 _ rfl
  have c3 := h1.cell 3 _ rfl
  have hlt := h1.lt
  have hcall := fwrite_dv h1 h2 h4 h5.dead p hp h7 h6 b hb v hv (fun k e hs => hsl k e (.inr hs))
  obtain ⟨g1, g2, g3, g4, g5⟩ := h5.fwrite fr p b hb (by omega)
  have g6 := h5.fwrite_pages fr p b hb (by omega)
  rw [g1] at hcall
  obtain ⟨av, cv, rfl, _⟩ := hv
  have HC := Lib.hid hcall
  have H1 := Lib.hid h1
  have H2 := Lib.hid h2
  have H3 := Lib.hid h3
  have H4 := Lib.hid h4
  have H5 := Lib.hid h5
  have H7 := Lib.hid h7
  have H8 := Lib.hid h8
  have G2 := Lib.hid g2
  have G3 := Lib.hid g3
  have G4 := Lib.hid g4
  have G6 := Lib.hid g6
  have hb1 : decide ((p : Int) < 0) = false := by simp
  have hb2 : decide ((p : Int) ≥ (pg : Int)) = false := by simp; omega
  have hb3 : decide ((pg : Int) ≤ (p : Int)) = false := by simp; omega
  have hb4 : decide (pg ≤ p) = false := by simp; omega
  clear h1 h2 h3 h4 h5 h6 h7 h8 g1 g2 g3 g4 g5 g6 hcall hsl
  go_enter Try.func48, Try.ntmps48
  go_wp2_with fail
  refine HC.out.mono ?_
  rintro e w2 ⟨S2, rfl, hdv, hft⟩
  have HV := Lib.hid hdv
  have HF := Lib.hid hft
  have hbx : FileBox w2 f d fr pg false := H1.out.growx hft.grow H2.out
  have hfs : ¬ S2 f := fun hs => (hft.new f hs).elim H2.out (fun e => by omega)
  have HBX := Lib.hid hbx
  have HFS := Lib.hid hfs
  have cx3 := hbx.cell 3 _ rfl
  have cxf := hbx.free
  have hlx := hbx.lt
  clear hdv hft hbx hfs
  simp only [eDead]
  go_wp2_with fail
  go_ret
  obtain ⟨k1, k2⟩ := Box.set1 HBX.out 3 (.bool false)
  have k3 : GrowX (fun k => k = f) w2 (w2.setCell ⟨f, 3, none⟩ (.bool false)) := GrowX.of_growC k2 (fun k o h => h.1)
  refine ⟨_, rfl, ⟨_, S2, k1, HFS.out, H3.out, HV.out.grow k3 (fun k hk e => HFS.out (e ▸ hk)) (HV.out.bel.trans (k3.below (fun k hk => ⟨Nat.lt_of_lt_of_le hk HV.out.bel.size, fun e => by have := H3.out; omega⟩))), G2.out, by rw [G4.out]; simp, by rw [G3.out]; exact H7.out, ?_, rfl⟩, ?_⟩
  · intro q hq
    rw [G6.out, putP, ← H8.out q hq]
  · refine ⟨(HF.out.grow.mono (fun k hk => .inr hk)).step k3 (fun k _ e => .inl e), ?_⟩
    rintro k (rfl | hk)
    · exact .inl (.inl rfl)
    · exact (HF.out.new k hk).imp .inr id
end Go.Proofs.Ytdnjjdpenfhpeaa

/- The file: four sectors read as one. Conditions: the device lives; the sectors are there. -/
import Derived.Test.YtdnjjdpenfhpeaaFlKit
namespace Go.Proofs.Ytdnjjdpenfhpeaa
set_option linter.unusedSimpArgs false
set_option linter.unusedVariables false
open Go.RowKit

/-- k sectors from one on -/
def secsD (D : Dv) (q : Nat) : Nat → List UInt8
  | 0 => []
  | k + 1 => secsD D q k ++ D.sec (q + k)
theorem secsD_len {D : Dv} (h : D.ok) {q : Nat} : ∀ {k : Nat}, q + k ≤ D.l.length → (secsD D q k).length = 128 * k
  | 0, _ => rfl
  | k + 1, hk => by
    rw [secsD, List.length_append, secsD_len h (by omega), Dv.sec_len h (by omega)]
    omega

theorem Buf.cell {w : World} {g : Nat} {l : List UInt8} (h : Buf w g l) (j : Nat) (u : Value) (hu : (l.map B)[j]? = some u) : w.cell? ⟨g, j, none⟩ = some u := by
  have h' : w.heap[g]? = some (.cells (l.map B).toArray 5 (0, 0)) := h
  simp [World.cell?, h', ← hu]
set_option maxRecDepth 100000 in
set_option maxHeartbeats 1600000 in
theorem gather_dv {W0 w : World} {f d fr pg : Nat} {de : Bool} {D : Dv} {S : Nat → Prop} (hf : FileBox w f d fr pg de) (hfS : ¬ S f) (h : DV W0 d D S w) (hdead : D.dead = false) (q : Nat) (hq : q + 4 ≤ D.l.length) :
    Calls Try.prog 29 #[.pointer (some ⟨f, 0, none⟩), .int .i64 (q : Nat)] w fun e w' => ∃ (v : Value) (cc : Int), e = .returned (.tuple #[v, .int .i64 0]) ∧ w'.ownsRow w.heap.size 5 1 v 512 ((secsD D q 4).map B) ∧ DV W0 d { D with calls := cc } S w' ∧ GrowX (fun k => k = d) w w' := by
  have hq2 : q ≤ 8192 := by have := h.ok.n; omega
  have HQ := Lib.hid hq
  have HF := Lib.hid hf
  have HD := Lib.hid h
  have HDD := Lib.hid hdead
  have hfd : f ≠ d := by
    rintro rfl
    obtain ⟨_, _, _, _, _, _, _, _, rfl⟩ := h
    exact hfS (.inl rfl)
  clear hq hf h hdead
  go_enter Try.func29, Try.ntmps29
  go_wp2_with fail
  go_loopw [6, 10] (fun s z wr => ∃ (k m cb : Nat) (bo : Option Addr) (cc : Int), k ≤ 4 ∧ z = .int .i64 k ∧ s = .slice bo m cb ∧ m = 128 * k ∧ wr.ownsRow w.heap.size 5 1 (.slice bo m cb) m ((secsD D q k).map B) ∧ DV W0 d { D with calls := cc } S wr ∧ GrowX (fun k => k = d) w wr) (fun _ z _ => 4 - (intOf z).toNat)
  case atStart => exact ⟨0, 0, 0, none, D.calls, Nat.zero_le _, rfl, rfl, rfl, World.ownsRow_nil _ _ _ _, HD.out, GrowX.refl _⟩
  case round =>
    obtain ⟨k, m, cb, bo, cc, hk, rfl, rfl, hm, hown, hdv, hgw⟩ := hrel
    have HM := Lib.hid hm
    have hm512 : m ≤ 512 := by omega
    clear hm
    have HO := Lib.hid hown
    have HV := Lib.hid hdv
    have HG := Lib.hid hgw
    have c1 := (HF.out.growx hgw hfd).cell 0 _ rfl
    have hlf := (HF.out.growx hgw hfd).lt
    clear hown hdv hgw
    by_cases hk4 : k < 4
    case neg =>
      have hb : decide ((k : Int) < 4) = false := by simp; omega
      obtain rfl : k = 4 := by omega
      go_wp2_with fail
      go_ret2
      obtain rfl := HM.out
      exact ⟨_, cc, rfl, HO.out, HV.out, HG.out⟩
    have hb : decide ((k : Int) < 4) = true := by simp; omega
    have hwr : wrap64 ((q : Int) + (k : Int)) = ((q + k : Nat) : Int) := by rw [wrap64]; omega
    go_wp2_with fail
    refine (dread_dv HV.out HDD.out (q + k) (by have := HQ.out; show q + k < D.l.length; omega)).mono ?_
    rintro e w3 ⟨g, rfl, hdv3, hbuf, hg, hgr⟩
    have HV3 := Lib.hid hdv3
    have HB3 := Lib.hid hbuf
    have HG3 := Lib.hid (HG.out.step hgr (fun _ _ e => e))
    have hdl := (HV.out.lt d (by obtain ⟨_, _, _, _, _, _, _, _, rfl⟩ := HV.out; exact .inl rfl)).2
    have HO3 : Hid (w3.ownsRow w.heap.size 5 1 (.slice bo m cb) m ((secsD D q k).map B)) := Lib.hid (own_growx HO.out hgr (fun a e1 e2 => by
      have h1 := (HO.out.lt a e1).1
      have h2 : d < w.heap.size := (HD.out.lt d (by obtain ⟨_, _, _, _, _, _, _, _, rfl⟩ := HD.out; exact .inl rfl)).2
      omega))
    have hsl : (D.sec (q + k)).length = 128 := Dv.sec_len HD.out.ok (by have := HQ.out; omega)
    have HSL := Lib.hid hsl
    have hws : w.heap.size ≤ w3.heap.size := HG3.out.size
    clear hdv3 hbuf hgr hsl c1 hlf
    go_wp2_with (at_builtin; refine wpList_append_k bytesOf (.tmp 27) (.tmp 28) rfl rfl (base := w.heap.size) rfl HO3.out (m := 128) (c := 128) rfl (by rw [List.length_map, HSL.out]) (news := (D.sec (q + k)).map B) (by intro j u hu; rw [Addr.add_lit, Nat.zero_add]; exact HB3.out.cell j u hu) (Bs_one _) (by omega) (by omega) (by omega) (by omega) ?_; intro ob cp wq hownq hgrq horq)
    have hgx : GrowX (fun b => (Value.slice bo m cb).ownBlock = some b) w3 wq := GrowX.of_growC hgrq (fun k o h => h.1)
    have hgnew : ∀ k, (Value.slice bo m cb).ownBlock = some k → w.heap.size ≤ k := fun k e => (HO3.out.lt k e).1
    have HQW := Lib.hid hownq
    have HQV : Hid (DV W0 d { D with calls := wrapC cc } S wq) := Lib.hid (HV3.out.grow hgx (fun k hs e => by have := hgnew k e; have := (HD.out.lt k hs).2; omega)
      (HV3.out.bel.trans (hgx.below (fun k hk => ⟨Nat.lt_of_lt_of_le hk HV3.out.bel.size, fun e => by have := hgnew k e; have := HD.out.bel.size; omega⟩))))
    have HQG : Hid (GrowX (fun k => k = d) w wq) := Lib.hid (HG3.out.step hgx (fun k hk e => by have := hgnew k e; omega))
    clear hownq hgrq horq hgx hgnew
    go_roundw
    · refine ⟨k + 1, m + 128, cp, some ⟨ob, 0, none⟩, wrapC cc, by omega, by simp, rfl, by have := HM.out; omega, ?_, HQV.out, HQG.out⟩
      have := HQW.out
      rw [secsD, List.map_append]
      exact this
    · simp [intOf]; omega
end Go.Proofs.Ytdnjjdpenfhpeaa

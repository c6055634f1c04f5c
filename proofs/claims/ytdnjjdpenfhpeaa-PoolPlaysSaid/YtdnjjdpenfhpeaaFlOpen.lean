/- The file: Open on a device whose journal names no page. Conditions: the device does not fail, the pages fit. -/
import Derived.Test.YtdnjjdpenfhpeaaFlFile
namespace Go.Proofs.Ytdnjjdpenfhpeaa
set_option linter.unusedSimpArgs false
set_option linter.unusedVariables false
open Go.RowKit

theorem DV.size {W0 w : World} {d : Nat} {D : Dv} {S : Nat → Prop} (h : DV W0 d D S w) :
    Calls Try.prog 27 #[.pointer (some ⟨d, 0, none⟩)] w fun e w' => e = .returned (.int .i64 (D.l.length : Nat)) ∧ w' = w := by
  obtain ⟨vl, vc, EL, EC, K, h1, h2, h3, rfl⟩ := h
  exact size_at h1
theorem DV.self {W0 w : World} {d : Nat} {D : Dv} {S : Nat → Prop} (h : DV W0 d D S w) : S d := by
  obtain ⟨_, _, _, _, _, _, _, _, rfl⟩ := h
  exact .inl rfl
set_option maxRecDepth 100000 in
set_option maxHeartbeats 1600000 in
theorem fopen_dv {W0 w : World} {d : Nat} {D : Dv} {S : Nat → Prop} (h : DV W0 d D S w) (hgood : D.good) (hcl : D.c.length ≤ 1000) (fr pg : Nat) (hpg : 1 ≤ pg) (hq : fr + 5 + 4 * pg ≤ D.l.length) (hz : D.sec fr = zsec) :
    Calls Try.prog 7 #[.pointer (some ⟨d, 0, none⟩), .int .i64 (fr : Nat), .int .i64 (pg : Nat)] w fun e w' => ∃ f S', e = .returned (.tuple #[.pointer (some ⟨f, 0, none⟩), .int .i64 0]) ∧ FV W0 f d fr pg (fun q => secsD D (fr + 5 + 4 * q) 4) S' w' ∧ Foot S S' w w' := by
  have hn := h.ok.n
  have hsz := h.size
  obtain ⟨n, hnn⟩ : ∃ n, D.l.length = n := ⟨_, rfl⟩
  rw [hnn] at hsz hq hn
  have HSZ := Lib.hid hsz
  have H := Lib.hid h
  have HG := Lib.hid hgood
  have HN := Lib.hid hnn
  have HZ := Lib.hid hz
  have HQ := Lib.hid hq
  have hb1 : decide ((pg : Int) < 1) = false := by simp; omega
  have hb2 : decide ((fr : Int) < 0) = false := by simp
  have hb3 : decide ((n : Int) < (fr : Int)) = false := by simp; omega
  have hb4 : decide ((n : Int) - (fr : Int) < 5) = false := by simp; omega
  have hb5 : decide (n < fr) = false := by simp; omega
  clear hsz h hgood hnn hz
  go_enter Try.func7, Try.ntmps7
  go_wp2_with fail
  refine HSZ.out.mono ?_
  rintro e wh ⟨rfl, rfl⟩
  go_wp2_with fail
  refine HSZ.out.mono ?_
  rintro e wh ⟨rfl, rfl⟩
  go_wp2_with fail
  refine HSZ.out.mono ?_
  rintro e wh ⟨rfl, rfl⟩
  go_wp2_with fail
  have bx := Box.new wh #[.pointer (some ⟨d, 0, none⟩), .int .i64 (fr : Nat), .int .i64 (pg : Nat), .bool false] 73 rfl
  have hal : Below wh.heap.size wh (wh.alloc (.cells #[.pointer (some ⟨d, 0, none⟩), .int .i64 (fr : Nat), .int .i64 (pg : Nat), .bool false] 73)) := (Below.refl _ _).alloc (Nat.le_refl _) _
  have H1 : Hid (DV W0 d D S (wh.alloc (.cells #[.pointer (some ⟨d, 0, none⟩), .int .i64 (fr : Nat), .int .i64 (pg : Nat), .bool false] 73))) := Lib.hid (H.out.below hal)
  have HAL := Lib.hid hal
  obtain ⟨f, hf⟩ : ∃ f, wh.heap.size = f := ⟨_, rfl⟩
  rw [hf] at bx HAL ⊢
  clear hal
  generalize wh.alloc (.cells #[.pointer (some ⟨d, 0, none⟩), .int .i64 (fr : Nat), .int .i64 (pg : Nat), .bool false] 73) = w1 at *
  refine (dread_dv H1.out HG.out.dead fr (by rw [HN.out]; omega)).mono ?_
  rintro e w2 ⟨g, rfl, hdv, hbuf, hg, hgr⟩
  rw [HZ.out] at hbuf
  have H2 := Lib.hid hdv
  have HG2 := Lib.hid hgr
  have HB2 := Lib.hid hbuf
  have HBX := Lib.hid bx
  have hz : ∀ k, k < 8 → w2.cell? ⟨g, k, none⟩ = some (.int .u8 0) := fun k hk => hbuf.cell k _ (by rw [zsec, List.map_replicate, List.getElem?_replicate, if_pos (by omega)]; rfl)
  have hlg := hbuf.lt
  clear hdv hgr hbuf bx hb1 hb2 hb3 hb4 hb5
  go_wp2_with fail
  go_loopw [11, 66] (fun s z wr => ∃ k : Nat, k ≤ 8 ∧ z = .int .i64 k ∧ s = .int .i64 0 ∧ wr = w2) (fun _ z _ => 8 - (intOf z).toNat)
  case atStart => exact ⟨0, Nat.zero_le _, rfl, rfl, rfl⟩
  case round =>
    obtain ⟨k, hk, rfl, rfl, rfl⟩ := hrel
    by_cases hk8 : k < 8
    case neg =>
      obtain rfl : k = 8 := by omega
      go_wp2_with fail
      go_ret2
      have hfS : ¬ S f := fun hs => by have := (H.out.lt f hs).2; omega
      have hfd : f ≠ d := fun e => hfS (e ▸ H.out.self)
      refine ⟨f, _, rfl, ⟨_, S, HBX.out.growx HG2.out hfd, hfS, by have := H.out.bel.size; omega, H2.out, ⟨H2.out.ok, HG.out.fuse, HG.out.dead⟩, hcl, by rw [HN.out]; exact HQ.out, fun q hq => secsD_ext (fun i _ _ => rfl), rfl⟩, ?_⟩
      refine ⟨(GrowX.step (X := S) (Y := fun _ => False) (GrowX.refl _) (grow_below (by rw [hf]; exact HAL.out)) (fun _ _ h => h.elim)).step HG2.out (fun q _ e => e ▸ H.out.self), ?_⟩
      rintro k (rfl | hk)
      · exact .inr (by omega)
      · exact .inl hk
    have hkb : decide ((k : Int) < 8) = true := by simp; omega
    have hc := hz k hk8
    have hpb : decide ((0 : Int) > (pg : Int)) = false := by simp
    have hpb2 : decide ((pg : Int) < 0) = false := by simp
    go_wp2_with fail
    exact ⟨⟨k + 1, by omega, by simp, by rfl, trivial⟩, by simp [intOf]; omega⟩
end Go.Proofs.Ytdnjjdpenfhpeaa

/- The file: lay: sectors written one behind the other, then Sync. Conditions: the device lives. -/
import Derived.Test.YtdnjjdpenfhpeaaFlGather
import Derived.Test.YtdnjjdpenfhpeaaDvSync
namespace Go.Proofs.Ytdnjjdpenfhpeaa
set_option linter.unusedSimpArgs false
set_option linter.unusedVariables false
open Go.RowKit

/-- the k-th 128 bytes -/
def chunk (b : List UInt8) (k : Nat) : List UInt8 := (b.drop (128 * k)).take 128
theorem chunk_len {b : List UInt8} {n k : Nat} (h : b.length = 128 * n) (hk : k < n) : (chunk b k).length = 128 := by
  rw [chunk, List.length_take, List.length_drop]; omega
theorem Reads.growx {X : Nat → Prop} {K n : Nat} {w w' : World} {v : Value} {xs : List Value} (h : Reads K w v n xs) (hg : GrowX X w w') (hX : ∀ b, v.ownBlock = some b → ¬ X b) : Reads K w' v n xs := by
  obtain ⟨ao, c, rfl, hl, hc, hr⟩ := h
  refine ⟨ao, c, rfl, hl, hc, fun h0 => ?_⟩
  obtain ⟨b, o, rfl, hb, hcell⟩ := hr h0
  refine ⟨b, o, rfl, Nat.lt_of_lt_of_le hb hg.size, fun j u hj => ?_⟩
  rw [← hcell j u hj]
  exact World.cell?_of_block (w := w) (hg.block b hb (hX b rfl))
theorem Dv.write_facts {D : Dv} (h : D.burn.1 = true) (i : Nat) (l : List UInt8) : (D.write i l).dead = D.dead ∧ (D.write i l).l = D.l ∧ (D.write i l).c = D.c ++ [(i, l)] := by
  have hb := Dv.burn_l D
  have hc := Dv.burn_cases D
  unfold Dv.write
  rw [if_pos h]
  refine ⟨?_, hb.1, by rw [hb.2]⟩
  rcases hc with hc | hc | hc
  · rw [hc.2.1] at h; cases h
  · exact hc.2.2.2.1
  · exact hc.2.2.2.2.1
/-- m sectors more are written, from the k-th on, then Sync -/
def Dv.layR (q : Nat) (b : List UInt8) : Nat → Nat → Dv → Bool × Dv
  | 0, _, D => (D.burn.1, D.sync)
  | m + 1, k, D => if D.burn.1 then Dv.layR q b m (k + 1) (D.write (q + k) (chunk b k)) else (false, D.write (q + k) (chunk b k))
theorem Reads.sub {w : World} {bq oq cv n k : Nat} {b : List UInt8} (hb : b.length = 128 * n) (h : Reads 1 w (.slice (some ⟨bq, oq, none⟩) (128 * n) cv) (128 * n) (b.map B)) (hk : k < n) : Reads 1 w (.slice (some ⟨bq, oq + 128 * k, none⟩) 128 (cv - 128 * k)) 128 ((chunk b k).map B) := by
  obtain ⟨a, c, e, hl, hc, hr⟩ := h
  injection e with e1 e2 e3
  subst e1; subst e3
  obtain ⟨b2, o2, e4, hlt, hcell⟩ := hr (by omega)
  injection e4 with e5
  injection e5 with e5 e6
  subst e5; subst e6
  refine ⟨_, _, rfl, by rw [List.length_map, chunk_len hb hk], by omega, fun _ => ⟨bq, oq + 128 * k, rfl, hlt, fun j u hu => ?_⟩⟩
  rw [Nat.add_assoc]
  apply hcell
  rw [← hu, List.getElem?_map, List.getElem?_map, chunk, List.getElem?_take, List.getElem?_drop]
  have hj : j < 128 := by
    apply Classical.byContradiction
    intro hc
    rw [List.getElem?_eq_none (by rw [List.length_map, chunk_len hb hk]; omega)] at hu
    cases hu
  rw [if_pos hj]

def WFl4 (f d fr pg q nn k bq oq cv : Nat) (de : Bool) (j b o : Nat) : Prop := False
def PFl4 (f d fr pg q nn k bq oq cv : Nat) (de : Bool) (i : Nat) (v : Value) (lo hi : Nat) (w : World) : Prop :=
  match i with
  | 0 => v = .pointer (some ⟨f, 0, none⟩)
  | 1 => v = .pointer (some ⟨f, 0, none⟩)
  | 2 => v = .pointer (some ⟨f, 0, none⟩)
  | 3 => v = .pointer (some ⟨d, 0, none⟩)
  | 4 => v = .int .i64 ((q : Nat) : Int)
  | 5 => v = .int .i64 ((k : Nat) : Int)
  | 6 => v = .int .i64 ((q + k : Nat) : Int)
  | 7 => v = .slice (some ⟨bq, oq, none⟩) nn cv
  | 8 => v = .int .i64 ((k : Nat) : Int)
  | 9 => v = .int .i64 ((128 * k : Nat) : Int)
  | 10 => v = .int .i64 ((k : Nat) : Int)
  | 11 => v = .int .i64 ((128 * k : Nat) : Int)
  | 12 => v = .int .i64 ((128 * k + 128 : Nat) : Int)
  | 13 => v = .slice (some ⟨bq, oq + 128 * k, none⟩) 128 (cv - 128 * k)
  | _ => True
theorem PFl4_stable (f d fr pg q nn k bq oq cv : Nat) (de : Bool)  : ∀ i j, i < 14 → j < 14 → j ≠ i → j ∉ ([[], [0], [0, 1], [0, 1, 2], [], [], [4, 5], [], [], [8], [], [10], [10, 11], [7, 8, 9, 10, 11, 12]] : List (List Nat)).getD i [] → ∀ v lo hi w w', PFl4 f d fr pg q nn k bq oq cv de i v lo hi w → GrowC (WFl4 f d fr pg q nn k bq oq cv de j) w w' → PFl4 f d fr pg q nn k bq oq cv de i v lo hi w' := by
  intro i j hi hj hne hbs v lo hj2 w w' h hg
  match i, hi with
  | 0, _ =>
    simp only [PFl4] at h ⊢
    exact h
  | 1, _ =>
    simp only [PFl4] at h ⊢
    exact h
  | 2, _ =>
    simp only [PFl4] at h ⊢
    exact h
  | 3, _ =>
    simp only [PFl4] at h ⊢
    exact h
  | 4, _ =>
    simp only [PFl4] at h ⊢
    exact h
  | 5, _ =>
    simp only [PFl4] at h ⊢
    exact h
  | 6, _ =>
    simp only [PFl4] at h ⊢
    exact h
  | 7, _ =>
    simp only [PFl4] at h ⊢
    exact h
  | 8, _ =>
    simp only [PFl4] at h ⊢
    exact h
  | 9, _ =>
    simp only [PFl4] at h ⊢
    exact h
  | 10, _ =>
    simp only [PFl4] at h ⊢
    exact h
  | 11, _ =>
    simp only [PFl4] at h ⊢
    exact h
  | 12, _ =>
    simp only [PFl4] at h ⊢
    exact h
  | 13, _ =>
    simp only [PFl4] at h ⊢
    exact h
  | (q + 14), hq => exact absurd hq (by omega)

set_option maxRecDepth 100000 in
set_option maxHeartbeats 3200000 in
theorem lay_dv {W0 w : World} {f d fr pg : Nat} {de : Bool} {D : Dv} {S : Nat → Prop} (hf : FileBox w f d fr pg de) (hfS : ¬ S f) (h : DV W0 d D S w) (hdead : D.dead = false) (q n : Nat) (hn : 0 < n) (hq : q + n ≤ D.l.length) (hcl : D.c.length + n ≤ 1048576)
    (b : List UInt8) (hb : b.length = 128 * n) (v : Value) (hv : Reads 1 w v (128 * n) (b.map B)) (hsl : ∀ k, v.ownBlock = some k → ¬ S k) :
    Calls Try.prog 30 #[.pointer (some ⟨f, 0, none⟩), .int .i64 (q : Nat), v] w fun e w' => ∃ S', e = .returned (.int .i64 (eDead (Dv.layR q b n 0 D).1)) ∧ DV W0 d (Dv.layR q b n 0 D).2 S' w' ∧ Foot S S' w w' := by
  obtain ⟨av, cv, rfl, hlm, hvc, hvr⟩ := hv
  obtain ⟨bq, oq, rfl, hbq, hcell⟩ := hvr (by omega)
  have hv : Reads 1 w (.slice (some ⟨bq, oq, none⟩) (128 * n) cv) (128 * n) (b.map B) := ⟨_, _, rfl, hlm, hvc, fun _ => ⟨bq, oq, rfl, hbq, hcell⟩⟩
  have hln := h.ok.n
  have hvm : 128 * n ≤ cv := hvc
  obtain ⟨nn, hnn⟩ : ∃ k, 128 * n = k := ⟨_, rfl⟩
  rw [hnn] at hv hvm ⊢
  have hfw : f < w.heap.size := hf.lt
  have hnn2 : nn ≤ 1048576 := by omega
  have HN := Lib.hid hnn
  have HV := Lib.hid hv
  have HF := Lib.hid hf
  have HD := Lib.hid h
  have HB := Lib.hid hb
  have HSL := Lib.hid (hsl bq rfl)
  have HFS := Lib.hid hfS
  have HQ := Lib.hid hq
  have hq2 : q ≤ 8192 := by omega
  clear hvc hvr hcell hlm hv hf h hb hsl hfS
  go_enter Try.func30, Try.ntmps30
  go_wp2_with fail
  go_loopw [7] (fun z wr => ∃ (k : Nat) (Dk : Dv) (Sk : Nat → Prop), k ≤ n ∧ z = .int .i64 k ∧ Dv.layR q b n 0 D = Dv.layR q b (n - k) k Dk ∧ Dk.dead = false ∧ Dk.l.length = D.l.length ∧ Dk.c.length + (n - k) ≤ 1048576 ∧ DV W0 d Dk Sk wr ∧ Foot S Sk w wr) (fun z _ => n - (intOf z).toNat)
  case atStart => exact ⟨0, D, S, Nat.zero_le _, rfl, by rw [Nat.sub_zero], hdead, rfl, hcl, HD.out, Foot.below (GrowX.refl _)⟩
  case round =>
    obtain ⟨k, Dk, Sk, hk, rfl, hlay, hdk, hlk, hck, hdv, hft⟩ := hrel
    have HLY := Lib.hid hlay
    have HDK := Lib.hid hdk
    have HLK := Lib.hid hlk
    have HCK := Lib.hid hck
    have HDV := Lib.hid hdv
    have HFT := Lib.hid hft
    have hfS2 : ¬ Sk f := fun hs => (hft.new f hs).elim HFS.out (fun e => by omega)
    have hbS2 : ¬ Sk bq := fun hs => (hft.new bq hs).elim HSL.out (fun e => by omega)
    have HFK : Hid (FileBox wr f d fr pg de) := Lib.hid (HF.out.growx hft.grow HFS.out)
    have HFS2 := Lib.hid hfS2
    have HBS2 := Lib.hid hbS2
    clear hlay hdk hlk hck hdv hft hfS2 hbS2
    have bf : Box wr f [.pointer (some ⟨d, 0, none⟩), .int .i64 (fr : Nat), .int .i64 (pg : Nat), .bool de] := HFK.out
    have c0 := bf.cell 0 _ rfl
    have hlf := bf.lt
    by_cases hkn : k < n
    case neg =>
      obtain rfl : k = n := by omega
      have hwr : wrap64 ((k : Int) * 128) = (nn : Int) := by have := HN.out; rw [wrap64]; omega
      go_wp2_with fail
      refine (dsync_dv HDV.out HDK.out).mono ?_
      rintro e w2 ⟨S2, rfl, hdv2, hft2⟩
      have H2 := Lib.hid hdv2
      have H3 := Lib.hid hft2
      clear hdv2 hft2
      go_wp2_with fail
      go_ret
      rw [HLY.out, Nat.sub_self]
      exact ⟨S2, rfl, H2.out, HFT.out.trans H3.out⟩
    have hwr : wrap64 ((k : Int) * 128) = ((128 * k : Nat) : Int) := by rw [wrap64]; omega
    have hb1 : decide (128 * (k : Int) < (nn : Int)) = true := by have := HN.out; simp; omega
    have hb2 : decide (((128 * k : Nat) : Int) < (nn : Int)) = true := by have := HN.out; simp; omega
    have hkn2 : 128 * k + 128 ≤ nn := by have := HN.out; omega
    go_upto_region 4 with (fail)
    have hB : Below wr.heap.size wr wr := Below.refl _ _
    clear c0 hlf hwr hb1 hb2
    refine wp_region_partsDC (WFl4 f d fr pg q nn k bq oq cv de) 14 [[], [0], [0, 1], [0, 1, 2], [], [], [4, 5], [], [], [8], [], [10], [10, 11], [7, 8, 9, 10, 11, 12]] [some 16, some 17, some 18, some 19, some 20, some 21, some 22, some 23, some 24, some 25, some 26, some 27, some 28, some 29, some 30, some 8] (by kernel_rfl) (by kernel_rfl) rfl (PFl4 f d fr pg q nn k bq oq cv de) (PFl4_stable f d fr pg q nn k bq oq cv de ) ?pFl4 ?_
    case pFl4 =>
      intro i hi o ho vs lo hx_ w' hg hp
      match i, hi with
      | 0, _ =>
        obtain rfl := Option.some.inj ho
        clear ho
        simp only [actsD, List.getD_cons_zero, List.getD_cons_succ, List.foldl_cons, List.foldl_nil, Act.put, List.setIfInBounds_toArray, List.set_cons_succ, List.set_cons_zero]
        have hsz := hg.size
        have hgB : Below wr.heap.size wr w' := hg.below (fun k hk => ⟨hk, fun o => by rintro ⟨j, _, _, _, hw⟩; exact False.elim hw⟩)
        go_wp2
        exact ⟨_, rfl, GrowC.refl _, rfl⟩
      | 1, _ =>
        obtain rfl := Option.some.inj ho
        clear ho
        simp only [actsD, List.getD_cons_zero, List.getD_cons_succ, List.foldl_cons, List.foldl_nil, Act.put, List.setIfInBounds_toArray, List.set_cons_succ, List.set_cons_zero]
        obtain ⟨_, _, _, h0⟩ := hp 0 (by simp)
        simp only [PFl4] at h0
        have hsz := hg.size
        have hgB : Below wr.heap.size wr w' := hg.below (fun k hk => ⟨hk, fun o => by rintro ⟨j, _, _, _, hw⟩; exact False.elim hw⟩)
        rw [h0]
        go_wp2
        exact ⟨_, rfl, GrowC.refl _, rfl⟩
      | 2, _ =>
        obtain rfl := Option.some.inj ho
        clear ho
        simp only [actsD, List.getD_cons_zero, List.getD_cons_succ, List.foldl_cons, List.foldl_nil, Act.put, List.setIfInBounds_toArray, List.set_cons_succ, List.set_cons_zero]
        obtain ⟨_, _, _, h1⟩ := hp 1 (by simp)
        simp only [PFl4] at h1
        have hsz := hg.size
        have hgB : Below wr.heap.size wr w' := hg.below (fun k hk => ⟨hk, fun o => by rintro ⟨j, _, _, _, hw⟩; exact False.elim hw⟩)
        rw [h1]
        go_wp2
        exact ⟨_, rfl, GrowC.refl _, rfl⟩
      | 3, _ =>
        obtain rfl := Option.some.inj ho
        clear ho
        simp only [actsD, List.getD_cons_zero, List.getD_cons_succ, List.foldl_cons, List.foldl_nil, Act.put, List.setIfInBounds_toArray, List.set_cons_succ, List.set_cons_zero]
        obtain ⟨_, _, _, h2⟩ := hp 2 (by simp)
        simp only [PFl4] at h2
        have hsz := hg.size
        have hgB : Below wr.heap.size wr w' := hg.below (fun k hk => ⟨hk, fun o => by rintro ⟨j, _, _, _, hw⟩; exact False.elim hw⟩)
        rw [h2]
        have e0 := (hg.cell (f) 0 bf.lt (by rintro ⟨j, _, hne, hb, hw⟩; exact False.elim hw)).trans (bf.cell 0 _ rfl)
        go_wp2
        exact ⟨_, rfl, GrowC.refl _, rfl⟩
      | 4, _ =>
        obtain rfl := Option.some.inj ho
        clear ho
        simp only [actsD, List.getD_cons_zero, List.getD_cons_succ, List.foldl_cons, List.foldl_nil, Act.put, List.setIfInBounds_toArray, List.set_cons_succ, List.set_cons_zero]
        have hsz := hg.size
        have hgB : Below wr.heap.size wr w' := hg.below (fun k hk => ⟨hk, fun o => by rintro ⟨j, _, _, _, hw⟩; exact False.elim hw⟩)
        go_wp2
        exact ⟨_, rfl, GrowC.refl _, rfl⟩
      | 5, _ =>
        obtain rfl := Option.some.inj ho
        clear ho
        simp only [actsD, List.getD_cons_zero, List.getD_cons_succ, List.foldl_cons, List.foldl_nil, Act.put, List.setIfInBounds_toArray, List.set_cons_succ, List.set_cons_zero]
        have hsz := hg.size
        have hgB : Below wr.heap.size wr w' := hg.below (fun k hk => ⟨hk, fun o => by rintro ⟨j, _, _, _, hw⟩; exact False.elim hw⟩)
        go_wp2
        exact ⟨_, rfl, GrowC.refl _, rfl⟩
      | 6, _ =>
        obtain rfl := Option.some.inj ho
        clear ho
        simp only [actsD, List.getD_cons_zero, List.getD_cons_succ, List.foldl_cons, List.foldl_nil, Act.put, List.setIfInBounds_toArray, List.set_cons_succ, List.set_cons_zero]
        obtain ⟨_, _, _, h4⟩ := hp 4 (by simp)
        simp only [PFl4] at h4
        obtain ⟨_, _, _, h5⟩ := hp 5 (by simp)
        simp only [PFl4] at h5
        have hsz := hg.size
        have hgB : Below wr.heap.size wr w' := hg.below (fun k hk => ⟨hk, fun o => by rintro ⟨j, _, _, _, hw⟩; exact False.elim hw⟩)
        rw [h4, h5]
        go_wp2
        refine ⟨_, rfl, GrowC.refl _, ?_⟩
        simp only [PFl4]
        congr 1
        try rw [wrap64]
        first | done | omega
      | 7, _ =>
        obtain rfl := Option.some.inj ho
        clear ho
        simp only [actsD, List.getD_cons_zero, List.getD_cons_succ, List.foldl_cons, List.foldl_nil, Act.put, List.setIfInBounds_toArray, List.set_cons_succ, List.set_cons_zero]
        have hsz := hg.size
        have hgB : Below wr.heap.size wr w' := hg.below (fun k hk => ⟨hk, fun o => by rintro ⟨j, _, _, _, hw⟩; exact False.elim hw⟩)
        go_wp2
        exact ⟨_, rfl, GrowC.refl _, rfl⟩
      | 8, _ =>
        obtain rfl := Option.some.inj ho
        clear ho
        simp only [actsD, List.getD_cons_zero, List.getD_cons_succ, List.foldl_cons, List.foldl_nil, Act.put, List.setIfInBounds_toArray, List.set_cons_succ, List.set_cons_zero]
        have hsz := hg.size
        have hgB : Below wr.heap.size wr w' := hg.below (fun k hk => ⟨hk, fun o => by rintro ⟨j, _, _, _, hw⟩; exact False.elim hw⟩)
        go_wp2
        exact ⟨_, rfl, GrowC.refl _, rfl⟩
      | 9, _ =>
        obtain rfl := Option.some.inj ho
        clear ho
        simp only [actsD, List.getD_cons_zero, List.getD_cons_succ, List.foldl_cons, List.foldl_nil, Act.put, List.setIfInBounds_toArray, List.set_cons_succ, List.set_cons_zero]
        obtain ⟨_, _, _, h8⟩ := hp 8 (by simp)
        simp only [PFl4] at h8
        have hsz := hg.size
        have hgB : Below wr.heap.size wr w' := hg.below (fun k hk => ⟨hk, fun o => by rintro ⟨j, _, _, _, hw⟩; exact False.elim hw⟩)
        rw [h8]
        go_wp2
        refine ⟨_, rfl, GrowC.refl _, ?_⟩
        simp only [PFl4]
        congr 1
        try rw [wrap64]
        first | done | omega
      | 10, _ =>
        obtain rfl := Option.some.inj ho
        clear ho
        simp only [actsD, List.getD_cons_zero, List.getD_cons_succ, List.foldl_cons, List.foldl_nil, Act.put, List.setIfInBounds_toArray, List.set_cons_succ, List.set_cons_zero]
        have hsz := hg.size
        have hgB : Below wr.heap.size wr w' := hg.below (fun k hk => ⟨hk, fun o => by rintro ⟨j, _, _, _, hw⟩; exact False.elim hw⟩)
        go_wp2
        exact ⟨_, rfl, GrowC.refl _, rfl⟩
      | 11, _ =>
        obtain rfl := Option.some.inj ho
        clear ho
        simp only [actsD, List.getD_cons_zero, List.getD_cons_succ, List.foldl_cons, List.foldl_nil, Act.put, List.setIfInBounds_toArray, List.set_cons_succ, List.set_cons_zero]
        obtain ⟨_, _, _, h10⟩ := hp 10 (by simp)
        simp only [PFl4] at h10
        have hsz := hg.size
        have hgB : Below wr.heap.size wr w' := hg.below (fun k hk => ⟨hk, fun o => by rintro ⟨j, _, _, _, hw⟩; exact False.elim hw⟩)
        rw [h10]
        go_wp2
        refine ⟨_, rfl, GrowC.refl _, ?_⟩
        simp only [PFl4]
        congr 1
        try rw [wrap64]
        first | done | omega
      | 12, _ =>
        obtain rfl := Option.some.inj ho
        clear ho
        simp only [actsD, List.getD_cons_zero, List.getD_cons_succ, List.foldl_cons, List.foldl_nil, Act.put, List.setIfInBounds_toArray, List.set_cons_succ, List.set_cons_zero]
        obtain ⟨_, _, _, h11⟩ := hp 11 (by simp)
        simp only [PFl4] at h11
        have hsz := hg.size
        have hgB : Below wr.heap.size wr w' := hg.below (fun k hk => ⟨hk, fun o => by rintro ⟨j, _, _, _, hw⟩; exact False.elim hw⟩)
        rw [h11]
        go_wp2
        refine ⟨_, rfl, GrowC.refl _, ?_⟩
        simp only [PFl4]
        congr 1
        try rw [wrap64]
        first | done | omega
      | 13, _ =>
        obtain rfl := Option.some.inj ho
        clear ho
        simp only [actsD, List.getD_cons_zero, List.getD_cons_succ, List.foldl_cons, List.foldl_nil, Act.put, List.setIfInBounds_toArray, List.set_cons_succ, List.set_cons_zero]
        obtain ⟨_, _, _, h7⟩ := hp 7 (by simp)
        simp only [PFl4] at h7
        obtain ⟨_, _, _, h9⟩ := hp 9 (by simp)
        simp only [PFl4] at h9
        obtain ⟨_, _, _, h12⟩ := hp 12 (by simp)
        simp only [PFl4] at h12
        have hsz := hg.size
        have hgB : Below wr.heap.size wr w' := hg.below (fun k hk => ⟨hk, fun o => by rintro ⟨j, _, _, _, hw⟩; exact False.elim hw⟩)
        rw [h7, h9, h12]
        go_wp2
        have e13 : 128 * k + 128 - 128 * k = 128 := by omega
        rw [e13]
        exact ⟨_, rfl, GrowC.refl _, rfl⟩
      | (q + 14), hq => exact absurd hq (by omega)
    intro vS lo hi w5 hg hp hd
    obtain ⟨_, _, _, h0⟩ := hp 0 (by decide)
    obtain ⟨_, _, _, h1⟩ := hp 1 (by decide)
    obtain ⟨_, _, _, h2⟩ := hp 2 (by decide)
    obtain ⟨_, _, _, h3⟩ := hp 3 (by decide)
    obtain ⟨_, _, _, h4⟩ := hp 4 (by decide)
    obtain ⟨_, _, _, h5⟩ := hp 5 (by decide)
    obtain ⟨_, _, _, h6⟩ := hp 6 (by decide)
    obtain ⟨_, _, _, h7⟩ := hp 7 (by decide)
    obtain ⟨_, _, _, h8⟩ := hp 8 (by decide)
    obtain ⟨_, _, _, h9⟩ := hp 9 (by decide)
    obtain ⟨_, _, _, h10⟩ := hp 10 (by decide)
    obtain ⟨_, _, _, h11⟩ := hp 11 (by decide)
    obtain ⟨_, _, _, h12⟩ := hp 12 (by decide)
    obtain ⟨_, _, _, h13⟩ := hp 13 (by decide)
    simp only [PFl4] at h0 h1 h2 h3 h4 h5 h6 h7 h8 h9 h10 h11 h12 h13
    clear hp hd
    have hsz := hg.size
    replace bf := bf.grow hg (by intro i _; rintro ⟨j, _, hw⟩; exact False.elim hw)
    replace hB := hB.trans (hg.below (fun k hk => ⟨by omega, fun o => by rintro ⟨j, _, hw⟩; exact False.elim hw⟩))
    have hr : List.range 14 = [0, 1, 2, 3, 4, 5, 6, 7, 8, 9, 10, 11, 12, 13] := rfl
    rw [hr]
    clear hr
    simp only [List.drop_succ_cons, List.drop_zero, List.drop_nil, actsD, List.getD_cons_zero, List.getD_cons_succ, List.foldl_cons, List.foldl_nil, Act.put, List.setIfInBounds_toArray, List.set_cons_succ, List.set_cons_zero, h0, h1, h2, h3, h4, h5, h6, h7, h8, h9, h10, h11, h12, h13]
    clear h0 h1 h2 h3 h4 h5 h6 h7 h8 h9 h10 h11 h12 h13
    have hgr5 : GrowX (fun _ => False) wr w5 := grow_below hB
    have HV5 : Hid (DV W0 d Dk Sk w5) := Lib.hid (HDV.out.below hB)
    have HR5 : Hid (Reads 1 w5 (.slice (some ⟨bq, oq + 128 * k, none⟩) 128 (cv - 128 * k)) 128 ((chunk b k).map B)) := Lib.hid (Reads.sub HB.out (by have h1 := HN.out; have h2 := HV.out; rw [← h1] at h2; exact ((show Reads 1 w _ _ _ from h2).growx HFT.out.grow (fun q e => by have e2 : bq = q := (by simpa [Value.ownBlock] using e); exact e2 ▸ HSL.out)).growx hgr5 (fun _ _ h => h)) hkn)
    have HFT5 : Hid (Foot S Sk w w5) := Lib.hid (HFT.out.trans (Foot.below hgr5))
    have HSZ : Hid (w.heap.size ≤ wr.heap.size) := Lib.hid HFT.out.grow.size
    have hm1 : n - k = (n - (k + 1)) + 1 := by omega
    have HM1 := Lib.hid hm1
    clear hgr5 hB bf hg hsz hm1
    cases hbn : Dk.burn.1 with
    | false =>
      go_wp2_with fail
      refine (dwrite_dv HV5.out HDK.out (by have := HCK.out; omega) (q + k) (by have := HLK.out; have := HQ.out; omega) (chunk b k) (chunk_len HB.out hkn) _ HR5.out (fun e he => by have e2 : bq = e := (by simpa [Value.ownBlock] using he); exact e2 ▸ HBS2.out)).mono ?_
      rw [hbn]
      rintro e w6 ⟨S6, rfl, hdv6, hft6⟩
      have H6 := Lib.hid hdv6
      have F6 := Lib.hid hft6
      clear hdv6 hft6
      simp only [eDead]
      go_wp2_with fail
      go_ret
      rw [HLY.out, HM1.out, Dv.layR, hbn]
      exact ⟨rfl, S6, H6.out, HFT5.out.trans F6.out⟩
    | true =>
      go_wp2_with fail
      refine (dwrite_dv HV5.out HDK.out (by have := HCK.out; omega) (q + k) (by have := HLK.out; have := HQ.out; omega) (chunk b k) (chunk_len HB.out hkn) _ HR5.out (fun e he => by have e2 : bq = e := (by simpa [Value.ownBlock] using he); exact e2 ▸ HBS2.out)).mono ?_
      rw [hbn]
      rintro e w6 ⟨S6, rfl, hdv6, hft6⟩
      have H6 := Lib.hid hdv6
      have F6 := Lib.hid (HFT5.out.trans hft6)
      clear hdv6 hft6
      simp only [eDead]
      go_wp2_with fail
      go_roundw
      · refine ⟨k + 1, Dk.write (q + k) (chunk b k), S6, by omega, by simp, ?_, ?_, ?_, ?_, H6.out, F6.out⟩
        · rw [HLY.out, HM1.out, Dv.layR, hbn]; rfl
        · exact (Dv.write_facts hbn (q + k) (chunk b k)).1.trans HDK.out
        · rw [(Dv.write_facts hbn (q + k) (chunk b k)).2.1]; exact HLK.out
        · rw [(Dv.write_facts hbn (q + k) (chunk b k)).2.2, List.length_append]
          have := HCK.out
          simp only [List.length_cons, List.length_nil]; omega
      · simp [intOf]; omega
end Go.Proofs.Ytdnjjdpenfhpeaa

/- The file: write: the page's bytes into the journal, its head, the page at home, the head again. Conditions: the device lives. -/
import Derived.Test.YtdnjjdpenfhpeaaFlHead
namespace Go.Proofs.Ytdnjjdpenfhpeaa
set_option linter.unusedSimpArgs false
set_option linter.unusedVariables false
open Go.RowKit

/-- a scope whose label is only jumped to from ahead of it -/
theorem wp_scope_fwd {P : Program} {a : Act} {w : World} {Q : Exit → Act → World → Prop} {c rest : Code} (l : Nat) (hf : findLabel c l = some rest)
    (first : c.wp P (Exit.jump l (fun a w => rest.wp P (Exit.jump l (fun _ _ => False) Q) a w) Q) a w) : (Code.scope c).wp P Q a w := by
  refine wp_scope_jumps l _ (fun _ _ => 0) hf first (fun a w h => wp_mono h ?_)
  intro e a w h
  cases e with
  | goto l' => exact absurd h.2 id
  | _ => exact h
theorem Dv.layR_facts {q : Nat} {b : List UInt8} : ∀ (m k : Nat) (D : Dv), (Dv.layR q b m k D).1 = true → (Dv.layR q b m k D).2.dead = D.dead ∧ (Dv.layR q b m k D).2.l.length = D.l.length ∧ (Dv.layR q b m k D).2.c = []
  | 0, k, D, h => by
    have h1 : D.burn.1 = true := h
    show D.sync.dead = _ ∧ D.sync.l.length = _ ∧ D.sync.c = _
    obtain ⟨b1, b2⟩ := Dv.burn_l D
    unfold Dv.sync
    rw [if_pos h1]
    refine ⟨?_, ?_, rfl⟩
    · rcases Dv.burn_cases D with hc | hc | hc
      · rw [hc.2.1] at h1; cases h1
      · exact hc.2.2.2.1
      · exact hc.2.2.2.2.1
    · show (setAll D.burn.2.l D.burn.2.c).length = _
      rw [setAll_length, b1]
  | m + 1, k, D, h => by
    rw [Dv.layR] at h ⊢
    by_cases hb : D.burn.1 = true
    · rw [if_pos hb] at h ⊢
      obtain ⟨h1, h2, h3⟩ := Dv.layR_facts m (k + 1) _ h
      obtain ⟨f1, f2, f3⟩ := Dv.write_facts hb (q + k) (chunk b k)
      exact ⟨h1.trans f1, h2.trans (by rw [f2]), h3⟩
    · rw [if_neg hb] at h; cases h
def Dv.fwrite (D : Dv) (fr p : Nat) (b : List UInt8) : Bool × Dv :=
  if (Dv.layR (fr + 1) b 4 0 D).1 then
    if (Dv.layR fr (headL (p + 1) 8) 1 0 (Dv.layR (fr + 1) b 4 0 D).2).1 then
      if (Dv.layR (fr + 5 + 4 * p) b 4 0 (Dv.layR fr (headL (p + 1) 8) 1 0 (Dv.layR (fr + 1) b 4 0 D).2).2).1 then
        Dv.layR fr (headL 0 8) 1 0 (Dv.layR (fr + 5 + 4 * p) b 4 0 (Dv.layR fr (headL (p + 1) 8) 1 0 (Dv.layR (fr + 1) b 4 0 D).2).2).2
      else (false, (Dv.layR (fr + 5 + 4 * p) b 4 0 (Dv.layR fr (headL (p + 1) 8) 1 0 (Dv.layR (fr + 1) b 4 0 D).2).2).2)
    else (false, (Dv.layR fr (headL (p + 1) 8) 1 0 (Dv.layR (fr + 1) b 4 0 D).2).2)
  else (false, (Dv.layR (fr + 1) b 4 0 D).2)
theorem Dv.fwrite1 {D D1 : Dv} {fr p : Nat} {b : List UInt8} (h1 : Dv.layR (fr + 1) b 4 0 D = (false, D1)) : D.fwrite fr p b = (false, D1) := by simp [Dv.fwrite, h1]
theorem Dv.fwrite2 {D D1 D2 : Dv} {fr p : Nat} {b : List UInt8} (h1 : Dv.layR (fr + 1) b 4 0 D = (true, D1)) (h2 : Dv.layR fr (headL (p + 1) 8) 1 0 D1 = (false, D2)) : D.fwrite fr p b = (false, D2) := by simp [Dv.fwrite, h1, h2]
theorem Dv.fwrite3 {D D1 D2 D3 : Dv} {fr p : Nat} {b : List UInt8} (h1 : Dv.layR (fr + 1) b 4 0 D = (true, D1)) (h2 : Dv.layR fr (headL (p + 1) 8) 1 0 D1 = (true, D2)) (h3 : Dv.layR (fr + 5 + 4 * p) b 4 0 D2 = (false, D3)) : D.fwrite fr p b = (false, D3) := by simp [Dv.fwrite, h1, h2, h3]
theorem Dv.fwrite4 {D D1 D2 D3 : Dv} {fr p : Nat} {b : List UInt8} (h1 : Dv.layR (fr + 1) b 4 0 D = (true, D1)) (h2 : Dv.layR fr (headL (p + 1) 8) 1 0 D1 = (true, D2)) (h3 : Dv.layR (fr + 5 + 4 * p) b 4 0 D2 = (true, D3)) : D.fwrite fr p b = Dv.layR fr (headL 0 8) 1 0 D3 := by simp [Dv.fwrite, h1, h2, h3]
theorem Buf.reads {w : World} {g : Nat} {l : List UInt8} (h : Buf w g l) (hl : l.length = 128) : Reads 1 w (.slice (some ⟨g, 0, none⟩) 128 128) (128 * 1) (l.map B) :=
  ⟨_, _, rfl, by rw [List.length_map, hl], Nat.le_refl _, fun _ => ⟨g, 0, rfl, h.lt, fun j u hu => by rw [Nat.zero_add]; exact h.cell j u hu⟩⟩

def WFw3 (f d fr pg p HS : Nat) (de : Bool) (v2 : Value) (j b o : Nat) : Prop := False
def PFw3 (f d fr pg p HS : Nat) (de : Bool) (v2 : Value) (i : Nat) (v : Value) (lo hi : Nat) (w : World) : Prop :=
  match i with
  | 0 => v = .pointer (some ⟨f, 0, none⟩)
  | 1 => v = .pointer (some ⟨f, 0, none⟩)
  | 2 => v = .pointer (some ⟨f, 0, none⟩)
  | 3 => v = .pointer (some ⟨f, 1, none⟩)
  | 4 => v = .int .i64 ((fr : Nat) : Int)
  | 5 => v = .int .i64 ((p : Nat) : Int)
  | 6 => ∃ g, v = .slice (some ⟨g, 0, none⟩) 128 128 ∧ HS ≤ g ∧ Buf w g (headL (p + 1) 8)
  | _ => True
theorem PFw3_stable (f d fr pg p HS : Nat) (de : Bool) (v2 : Value)  : ∀ i j, i < 7 → j < 7 → j ≠ i → j ∉ ([[], [], [1], [1, 2], [1, 2, 3], [], [5]] : List (List Nat)).getD i [] → ∀ v lo hi w w', PFw3 f d fr pg p HS de v2 i v lo hi w → GrowC (WFw3 f d fr pg p HS de v2 j) w w' → PFw3 f d fr pg p HS de v2 i v lo hi w' := by
  intro i j hi hj hne hbs v lo hj2 w w' h hg
  match i, hi with
  | 0, _ =>
    simp only [PFw3] at h ⊢
    exact h
  | 1, _ =>
    simp only [PFw3] at h ⊢
    exact h
  | 2, _ =>
    simp only [PFw3] at h ⊢
    exact h
  | 3, _ =>
    simp only [PFw3] at h ⊢
    exact h
  | 4, _ =>
    simp only [PFw3] at h ⊢
    exact h
  | 5, _ =>
    simp only [PFw3] at h ⊢
    exact h
  | 6, _ =>
    simp only [PFw3] at h ⊢
    obtain ⟨g, h1, h2, h3⟩ := h
    exact ⟨g, h1, h2, h3.growx (GrowX.of_growC hg (Y := fun _ => False) (fun k o h => h)) (fun h => h)⟩
  | (q + 7), hq => exact absurd hq (by omega)
def WFw7 (f d fr pg p HS : Nat) (de : Bool) (v2 : Value) (j b o : Nat) : Prop := False
def PFw7 (f d fr pg p HS : Nat) (de : Bool) (v2 : Value) (i : Nat) (v : Value) (lo hi : Nat) (w : World) : Prop :=
  match i with
  | 0 => v = .pointer (some ⟨f, 0, none⟩)
  | 1 => v = .pointer (some ⟨f, 0, none⟩)
  | 2 => v = .pointer (some ⟨f, 0, none⟩)
  | 3 => v = .pointer (some ⟨f, 1, none⟩)
  | 4 => v = .int .i64 ((fr : Nat) : Int)
  | 5 => ∃ g, v = .slice (some ⟨g, 0, none⟩) 128 128 ∧ HS ≤ g ∧ Buf w g (headL 0 8)
  | _ => True
theorem PFw7_stable (f d fr pg p HS : Nat) (de : Bool) (v2 : Value)  : ∀ i j, i < 6 → j < 6 → j ≠ i → j ∉ ([[], [], [1], [1, 2], [1, 2, 3], []] : List (List Nat)).getD i [] → ∀ v lo hi w w', PFw7 f d fr pg p HS de v2 i v lo hi w → GrowC (WFw7 f d fr pg p HS de v2 j) w w' → PFw7 f d fr pg p HS de v2 i v lo hi w' := by
  intro i j hi hj hne hbs v lo hj2 w w' h hg
  match i, hi with
  | 0, _ =>
    simp only [PFw7] at h ⊢
    exact h
  | 1, _ =>
    simp only [PFw7] at h ⊢
    exact h
  | 2, _ =>
    simp only [PFw7] at h ⊢
    exact h
  | 3, _ =>
    simp only [PFw7] at h ⊢
    exact h
  | 4, _ =>
    simp only [PFw7] at h ⊢
    exact h
  | 5, _ =>
    simp only [PFw7] at h ⊢
    obtain ⟨g, h1, h2, h3⟩ := h
    exact ⟨g, h1, h2, h3.growx (GrowX.of_growC hg (Y := fun _ => False) (fun k o h => h)) (fun h => h)⟩
  | (q + 6), hq => exact absurd hq (by omega)

set_option maxRecDepth 100000 in
set_option maxHeartbeats 3200000 in
theorem fwrite_dv {W0 w : World} {f d fr pg : Nat} {de : Bool} {D : Dv} {S : Nat → Prop} (hf : FileBox w f d fr pg de) (hfS : ¬ S f) (h : DV W0 d D S w) (hdead : D.dead = false) (p : Nat) (hp : p < pg) (hq : fr + 5 + 4 * pg ≤ D.l.length) (hcl : D.c.length ≤ 1000)
    (b : List UInt8) (hb : b.length = 512) (v : Value) (hv : Reads 1 w v 512 (b.map B)) (hsl : ∀ k, v.ownBlock = some k → ¬ S k) :
    Calls Try.prog 54 #[.pointer (some ⟨f, 0, none⟩), .int .i64 (p : Nat), v] w fun e w' => ∃ S', e = .returned (.int .i64 (eDead (D.fwrite fr p b).1)) ∧ DV W0 d (D.fwrite fr p b).2 S' w' ∧ Foot S S' w w' := by
  have hln := h.ok.n
  have hfw : f < w.heap.size := hf.lt
  obtain ⟨av, cv, rfl, hlm, hvc, hvr⟩ := hv
  obtain ⟨bq, oq, rfl, hbq, hcell⟩ := hvr (by omega)
  have hv : Reads 1 w (.slice (some ⟨bq, oq, none⟩) 512 cv) 512 (b.map B) := ⟨_, _, rfl, hlm, hvc, fun _ => ⟨bq, oq, rfl, hbq, hcell⟩⟩
  obtain ⟨v2, hv2⟩ : ∃ v, Value.slice (some ⟨bq, oq, none⟩) 512 cv = v := ⟨_, rfl⟩
  have hob : ∀ k, v2.ownBlock = some k → k = bq := by subst hv2; intro k e; exact (show bq = k from by simpa [Value.ownBlock] using e).symm
  rw [hv2] at hv ⊢
  have HFS := Lib.hid hfS
  have HF := Lib.hid hf
  have HD := Lib.hid h
  have HV := Lib.hid hv
  have HSL : Hid (¬ S bq) := Lib.hid (hsl bq (by subst hv2; rfl))
  have HB := Lib.hid hb
  have HQ := Lib.hid hq
  have HDD := Lib.hid hdead
  have hfr : fr ≤ 8192 := by omega
  have hp2 : p ≤ 8192 := by omega
  have c1 := hf.cell 1 _ rfl
  have hlay := lay_dv hf hfS h hdead (fr + 1) 4 (by omega) (by omega) (by omega) b hb v2 hv (fun k e hs => HSL.out (hob k e ▸ hs))
  have hwr1 : wrap64 ((fr : Int) + 1) = ((fr + 1 : Nat) : Int) := by rw [wrap64]; omega
  have HLAY := Lib.hid hlay
  clear hlay hf h hv hsl hb hq hfS hdead hv2 hlm hvc hvr hcell
  go_enter Try.func54, Try.ntmps54
  go_wp2_with fail
  refine wp_scope_fwd 0 rfl ?_
  go_wp2_with fail
  obtain ⟨r1, hr1⟩ : ∃ r, Dv.layR (fr + 1) b 4 0 D = r := ⟨_, rfl⟩
  have FC1 : Hid (r1.1 = true → r1.2.dead = D.dead ∧ r1.2.l.length = D.l.length ∧ r1.2.c = []) := Lib.hid (by rw [← hr1]; exact Dv.layR_facts _ _ _)
  rw [hr1] at HLAY
  have E1 := Lib.hid hr1
  clear hr1
  obtain ⟨b1, D1⟩ := r1
  refine HLAY.out.mono ?_
  clear HLAY
  rintro e y1 ⟨S1, rfl, hdv, hft⟩
  have H1 : Hid (DV W0 d D1 S1 y1) := Lib.hid hdv
  have G1 := Lib.hid (hft)
  clear hdv hft
  cases b1 with
  | false =>
    simp only [eDead]
    go_wp2_with fail
    go_step3
    refine ⟨rfl, ?_⟩
    go_wp2
    simp only [Exit.jump]
    go_ret
    rw [Dv.fwrite1 E1.out]
    exact ⟨S1, rfl, H1.out, G1.out⟩
  | true =>
    simp only [eDead]
    have hfs : ¬ S1 f := fun hs => (G1.out.new f hs).elim HFS.out (fun e => by omega)
    have hbs : ¬ S1 bq := fun hs => (G1.out.new bq hs).elim HSL.out (fun e => by omega)
    have HFS1 := Lib.hid hfs
    have HBS1 := Lib.hid hbs
    have HF1 : Hid (FileBox y1 f d fr pg de) := Lib.hid (HF.out.growx G1.out.grow HFS.out)
    have HV1 : Hid (Reads 1 y1 v2 512 (b.map B)) := Lib.hid (HV.out.growx G1.out.grow (fun q e hs => HSL.out (hob q e ▸ hs)))
    have bf : Box y1 f [.pointer (some ⟨d, 0, none⟩), .int .i64 (fr : Nat), .int .i64 (pg : Nat), .bool de] := HF1.out
    have DF1 : Hid (D1.dead = false ∧ D1.l.length = D.l.length ∧ D1.c = []) := Lib.hid (by have := FC1.out rfl; exact ⟨this.1.trans HDD.out, this.2.1, this.2.2⟩)
    clear hfs hbs FC1
    clear c1 hwr1
    go_upto_region 3 with (fail)
    have hB : Below y1.heap.size y1 y1 := Below.refl _ _
    obtain ⟨HS, hHS⟩ : ∃ n, y1.heap.size = n := ⟨_, rfl⟩
    refine wp_region_partsDC (WFw3 f d fr pg p HS de v2) 7 [[], [], [1], [1, 2], [1, 2, 3], [], [5]] [some 17, some 18, some 19, some 20, some 21, some 22, some 23, some 24, some 6] (by kernel_rfl) (by kernel_rfl) rfl (PFw3 f d fr pg p HS de v2) (PFw3_stable f d fr pg p HS de v2 ) ?pFw3 ?_
    case pFw3 =>
      intro i hi o ho vs lo hx_ w' hg hp
      match i, hi with
      | 0, _ =>
        obtain rfl := Option.some.inj ho
        clear ho
        simp only [actsD, List.getD_cons_zero, List.getD_cons_succ, List.foldl_cons, List.foldl_nil, Act.put, List.setIfInBounds_toArray, List.set_cons_succ, List.set_cons_zero]
        have hsz := hg.size
        have hgB : Below y1.heap.size y1 w' := hg.below (fun k hk => ⟨hk, fun o => by rintro ⟨j, _, _, _, hw⟩; exact False.elim hw⟩)
        go_wp2
        exact ⟨_, rfl, GrowC.refl _, rfl⟩
      | 1, _ =>
        obtain rfl := Option.some.inj ho
        clear ho
        simp only [actsD, List.getD_cons_zero, List.getD_cons_succ, List.foldl_cons, List.foldl_nil, Act.put, List.setIfInBounds_toArray, List.set_cons_succ, List.set_cons_zero]
        have hsz := hg.size
        have hgB : Below y1.heap.size y1 w' := hg.below (fun k hk => ⟨hk, fun o => by rintro ⟨j, _, _, _, hw⟩; exact False.elim hw⟩)
        go_wp2
        exact ⟨_, rfl, GrowC.refl _, rfl⟩
      | 2, _ =>
        obtain rfl := Option.some.inj ho
        clear ho
        simp only [actsD, List.getD_cons_zero, List.getD_cons_succ, List.foldl_cons, List.foldl_nil, Act.put, List.setIfInBounds_toArray, List.set_cons_succ, List.set_cons_zero]
        obtain ⟨_, _, _, h1⟩ := hp 1 (by simp)
        simp only [PFw3] at h1
        have hsz := hg.size
        have hgB : Below y1.heap.size y1 w' := hg.below (fun k hk => ⟨hk, fun o => by rintro ⟨j, _, _, _, hw⟩; exact False.elim hw⟩)
        rw [h1]
        go_wp2
        exact ⟨_, rfl, GrowC.refl _, rfl⟩
      | 3, _ =>
        obtain rfl := Option.some.inj ho
        clear ho
        simp only [actsD, List.getD_cons_zero, List.getD_cons_succ, List.foldl_cons, List.foldl_nil, Act.put, List.setIfInBounds_toArray, List.set_cons_succ, List.set_cons_zero]
        obtain ⟨_, _, _, h2⟩ := hp 2 (by simp)
        simp only [PFw3] at h2
        have hsz := hg.size
        have hgB : Below y1.heap.size y1 w' := hg.below (fun k hk => ⟨hk, fun o => by rintro ⟨j, _, _, _, hw⟩; exact False.elim hw⟩)
        rw [h2]
        go_wp2
        exact ⟨_, rfl, GrowC.refl _, rfl⟩
      | 4, _ =>
        obtain rfl := Option.some.inj ho
        clear ho
        simp only [actsD, List.getD_cons_zero, List.getD_cons_succ, List.foldl_cons, List.foldl_nil, Act.put, List.setIfInBounds_toArray, List.set_cons_succ, List.set_cons_zero]
        obtain ⟨_, _, _, h3⟩ := hp 3 (by simp)
        simp only [PFw3] at h3
        have hsz := hg.size
        have hgB : Below y1.heap.size y1 w' := hg.below (fun k hk => ⟨hk, fun o => by rintro ⟨j, _, _, _, hw⟩; exact False.elim hw⟩)
        rw [h3]
        have e0 := (hg.cell (f) 1 bf.lt (by rintro ⟨j, _, hne, hb, hw⟩; exact False.elim hw)).trans (bf.cell 1 _ rfl)
        go_wp2
        exact ⟨_, rfl, GrowC.refl _, rfl⟩
      | 5, _ =>
        obtain rfl := Option.some.inj ho
        clear ho
        simp only [actsD, List.getD_cons_zero, List.getD_cons_succ, List.foldl_cons, List.foldl_nil, Act.put, List.setIfInBounds_toArray, List.set_cons_succ, List.set_cons_zero]
        have hsz := hg.size
        have hgB : Below y1.heap.size y1 w' := hg.below (fun k hk => ⟨hk, fun o => by rintro ⟨j, _, _, _, hw⟩; exact False.elim hw⟩)
        go_wp2
        exact ⟨_, rfl, GrowC.refl _, rfl⟩
      | 6, _ =>
        obtain rfl := Option.some.inj ho
        clear ho
        simp only [actsD, List.getD_cons_zero, List.getD_cons_succ, List.foldl_cons, List.foldl_nil, Act.put, List.setIfInBounds_toArray, List.set_cons_succ, List.set_cons_zero]
        obtain ⟨_, _, _, h5⟩ := hp 5 (by simp)
        simp only [PFw3] at h5
        have hsz := hg.size
        have hgB : Below y1.heap.size y1 w' := hg.below (fun k hk => ⟨hk, fun o => by rintro ⟨j, _, _, _, hw⟩; exact False.elim hw⟩)
        rw [h5]
        go_wp2_with fail
        refine (head_any w' ((p : Nat) : Int) (p + 1) (by omega) (by omega)).mono ?_
        rintro e wh ⟨g, rfl, h1, h2, h3⟩
        go_wp2
        exact ⟨_, rfl, GrowC.of_grow ⟨h3.os, h3.tape, h3.output, h3.size, fun k hk => h3.block k hk (fun h => h)⟩, g, rfl, by have := hHS; omega, h1⟩
      | (q + 7), hq => exact absurd hq (by omega)
    intro vS lo hi w5 hg hp hd
    obtain ⟨_, _, _, h0⟩ := hp 0 (by decide)
    obtain ⟨_, _, _, h1⟩ := hp 1 (by decide)
    obtain ⟨_, _, _, h2⟩ := hp 2 (by decide)
    obtain ⟨_, _, _, h3⟩ := hp 3 (by decide)
    obtain ⟨_, _, _, h4⟩ := hp 4 (by decide)
    obtain ⟨_, _, _, h5⟩ := hp 5 (by decide)
    obtain ⟨_, _, _, h6⟩ := hp 6 (by decide)
    simp only [PFw3] at h0 h1 h2 h3 h4 h5 h6
    clear hp hd
    have hsz := hg.size
    replace bf := bf.grow hg (by intro i _; rintro ⟨j, _, hw⟩; exact False.elim hw)
    replace hB := hB.trans (hg.below (fun k hk => ⟨by omega, fun o => by rintro ⟨j, _, hw⟩; exact False.elim hw⟩))
    have hr : List.range 7 = [0, 1, 2, 3, 4, 5, 6] := rfl
    rw [hr]
    clear hr
    simp only [List.drop_succ_cons, List.drop_zero, List.drop_nil, actsD, List.getD_cons_zero, List.getD_cons_succ, List.foldl_cons, List.foldl_nil, Act.put, List.setIfInBounds_toArray, List.set_cons_succ, List.set_cons_zero, h0, h1, h2, h3, h4, h5]
    clear h0 h1 h2 h3 h4 h5
    have hgr5 : GrowX (fun _ => False) y1 w5 := grow_below hB
    have HV5 : Hid (DV W0 d D1 S1 w5) := Lib.hid (H1.out.below hB)
    have HB5 : Hid (FileBox w5 f d fr pg de) := Lib.hid bf
    obtain ⟨gh, eh, hgh, hbh⟩ := h6
    rw [eh]
    have HLAY2 := Lib.hid (lay_dv HB5.out HFS1.out HV5.out DF1.out.1 fr 1 (by omega) (by have := HQ.out; have := DF1.out.2.1; omega) (by have := DF1.out.2.2; rw [this]; simp) (headL (p + 1) 8) (headL_len _ (by omega)) (.slice (some ⟨gh, 0, none⟩) 128 128) (hbh.reads (headL_len _ (by omega))) (fun q e hs => by have e2 : gh = q := (by simpa [Value.ownBlock] using e); have := (H1.out.lt q hs).2; omega))
    have HGH := Lib.hid hgh
    clear hbh bf hB hg hsz hgh
    go_wp2_with fail
    obtain ⟨r2, hr2⟩ : ∃ r, Dv.layR fr (headL (p + 1) 8) 1 0 D1 = r := ⟨_, rfl⟩
    have FC2 : Hid (r2.1 = true → r2.2.dead = D1.dead ∧ r2.2.l.length = D1.l.length ∧ r2.2.c = []) := Lib.hid (by rw [← hr2]; exact Dv.layR_facts _ _ _)
    rw [hr2] at HLAY2
    have E2 := Lib.hid hr2
    clear hr2
    obtain ⟨b2, D2⟩ := r2
    refine HLAY2.out.mono ?_
    clear HLAY2
    rintro e y2 ⟨S2, rfl, hdv, hft⟩
    have H2 : Hid (DV W0 d D2 S2 y2) := Lib.hid hdv
    have G2 := Lib.hid (G1.out.trans ((Foot.below hgr5).trans hft))
    clear hdv hft
    cases b2 with
    | false =>
      simp only [eDead]
      go_wp2_with fail
      go_step3
      refine ⟨rfl, ?_⟩
      go_wp2
      simp only [Exit.jump]
      go_ret
      rw [Dv.fwrite2 E1.out E2.out]
      exact ⟨S2, rfl, H2.out, G2.out⟩
    | true =>
      simp only [eDead]
      have hfs : ¬ S2 f := fun hs => (G2.out.new f hs).elim HFS.out (fun e => by omega)
      have hbs : ¬ S2 bq := fun hs => (G2.out.new bq hs).elim HSL.out (fun e => by omega)
      have HFS2 := Lib.hid hfs
      have HBS2 := Lib.hid hbs
      have HF2 : Hid (FileBox y2 f d fr pg de) := Lib.hid (HF.out.growx G2.out.grow HFS.out)
      have HV2 : Hid (Reads 1 y2 v2 512 (b.map B)) := Lib.hid (HV.out.growx G2.out.grow (fun q e hs => HSL.out (hob q e ▸ hs)))
      have bf : Box y2 f [.pointer (some ⟨d, 0, none⟩), .int .i64 (fr : Nat), .int .i64 (pg : Nat), .bool de] := HF2.out
      have DF2 : Hid (D2.dead = false ∧ D2.l.length = D.l.length ∧ D2.c = []) := Lib.hid (by have := FC2.out rfl; exact ⟨this.1.trans DF1.out.1, this.2.1.trans DF1.out.2.1, this.2.2⟩)
      clear hfs hbs FC2
      have c0 := bf.cell 0 _ rfl
      have HLAY3 := Lib.hid (lay_dv HF2.out HFS2.out H2.out DF2.out.1 (fr + 5 + 4 * p) 4 (by decide) (by have := HQ.out; have := DF2.out.2.1; omega) (by have := DF2.out.2.2; rw [this]; simp) b HB.out v2 HV2.out (fun k e hs => HBS2.out (hob k e ▸ hs)))
      go_wp2_with fail
      refine (home_at HF2.out (by omega) p (by omega)).mono ?_
      rintro e wh ⟨rfl, rfl⟩
      clear c0 bf
      go_wp2_with fail
      obtain ⟨r3, hr3⟩ : ∃ r, Dv.layR (fr + 5 + 4 * p) b 4 0 D2 = r := ⟨_, rfl⟩
      have FC3 : Hid (r3.1 = true → r3.2.dead = D2.dead ∧ r3.2.l.length = D2.l.length ∧ r3.2.c = []) := Lib.hid (by rw [← hr3]; exact Dv.layR_facts _ _ _)
      rw [hr3] at HLAY3
      have E3 := Lib.hid hr3
      clear hr3
      obtain ⟨b3, D3⟩ := r3
      refine HLAY3.out.mono ?_
      clear HLAY3
      rintro e y3 ⟨S3, rfl, hdv, hft⟩
      have H3 : Hid (DV W0 d D3 S3 y3) := Lib.hid hdv
      have G3 := Lib.hid (G2.out.trans hft)
      clear hdv hft
      cases b3 with
      | false =>
        simp only [eDead]
        go_wp2_with fail
        go_step3
        refine ⟨rfl, ?_⟩
        go_wp2
        simp only [Exit.jump]
        go_ret
        rw [Dv.fwrite3 E1.out E2.out E3.out]
        exact ⟨S3, rfl, H3.out, G3.out⟩
      | true =>
        simp only [eDead]
        have hfs : ¬ S3 f := fun hs => (G3.out.new f hs).elim HFS.out (fun e => by omega)
        have hbs : ¬ S3 bq := fun hs => (G3.out.new bq hs).elim HSL.out (fun e => by omega)
        have HFS3 := Lib.hid hfs
        have HBS3 := Lib.hid hbs
        have HF3 : Hid (FileBox y3 f d fr pg de) := Lib.hid (HF.out.growx G3.out.grow HFS.out)
        have HV3 : Hid (Reads 1 y3 v2 512 (b.map B)) := Lib.hid (HV.out.growx G3.out.grow (fun q e hs => HSL.out (hob q e ▸ hs)))
        have bf : Box y3 f [.pointer (some ⟨d, 0, none⟩), .int .i64 (fr : Nat), .int .i64 (pg : Nat), .bool de] := HF3.out
        have DF3 : Hid (D3.dead = false ∧ D3.l.length = D.l.length ∧ D3.c = []) := Lib.hid (by have := FC3.out rfl; exact ⟨this.1.trans DF2.out.1, this.2.1.trans DF2.out.2.1, this.2.2⟩)
        clear hfs hbs FC3
        go_upto_region 7 with (fail)
        have hB : Below y3.heap.size y3 y3 := Below.refl _ _
        obtain ⟨HS, hHS⟩ : ∃ n, y3.heap.size = n := ⟨_, rfl⟩
        refine wp_region_partsDC (WFw7 f d fr pg p HS de v2) 6 [[], [], [1], [1, 2], [1, 2, 3], []] [some 35, some 36, some 37, some 38, some 39, some 40, some 41, some 6] (by kernel_rfl) (by kernel_rfl) rfl (PFw7 f d fr pg p HS de v2) (PFw7_stable f d fr pg p HS de v2 ) ?pFw7 ?_
        case pFw7 =>
          intro i hi o ho vs lo hx_ w' hg hp
          match i, hi with
          | 0, _ =>
            obtain rfl := Option.some.inj ho
            clear ho
            simp only [actsD, List.getD_cons_zero, List.getD_cons_succ, List.foldl_cons, List.foldl_nil, Act.put, List.setIfInBounds_toArray, List.set_cons_succ, List.set_cons_zero]
            have hsz := hg.size
            have hgB : Below y3.heap.size y3 w' := hg.below (fun k hk => ⟨hk, fun o => by rintro ⟨j, _, _, _, hw⟩; exact False.elim hw⟩)
            go_wp2
            exact ⟨_, rfl, GrowC.refl _, rfl⟩
          | 1, _ =>
            obtain rfl := Option.some.inj ho
            clear ho
            simp only [actsD, List.getD_cons_zero, List.getD_cons_succ, List.foldl_cons, List.foldl_nil, Act.put, List.setIfInBounds_toArray, List.set_cons_succ, List.set_cons_zero]
            have hsz := hg.size
            have hgB : Below y3.heap.size y3 w' := hg.below (fun k hk => ⟨hk, fun o => by rintro ⟨j, _, _, _, hw⟩; exact False.elim hw⟩)
            go_wp2
            exact ⟨_, rfl, GrowC.refl _, rfl⟩
          | 2, _ =>
            obtain rfl := Option.some.inj ho
            clear ho
            simp only [actsD, List.getD_cons_zero, List.getD_cons_succ, List.foldl_cons, List.foldl_nil, Act.put, List.setIfInBounds_toArray, List.set_cons_succ, List.set_cons_zero]
            obtain ⟨_, _, _, h1⟩ := hp 1 (by simp)
            simp only [PFw7] at h1
            have hsz := hg.size
            have hgB : Below y3.heap.size y3 w' := hg.below (fun k hk => ⟨hk, fun o => by rintro ⟨j, _, _, _, hw⟩; exact False.elim hw⟩)
            rw [h1]
            go_wp2
            exact ⟨_, rfl, GrowC.refl _, rfl⟩
          | 3, _ =>
            obtain rfl := Option.some.inj ho
            clear ho
            simp only [actsD, List.getD_cons_zero, List.getD_cons_succ, List.foldl_cons, List.foldl_nil, Act.put, List.setIfInBounds_toArray, List.set_cons_succ, List.set_cons_zero]
            obtain ⟨_, _, _, h2⟩ := hp 2 (by simp)
            simp only [PFw7] at h2
            have hsz := hg.size
            have hgB : Below y3.heap.size y3 w' := hg.below (fun k hk => ⟨hk, fun o => by rintro ⟨j, _, _, _, hw⟩; exact False.elim hw⟩)
            rw [h2]
            go_wp2
            exact ⟨_, rfl, GrowC.refl _, rfl⟩
          | 4, _ =>
            obtain rfl := Option.some.inj ho
            clear ho
            simp only [actsD, List.getD_cons_zero, List.getD_cons_succ, List.foldl_cons, List.foldl_nil, Act.put, List.setIfInBounds_toArray, List.set_cons_succ, List.set_cons_zero]
            obtain ⟨_, _, _, h3⟩ := hp 3 (by simp)
            simp only [PFw7] at h3
            have hsz := hg.size
            have hgB : Below y3.heap.size y3 w' := hg.below (fun k hk => ⟨hk, fun o => by rintro ⟨j, _, _, _, hw⟩; exact False.elim hw⟩)
            rw [h3]
            have e0 := (hg.cell (f) 1 bf.lt (by rintro ⟨j, _, hne, hb, hw⟩; exact False.elim hw)).trans (bf.cell 1 _ rfl)
            go_wp2
            exact ⟨_, rfl, GrowC.refl _, rfl⟩
          | 5, _ =>
            obtain rfl := Option.some.inj ho
            clear ho
            simp only [actsD, List.getD_cons_zero, List.getD_cons_succ, List.foldl_cons, List.foldl_nil, Act.put, List.setIfInBounds_toArray, List.set_cons_succ, List.set_cons_zero]
            have hsz := hg.size
            have hgB : Below y3.heap.size y3 w' := hg.below (fun k hk => ⟨hk, fun o => by rintro ⟨j, _, _, _, hw⟩; exact False.elim hw⟩)
            go_wp2_with fail
            refine (head_any w' (-1) 0 (by omega) (by omega)).mono ?_
            rintro e wh ⟨g, rfl, h1, h2, h3⟩
            go_wp2
            exact ⟨_, rfl, GrowC.of_grow ⟨h3.os, h3.tape, h3.output, h3.size, fun k hk => h3.block k hk (fun h => h)⟩, g, rfl, by have := hHS; omega, h1⟩
          | (q + 6), hq => exact absurd hq (by omega)
        intro vS lo hi w5 hg hp hd
        obtain ⟨_, _, _, h0⟩ := hp 0 (by decide)
        obtain ⟨_, _, _, h1⟩ := hp 1 (by decide)
        obtain ⟨_, _, _, h2⟩ := hp 2 (by decide)
        obtain ⟨_, _, _, h3⟩ := hp 3 (by decide)
        obtain ⟨_, _, _, h4⟩ := hp 4 (by decide)
        obtain ⟨_, _, _, h5⟩ := hp 5 (by decide)
        simp only [PFw7] at h0 h1 h2 h3 h4 h5
        clear hp hd
        have hsz := hg.size
        replace bf := bf.grow hg (by intro i _; rintro ⟨j, _, hw⟩; exact False.elim hw)
        replace hB := hB.trans (hg.below (fun k hk => ⟨by omega, fun o => by rintro ⟨j, _, hw⟩; exact False.elim hw⟩))
        have hr : List.range 6 = [0, 1, 2, 3, 4, 5] := rfl
        rw [hr]
        clear hr
        simp only [List.drop_succ_cons, List.drop_zero, List.drop_nil, actsD, List.getD_cons_zero, List.getD_cons_succ, List.foldl_cons, List.foldl_nil, Act.put, List.setIfInBounds_toArray, List.set_cons_succ, List.set_cons_zero, h0, h1, h2, h3, h4]
        clear h0 h1 h2 h3 h4
        have hgr5 : GrowX (fun _ => False) y3 w5 := grow_below hB
        have HV5 : Hid (DV W0 d D3 S3 w5) := Lib.hid (H3.out.below hB)
        have HB5 : Hid (FileBox w5 f d fr pg de) := Lib.hid bf
        obtain ⟨gh, eh, hgh, hbh⟩ := h5
        rw [eh]
        have HLAY4 := Lib.hid (lay_dv HB5.out HFS3.out HV5.out DF3.out.1 fr 1 (by omega) (by have := HQ.out; have := DF3.out.2.1; omega) (by have := DF3.out.2.2; rw [this]; simp) (headL 0 8) (headL_len _ (by omega)) (.slice (some ⟨gh, 0, none⟩) 128 128) (hbh.reads (headL_len _ (by omega))) (fun q e hs => by have e2 : gh = q := (by simpa [Value.ownBlock] using e); have := (H3.out.lt q hs).2; omega))
        have HGH := Lib.hid hgh
        clear hbh bf hB hg hsz hgh
        go_wp2_with fail
        obtain ⟨r4, hr4⟩ : ∃ r, Dv.layR fr (headL 0 8) 1 0 D3 = r := ⟨_, rfl⟩
        have FC4 : Hid (r4.1 = true → r4.2.dead = D3.dead ∧ r4.2.l.length = D3.l.length ∧ r4.2.c = []) := Lib.hid (by rw [← hr4]; exact Dv.layR_facts _ _ _)
        rw [hr4] at HLAY4
        have E4 := Lib.hid hr4
        clear hr4
        obtain ⟨b4, D4⟩ := r4
        refine HLAY4.out.mono ?_
        clear HLAY4
        rintro e y4 ⟨S4, rfl, hdv, hft⟩
        have H4 : Hid (DV W0 d D4 S4 y4) := Lib.hid hdv
        have G4 := Lib.hid (G3.out.trans ((Foot.below hgr5).trans hft))
        clear hdv hft
        go_wp2_with fail
        refine wp_label ?_
        go_wp2
        simp only [Exit.jump]
        go_ret
        rw [Dv.fwrite4 E1.out E2.out E3.out, E4.out]
        exact ⟨S4, rfl, H4.out, G4.out⟩
end Go.Proofs.Ytdnjjdpenfhpeaa

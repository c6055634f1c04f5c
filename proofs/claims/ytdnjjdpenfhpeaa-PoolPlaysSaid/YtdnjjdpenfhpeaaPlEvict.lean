/- The pool: Evict. Conditions: none. -/
import Derived.Test.YtdnjjdpenfhpeaaPlFree
namespace Go.Proofs.Ytdnjjdpenfhpeaa
set_option linter.unusedSimpArgs false
set_option linter.unusedVariables false
open Go.RowKit

def Pl.evict {St : Type} (step : St → Int → Int × St) (p : Pl) (s : St) (m : Int) : Int × Pl × St :=
  match findL p.F m with
  | none => (0, p, s)
  | some i => if (p.clean step s i).1 = 0 then (0, { (p.clean step s i).2.1 with F := (p.clean step s i).2.1.F.set i Fm.free }, (p.clean step s i).2.2) else p.clean step s i
theorem findL_lt {F : List Fm} {m : Int} {i : Nat} (h : findL F m = some i) : i < F.length := (List.findIdx?_eq_some_iff_getElem.1 h).1
section
variable {W0 : World} {g n f d fr pg : Nat} {St : Type} {FI : St → (Nat → Prop) → World → Prop} {p : Pl} {s : St} {S : Nat → Prop} {w : World} {fn : Nat} {caps : Array Value} {step : St → Int → Int × St} {okS : St → Prop}
/-- a pool told anew after its own blocks were written -/
theorem PV.again {fv : Value} {lb : Nat} {E' : List Fe} {K K' S1 S2 : Nat → Prop} {w' : World} {hand' wr' : Nat} (hF : ForceOf W0 fn caps FI step okS) (h2 : W0.heap.size ≤ g) (hl : W0.heap.size ≤ lb) (hk : ∀ k, K k → W0.heap.size ≤ k) (h3 : FV W0 f d fr pg p.P S1 w) (h4 : FI s S2 w)
    (h7 : Disj (own3 g lb K) S1) (h8 : Disj (own3 g lb K) S2) (h9 : Disj S1 S2) (hat : PoolAt w' W0.heap.size g lb n f fv E' hand' wr' K') (hgg : GrowX (own3 g lb K) w w') (hK : ∀ k, K' k → K k ∨ w.heap.size ≤ k)
    (hok : (Pl.mk (E'.map (·.1)) hand' wr' p.P).ok pg n) :
    PV W0 g n f d fr pg fv FI ⟨E'.map (·.1), hand', wr', p.P⟩ s (fun k => own3 g lb K' k ∨ S1 k ∨ S2 k) w' ∧ Foot (fun k => own3 g lb K k ∨ S1 k ∨ S2 k) (fun k => own3 g lb K' k ∨ S1 k ∨ S2 k) w w' := by
  have hbz := h3.bel.trans (hgg.below (fun k hk' => ⟨Nat.lt_of_lt_of_le hk' h3.bel.size, fun e => e.elim (fun e => by omega) (fun e => e.elim (fun e => by omega) (fun e => by have := hk k e; omega))⟩))
  have hnew : ∀ k, own3 g lb K' k → own3 g lb K k ∨ w.heap.size ≤ k := fun k h => h.elim (fun h => .inl (.inl h)) (fun h => h.elim (fun h => .inl (.inr (.inl h))) (fun h => (hK k h).imp (fun h => .inr (.inr h)) id))
  refine ⟨⟨lb, E', K', S1, S2, hat, h2, h3.grow hgg h7.symm hbz, hF.grow _ _ _ _ _ h4 hgg h8.symm hbz, rfl, hok, ?_, ?_, h9, rfl⟩, ⟨hgg.mono (fun k h => .inl h), ?_⟩⟩
  · intro k hk1 hk2
    exact (hnew k hk1).elim (fun h => h7 k h hk2) (fun h => by have := (h3.lt k hk2).2; omega)
  · intro k hk1 hk2
    exact (hnew k hk1).elim (fun h => h8 k h hk2) (fun h => by have := (hF.lt _ _ _ h4 k hk2).2; omega)
  · rintro k (h | h)
    · exact (hnew k h).imp .inl id
    · exact .inl (.inr h)
set_option maxRecDepth 100000 in
set_option maxHeartbeats 3200000 in
theorem evict_pv (hF : ForceOf W0 fn caps FI step okS) (h : PV W0 g n f d fr pg (.func (.func fn) #[] caps) FI p s S w) (m : Int) (hwr : p.wr + 1 ≤ 1000000000) (hs : okS s) :
    Calls Try.prog 10 #[.pointer (some ⟨g, 0, none⟩), .int .i64 m] w fun e w' => ∃ S', e = .returned (.int .i64 (p.evict step s m).1) ∧ PV W0 g n f d fr pg (.func (.func fn) #[] caps) FI (p.evict step s m).2.1 (p.evict step s m).2.2 S' w' ∧ Foot S S' w w' := by
  have hcall := find_pv hF h m
  have HC := Lib.hid hcall
  have HF := Lib.hid hF
  have H6 := Lib.hid h.ok
  clear hcall hF h
  cases hfl : findL p.F m with
  | none =>
    rw [hfl] at HC
    have HE : Hid (p.evict step s m = (0, p, s)) := Lib.hid (by unfold Pl.evict; rw [hfl])
    clear hfl
    simp only [atI] at HC
    go_enter Try.func10, Try.ntmps10
    go_wp2_with fail
    refine HC.out.mono ?_
    rintro e w2 ⟨rfl, hp, hb⟩
    have HP := Lib.hid hp
    have HB := Lib.hid hb
    clear hp hb
    go_wp2_with fail
    go_ret
    rw [HE.out]
    exact ⟨S, rfl, HP.out, Foot.same (B := fun _ => False) (grow_below HB.out) (fun _ h => h.elim)⟩
  | some i =>
    rw [hfl] at HC
    have hin : i < n := by have := findL_lt hfl; rw [H6.out.len] at this; exact this
    obtain ⟨c, hc⟩ : ∃ c, p.clean step s i = c := ⟨_, rfl⟩
    have HE : Hid (p.evict step s m = if c.1 = 0 then (0, { c.2.1 with F := c.2.1.F.set i Fm.free }, c.2.2) else c) := Lib.hid (by unfold Pl.evict; rw [hfl]; simp only [hc])
    have HCC := Lib.hid hc
    have hib : decide ((i : Int) < 0) = false := by simp
    clear hfl hc
    simp only [atI] at HC
    go_enter Try.func10, Try.ntmps10
    go_wp2_with fail
    refine HC.out.mono ?_
    rintro e w2 ⟨rfl, hp, hb⟩
    have hcl := clean_pv HF.out hp i hin hwr hs
    rw [HCC.out] at hcl
    have HCL := Lib.hid hcl
    have HB : Hid (Foot S S w w2) := Lib.hid (Foot.same (B := fun _ => False) (grow_below hb) (fun _ h => h.elim))
    obtain ⟨c1, c2, c3⟩ := c
    clear hp hb hcl
    by_cases hce : c1 = 0
    case neg =>
      have hq1 : (c1 != 0) = true := by simpa using hce
      go_wp2_with fail
      refine HCL.out.mono ?_
      rintro e w7 ⟨S', rfl, hpv, hft⟩
      have HP7 := Lib.hid hpv
      have HF7 := Lib.hid (HB.out.trans hft)
      clear hpv hft
      go_wp2_with fail
      go_ret
      rw [HE.out, if_neg hce]
      exact ⟨S', rfl, HP7.out, HF7.out⟩
    subst hce
    go_wp2_with fail
    refine HCL.out.mono ?_
    rintro e w7 ⟨S', rfl, hpv, hft⟩
    have HF7 := Lib.hid (HB.out.trans hft)
    obtain ⟨lb7, E7, K7, S17, S27, i1, i2, i3, i4, i5, i6, i7, i8, i9, rfl⟩ := hpv
    have hiE7 : i < E7.length := by have := i1.len; omega
    obtain ⟨e7, he7⟩ : ∃ e, E7[i]? = some e := ⟨_, List.getElem?_eq_getElem hiE7⟩
    have ge1 := i1.box.cell 1 _ rfl
    have gefz := i1.box.free
    have gelt := i1.box.lt
    have lefz := i1.fzl
    have lelt := i1.ll.2
    have hcell7 := i1.cell i e7 he7
    have x0 := hcell7 0 _ rfl
    have x1 := hcell7 1 _ rfl
    have x2 := hcell7 2 _ rfl
    have x3 := hcell7 3 _ rfl
    have x4 := hcell7 4 _ rfl
    have x5 := hcell7 5 _ rfl
    rw [Nat.add_zero] at x0
    have hn64 := i6.n64
    have I1 := Lib.hid i1
    have I2 := Lib.hid i2
    have I3 := Lib.hid i3
    have I4 := Lib.hid i4
    have I5 := Lib.hid i5
    have I6 := Lib.hid i6
    have I7 := Lib.hid i7
    have I8 := Lib.hid i8
    have I9 := Lib.hid i9
    have HE7 := Lib.hid he7
    clear hft hcell7 i1 i2 i3 i4 i5 i6 i7 i8 i9 he7
    go_wp2_with fail
    go_ret
    rw [HE.out, if_pos trivial]
    obtain ⟨b1, b2⟩ := I1.out.put6 i e7 HE7.out (-1) [] (.slice none 0 0) false false 0 0 SecAt.nil
    obtain ⟨z1, z2⟩ := PV.again HF.out I2.out I1.out.ll.1 (fun k hk => (I1.out.kin k hk).1) I3.out I4.out I7.out I8.out I9.out b1 (b2.mono (Y := own3 g lb7 K7) (fun k e => .inr (.inl e))) (fun k h => .inl h)
      ⟨by rw [List.length_map, List.length_set]; exact I1.out.len, I6.out.n1, I6.out.n64, I6.out.hand, by rw [map_set_fst, I5.out]; exact I6.out.set i _ ⟨fun h => absurd h (by decide), fun h => by cases h⟩, I6.out.wr⟩
    rw [map_set_fst, I5.out] at z1
    exact ⟨_, rfl, z1, HF7.out.trans z2⟩
end
end Go.Proofs.Ytdnjjdpenfhpeaa

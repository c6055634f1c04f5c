/- The pool: Get. Conditions: none. -/
import Derived.Test.YtdnjjdpenfhpeaaPlEvict
namespace Go.Proofs.Ytdnjjdpenfhpeaa
set_option linter.unusedSimpArgs false
set_option linter.unusedVariables false
open Go.RowKit

def Pl.got {St : Type} (m : Int) (b : List UInt8) (r : Int × Nat × Pl × St) : Int × List UInt8 × Pl × St :=
  if r.1 = 0 then (0, b, { r.2.2.1 with F := r.2.2.1.F.set r.2.1 ⟨m, b, false, true, 0, 0⟩ }, r.2.2.2) else (r.1, [], r.2.2.1, r.2.2.2)
def Pl.get {St : Type} (pg : Nat) (step : St → Int → Int × St) (p : Pl) (s : St) (m : Int) : Int × List UInt8 × Pl × St :=
  match findL p.F m with
  | some i => (0, (p.F.getD i Fm.free).b, { p with F := p.F.set i { p.F.getD i Fm.free with marked := true } }, s)
  | none => if 0 ≤ m ∧ m < (pg : Int) then Pl.got m (p.P m.toNat) (p.free step s) else (1, [], p, s)
theorem sweep_lt {n : Nat} (hn : 0 < n) : ∀ (m : Nat) (F : List Fm) (h : Nat), h < n → (sweep n m F h).2.2 < n
  | 0, F, h, hh => hh
  | m + 1, F, h, hh => by
    rw [sweep]
    split
    · exact sweep_lt hn m _ _ (Nat.mod_lt _ hn)
    · exact hh
theorem Pl.free_lt {St : Type} {step : St → Int → Int × St} {p : Pl} {s : St} {pg n : Nat} (h : p.ok pg n) : (p.free step s).2.1 < n := by
  unfold Pl.free
  cases hf : freeL p.F with
  | some i =>
    have := (List.findIdx?_eq_some_iff_getElem.1 hf).1
    rw [h.len] at this
    exact this
  | none =>
    have h1 := h.n1
    simp only [Pl.freed]
    split
    · have := sweep_lt (n := p.F.length) (by rw [h.len]; omega) (p.F.length + 1) p.F p.hand (by rw [h.len]; exact h.hand)
      rw [h.len] at this
      show (sweep p.F.length (p.F.length + 1) p.F p.hand).2.2 < n
      rw [h.len]
      exact this
    · show 0 < n
      omega
theorem isP_page {m : Int} {x : Fm} (h : isP m x = true) : x.page = m ∧ 0 ≤ m := by
  unfold isP at h
  split at h
  · next e => exact ⟨e, by simpa using h⟩
  · cases h
theorem findL_page {F : List Fm} {m : Int} {i : Nat} (h : findL F m = some i) {x : Fm} (hx : F[i]? = some x) : x.page = m ∧ 0 ≤ m := by
  obtain ⟨h1, h2, _⟩ := List.findIdx?_eq_some_iff_getElem.1 h
  rw [List.getElem?_eq_getElem h1] at hx
  exact isP_page (Option.some.inj hx ▸ h2)
section
variable {W0 : World} {g n f d fr pg : Nat} {St : Type} {FI : St → (Nat → Prop) → World → Prop} {p : Pl} {s : St} {S : Nat → Prop} {w : World} {fn : Nat} {caps : Array Value} {step : St → Int → Int × St} {okS : St → Prop}
def GetEnd (W0 w : World) (g n f d fr pg : Nat) {St : Type} (fv : Value) (FI : St → (Nat → Prop) → World → Prop) (S : Nat → Prop) (r : Int × List UInt8 × Pl × St) (e : Ending) (w' : World) : Prop :=
  ∃ v S', e = .returned (.tuple #[v, .int .i64 r.1]) ∧ (r.1 = 0 → w'.ownsRow w.heap.size 5 1 v 512 (r.2.1.map B) ∧ r.2.1.length = 512) ∧ (¬ r.1 = 0 → v = .slice none 0 0) ∧ (∀ k, v.ownBlock = some k → ¬ S' k) ∧ PV W0 g n f d fr pg fv FI r.2.2.1 r.2.2.2 S' w' ∧ Foot S S' w w'
set_option maxRecDepth 100000 in
set_option maxHeartbeats 3200000 in
theorem get_hit (hF : ForceOf W0 fn caps FI step okS) (h : PV W0 g n f d fr pg (.func (.func fn) #[] caps) FI p s S w) (m : Int) (i : Nat) (hfl : findL p.F m = some i) :
    Calls Try.prog 19 #[.pointer (some ⟨g, 0, none⟩), .int .i64 m] w (GetEnd W0 w g n f d fr pg (.func (.func fn) #[] caps) FI S (p.get pg step s m)) := by
  have hcall := find_pv hF h m
  rw [hfl] at hcall
  have HC := Lib.hid hcall
  have HF := Lib.hid hF
  have H6 := Lib.hid h.ok
  have hin : i < n := by have := findL_lt hfl; rw [H6.out.len] at this; exact this
  have HGE : Hid (p.get pg step s m = (0, (p.F.getD i Fm.free).b, { p with F := p.F.set i { p.F.getD i Fm.free with marked := true } }, s)) := Lib.hid (by unfold Pl.get; rw [hfl])
  have HFL := Lib.hid hfl
  have hn64 := H6.out.n64
  clear hcall hF h hfl
  simp only [atI] at HC
  have hib : decide ((i : Int) < 0) = false := by simp
  go_enter Try.func19, Try.ntmps19
  go_wp2_with fail
  refine HC.out.mono ?_
  rintro e y ⟨rfl, hpv, hbl⟩
  have HBL := Lib.hid hbl
  obtain ⟨lb, E, K, S1, S2, i1, i2, i3, i4, i5, i6, i7, i8, i9, rfl⟩ := hpv
  have hiE : i < E.length := by have := i1.len; omega
  obtain ⟨e0, he0⟩ : ∃ e, E[i]? = some e := ⟨_, List.getElem?_eq_getElem hiE⟩
  have hxF : p.F[i]? = some e0.1 := by rw [← i5, List.getElem?_map, he0]; rfl
  have hpg := findL_page HFL.out hxF
  have hxo := i6.fr _ (List.mem_of_getElem? hxF)
  obtain ⟨⟨pgx, bx, di, ma, rc, ls⟩, vb⟩ := e0
  simp only at hpg hxo hxF
  have hbx : bx.length = 512 := (hxo.1 (by show (0 : Int) ≤ pgx; rw [hpg.1]; exact hpg.2)).2
  have HXD : Hid (p.F.getD i Fm.free = ⟨pgx, bx, di, ma, rc, ls⟩) := Lib.hid (by rw [List.getD_eq_getElem?_getD, hxF]; rfl)
  have I1 := Lib.hid i1
  have I2 := Lib.hid i2
  have I3 := Lib.hid i3
  have I4 := Lib.hid i4
  have I5 := Lib.hid i5
  have I6 := Lib.hid i6
  have I7 := Lib.hid i7
  have I8 := Lib.hid i8
  have I9 := Lib.hid i9
  have HE := Lib.hid he0
  have HB := Lib.hid hbx
  have HXO := Lib.hid hxo
  clear hbl i1 i2 i3 i4 i5 i6 i7 i8 i9 he0 hxF hpg hxo hbx
  have ge1 := I1.out.box.cell 1 _ rfl
  have gefz := I1.out.box.free
  have gelt := I1.out.box.lt
  have lefz := I1.out.fzl
  have lelt := I1.out.ll.2
  have hgl := I1.out.gl
  have x1 := I1.out.cell i _ HE.out 1 _ rfl
  have x3 := I1.out.cell i _ HE.out 3 _ rfl
  simp only at x1 x3
  have htx := I1.out.txt _ (List.mem_of_getElem? HE.out)
  obtain ⟨av, cv, evb, _, hvc, hvr⟩ := htx.1
  simp only at evb hvc hvr
  obtain ⟨bq, oq, rfl, hbq, hvcell⟩ := hvr (by rw [HB.out]; omega)
  rw [HB.out] at evb
  subst evb
  obtain ⟨b1, b2⟩ := I1.out.setF i _ (⟨pgx, bx, di, true, rc, ls⟩, .slice (some ⟨bq, oq, none⟩) 512 cv) HE.out 3 (by omega) (.bool true) rfl htx
  obtain ⟨a2v, c2v, e2v, _, hvc2, hvr2⟩ := (b1.txt (⟨pgx, bx, di, true, rc, ls⟩, .slice (some ⟨bq, oq, none⟩) 512 cv) (List.mem_of_getElem? (List.getElem?_set_self (List.getElem?_eq_some_iff.1 HE.out).1))).1
  simp only at e2v hvr2
  obtain ⟨bq2, oq2, rfl, _, hcell2⟩ := hvr2 (by rw [HB.out]; omega)
  injection e2v with e3 e4 e5
  injection e3 with e3
  injection e3 with e3 e3b
  subst e3 e3b
  have HV2 := Lib.hid hcell2
  have HB1 := Lib.hid b1
  have HB2 := Lib.hid b2
  have hszy : (y.setCell ⟨lb, i * 6 + 3, none⟩ (.bool true)).heap.size = y.heap.size := by simp [World.setCell]
  have HSZ := Lib.hid hszy
  clear htx hvr hvcell b1 b2 hvr2 hcell2 e4 e5 hvc2 hszy
  go_wp2_with (at_builtin; refine wpList_append_k bytesOf (.const (.slice none 0 0)) (.tmp 57) rfl rfl (base := (y.setCell ⟨lb, i * 6 + 3, none⟩ (.bool true)).heap.size) rfl (World.ownsRow_nil _ _ _ _) (m := 512) (c := cv) rfl (by rw [List.length_map, HB.out]) (news := bx.map B) (by intro j u hu; rw [Addr.add_lit]; exact HV2.out j u hu) (Bs_one _) (by omega) (by omega) (by omega) (by omega) ?_; intro ob cp wq hownq hgrq horq)
  have hgx : GrowX (fun _ => False) (y.setCell ⟨lb, i * 6 + 3, none⟩ (.bool true)) wq := GrowX.of_growC hgrq (fun k o h => by cases h.1)
  have HGX := Lib.hid hgx
  have HOW := Lib.hid hownq
  clear hownq hgrq horq hgx
  go_wp2_with fail
  go_ret2
  have hrow : wq.ownsRow (y.setCell ⟨lb, i * 6 + 3, none⟩ (.bool true)).heap.size 5 1 (.slice (some ⟨ob, 0, none⟩) 512 cp) 512 (bx.map B) := by have := HOW.out; simpa using this
  have hB1 := HB1.out.grow HGX.out (fun h => h) (fun h => h) (fun _ _ h => h)
  have hG1 : GrowX (own3 g lb K) y wq := (HB2.out.mono (Y := own3 g lb K) (fun k e => .inr (.inl e))).step HGX.out (fun _ _ h => h.elim)
  have hob : y.heap.size ≤ ob := by have := (hrow.lt ob rfl).1; have := HSZ.out; omega
  rw [HGE.out, HXD.out]
  obtain ⟨z1, z2⟩ := PV.again HF.out I2.out I1.out.ll.1 (fun k hk => (I1.out.kin k hk).1) I3.out I4.out I7.out I8.out I9.out hB1 hG1 (fun k h => .inl h)
    ⟨by rw [List.length_map, List.length_set]; exact I1.out.len, I6.out.n1, I6.out.n64, I6.out.hand, by rw [map_set_fst, I5.out]; exact I6.out.set i _ HXO.out, I6.out.wr⟩
  rw [map_set_fst, I5.out] at z1
  refine ⟨_, _, rfl, fun _ => ⟨own_base hrow (by have := HBL.out.size; have := HSZ.out; omega), HB.out⟩, fun h => absurd rfl h, ?_, z1, (Foot.same (B := fun _ => False) (grow_below HBL.out) (fun _ h => h.elim)).trans z2⟩
  intro k e hk
  have e2 : ob = k := by simpa [Value.ownBlock] using e
  subst e2
  rcases hk with (rfl | rfl | hk) | hk | hk
  · have := I1.out.box.lt; omega
  · have := I1.out.ll.2; omega
  · have := (I1.out.kin ob hk).2; omega
  · have := (I3.out.lt ob hk).2; omega
  · have := (HF.out.lt _ _ _ I4.out ob hk).2; omega
/-- a pool told anew, with contents of its own that are new -/
theorem PV.again2 {fv : Value} {lb : Nat} {E' : List Fe} {K K' S1 S2 : Nat → Prop} {w' : World} {hand' wr' : Nat} (hF : ForceOf W0 fn caps FI step okS) (h2 : W0.heap.size ≤ g) (hl : W0.heap.size ≤ lb) (hk : ∀ k, K' k → W0.heap.size ≤ k) (h3 : FV W0 f d fr pg p.P S1 w) (h4 : FI s S2 w)
    (h7 : Disj (own3 g lb K) S1) (h8 : Disj (own3 g lb K) S2) (h9 : Disj S1 S2) (hat : PoolAt w' W0.heap.size g lb n f fv E' hand' wr' K') (hgg : GrowX (own3 g lb K') w w') (hK : ∀ k, K' k → K k ∨ (¬ S1 k ∧ ¬ S2 k))
    (hok : (Pl.mk (E'.map (·.1)) hand' wr' p.P).ok pg n) :
    PV W0 g n f d fr pg fv FI ⟨E'.map (·.1), hand', wr', p.P⟩ s (fun k => own3 g lb K' k ∨ S1 k ∨ S2 k) w' := by
  have hbz := h3.bel.trans (hgg.below (fun k hk' => ⟨Nat.lt_of_lt_of_le hk' h3.bel.size, fun e => e.elim (fun e => by omega) (fun e => e.elim (fun e => by omega) (fun e => by have := hk k e; omega))⟩))
  have d1 : Disj (own3 g lb K') S1 := by
    rintro k (h | h | h) hs
    · exact h7 k (.inl h) hs
    · exact h7 k (.inr (.inl h)) hs
    · exact (hK k h).elim (fun h => h7 k (.inr (.inr h)) hs) (fun h => h.1 hs)
  have d2 : Disj (own3 g lb K') S2 := by
    rintro k (h | h | h) hs
    · exact h8 k (.inl h) hs
    · exact h8 k (.inr (.inl h)) hs
    · exact (hK k h).elim (fun h => h8 k (.inr (.inr h)) hs) (fun h => h.2 hs)
  exact ⟨lb, E', K', S1, S2, hat, h2, h3.grow hgg d1.symm hbz, hF.grow _ _ _ _ _ h4 hgg d2.symm hbz, rfl, hok, d1, d2, h9, rfl⟩
/-- a page that is not there -/
theorem get_bad (hF : ForceOf W0 fn caps FI step okS) (h : PV W0 g n f d fr pg (.func (.func fn) #[] caps) FI p s S w) (m : Int) (hm : ¬ (0 ≤ m ∧ m < (pg : Int))) (hfl : findL p.F m = none) :
    Calls Try.prog 19 #[.pointer (some ⟨g, 0, none⟩), .int .i64 m] w (GetEnd W0 w g n f d fr pg (.func (.func fn) #[] caps) FI S (p.get pg step s m)) := by
  have hcall := find_pv hF h m
  rw [hfl] at hcall
  have HC := Lib.hid hcall
  have HF := Lib.hid hF
  have HGE : Hid (p.get pg step s m = (1, [], p, s)) := Lib.hid (by unfold Pl.get; rw [hfl]; simp only []; rw [if_neg hm])
  have HM : Hid (m < 0 ∨ (pg : Int) ≤ m) := Lib.hid (by omega)
  clear hcall hF h hfl hm
  simp only [atI] at HC
  go_enter Try.func19, Try.ntmps19
  go_wp2_with fail
  refine HC.out.mono ?_
  rintro e y ⟨rfl, hpv, hbl⟩
  have HBL := Lib.hid hbl
  have HPV := Lib.hid hpv
  obtain ⟨lb, E, K, S1, S2, i1, i2, i3, i4, i5, i6, i7, i8, i9, rfl⟩ := hpv
  have ge0 := i1.box.cell 0 _ rfl
  have gelt := i1.box.lt
  have I3 := Lib.hid i3
  clear hbl i1 i2 i3 i4 i5 i6 i7 i8 i9
  go_wp2_with fail
  refine (fread_bad I3.out m HM.out).mono ?_
  rintro e y2 ⟨rfl, rfl⟩
  go_wp2_with fail
  go_ret2
  rw [HGE.out]
  exact ⟨.slice none 0 0, _, rfl, fun h => absurd h (by show ¬ (1 : Int) = 0; decide), fun _ => rfl, fun k e => (by cases e), HPV.out, Foot.same (B := fun _ => False) (grow_below HBL.out) (fun _ h => h.elim)⟩
set_option maxRecDepth 100000 in
set_option maxHeartbeats 3200000 in
/-- a page that is read in -/
theorem get_new (hF : ForceOf W0 fn caps FI step okS) (h : PV W0 g n f d fr pg (.func (.func fn) #[] caps) FI p s S w) (q : Nat) (hq : q < pg) (hfl : findL p.F (q : Nat) = none) (hwr : p.wr + 1 ≤ 1000000000) (hs : okS s) :
    Calls Try.prog 19 #[.pointer (some ⟨g, 0, none⟩), .int .i64 (q : Nat)] w (GetEnd W0 w g n f d fr pg (.func (.func fn) #[] caps) FI S (p.get pg step s (q : Nat))) := by
  have hcall := find_pv hF h (q : Nat)
  rw [hfl] at hcall
  have HC := Lib.hid hcall
  have HF := Lib.hid hF
  obtain ⟨r, hr⟩ : ∃ r, p.free step s = r := ⟨_, rfl⟩
  have HRT : Hid (r.2.1 < n) := Lib.hid (by rw [← hr]; exact Pl.free_lt h.ok)
  have HGE : Hid (p.get pg step s (q : Nat) = Pl.got (q : Nat) (p.P q) r) := Lib.hid (by unfold Pl.get; rw [hfl]; simp only []; rw [if_pos ⟨by omega, by omega⟩, hr, Int.toNat_natCast])
  have HR := Lib.hid hr
  have HQ := Lib.hid hq
  clear hcall hF h hfl hr hq
  simp only [atI] at HC
  go_enter Try.func19, Try.ntmps19
  go_wp2_with fail
  refine HC.out.mono ?_
  rintro e y ⟨rfl, hpv, hbl⟩
  have HBL := Lib.hid hbl
  have HLTS := Lib.hid (hpv.lt HF.out)
  obtain ⟨lb, E, K, S1, S2, i1, i2, i3, i4, i5, i6, i7, i8, i9, rfl⟩ := hpv
  have ge0 := i1.box.cell 0 _ rfl
  have gelt := i1.box.lt
  have I1 := Lib.hid i1
  have I2 := Lib.hid i2
  have I3 := Lib.hid i3
  have I4 := Lib.hid i4
  have I5 := Lib.hid i5
  have I6 := Lib.hid i6
  have I7 := Lib.hid i7
  have I8 := Lib.hid i8
  have I9 := Lib.hid i9
  clear hbl i1 i2 i3 i4 i5 i6 i7 i8 i9
  go_wp2_with fail
  refine (fread_fv I3.out q HQ.out).mono ?_
  rintro e y2 ⟨vb, rfl, hrow, hfv, hgr⟩
  obtain ⟨avb, cvb, evb⟩ := own_shape hrow
  subst evb
  have HPL : Hid ((p.P q).length = 512) := Lib.hid (I3.out.len HQ.out)
  have HPV2 : Hid (PV W0 g n f d fr pg (.func (.func fn) #[] caps) FI p s (fun k => own3 g lb K k ∨ S1 k ∨ S2 k) y2) := Lib.hid
    ⟨lb, E, K, S1, S2, I1.out.grow hgr (fun hs => I7.out g (.inl rfl) hs) (fun hs => I7.out lb (.inr (.inl rfl)) hs) (fun k hk hs => I7.out k (.inr (.inr hk)) hs), I2.out, hfv, HF.out.grow _ _ _ _ _ I4.out hgr I9.out.symm hfv.bel, I5.out, I6.out, I7.out, I8.out, I9.out, rfl⟩
  have HFT2 : Hid (Foot (fun k => own3 g lb K k ∨ S1 k ∨ S2 k) (fun k => own3 g lb K k ∨ S1 k ∨ S2 k) w y2) := Lib.hid ((Foot.same (B := fun _ => False) (grow_below HBL.out) (fun _ h => h.elim)).trans (Foot.same hgr (fun k hk => .inr (.inl hk))))
  have HROW := Lib.hid hrow
  have hfree := free_pv HF.out HPV2.out hwr hs
  rw [HR.out] at hfree
  have HFREE := Lib.hid hfree
  obtain ⟨re, i, p3, s3⟩ := r
  have hin : i < n := HRT.out
  clear ge0 gelt hrow hfv hgr hfree
  by_cases hre : re = 0
  case neg =>
    have hq1 : (re != 0) = true := by simpa using hre
    go_wp2_with fail
    refine HFREE.out.mono ?_
    rintro e y3 ⟨S3, rfl, hpv3, hft3⟩
    have HPV3 := Lib.hid hpv3
    have HFT3 := Lib.hid (HFT2.out.trans hft3)
    clear hpv3 hft3
    go_wp2_with fail
    go_ret2
    rw [HGE.out, Pl.got, if_neg hre]
    exact ⟨.slice none 0 0, _, rfl, fun h => absurd h hre, fun _ => rfl, fun k e => (by cases e), HPV3.out, HFT3.out⟩
  subst hre
  go_wp2_with fail
  refine HFREE.out.mono ?_
  rintro e y3 ⟨S3, rfl, hpv3, hft3⟩
  have HFT3 := Lib.hid (HFT2.out.trans hft3)
  have hblk : ∀ k, (Value.slice avb 512 cvb).ownBlock = some k → y.heap.size ≤ k ∧ k < y2.heap.size := fun k e => HROW.out.lt k e
  have hnS : ∀ k, (Value.slice avb 512 cvb).ownBlock = some k → ¬ S3 k := fun k e hs => (hft3.new k hs).elim (fun hs => by have := (HLTS.out k hs).2; have := (hblk k e).1; omega) (fun h => by have := (hblk k e).2; omega)
  have hrow3 : y3.ownsRow y.heap.size 5 1 (.slice avb 512 cvb) 512 ((p.P q).map B) := own_growx HROW.out hft3.grow (fun k e hs => by have := (HLTS.out k hs).2; have := (hblk k e).1; omega)
  have hsz23 := hft3.grow.size
  obtain ⟨lb3, E3, K3, S13, S23, j1, j2, j3, j4, j5, j6, j7, j8, j9, rfl⟩ := hpv3
  have hiE : i < E3.length := by have := j1.len; omega
  obtain ⟨e0, he0⟩ : ∃ e, E3[i]? = some e := ⟨_, List.getElem?_eq_getElem hiE⟩
  have hys : W0.heap.size ≤ y.heap.size := I3.out.bel.size
  have jk : PoolAt y3 W0.heap.size g lb3 n f (.func (.func fn) #[] caps) E3 p3.hand p3.wr (fun k => K3 k ∨ (Value.slice avb 512 cvb).ownBlock = some k) := j1.addK _ (fun k h => .inl h) (fun k h => h.imp id (fun e => ⟨by have := (hblk k e).1; omega, by have := (hblk k e).2; omega, fun e2 => hnS k e (.inl (.inl e2)), fun e2 => hnS k e (.inl (.inr (.inl e2)))⟩))
  have hsec : SecAt y3 (fun k => K3 k ∨ (Value.slice avb 512 cvb).ownBlock = some k) (p.P q) (.slice avb 512 cvb) := ⟨by rw [HPL.out]; exact Reads.of_own hrow3, fun k e => .inr e⟩
  have hcell7 := j1.cell i e0 he0
  have x0 := hcell7 0 _ rfl
  have x1 := hcell7 1 _ rfl
  have x2 := hcell7 2 _ rfl
  have x3 := hcell7 3 _ rfl
  have x4 := hcell7 4 _ rfl
  have x5 := hcell7 5 _ rfl
  rw [Nat.add_zero] at x0
  obtain ⟨b1, b2⟩ := jk.put6 i e0 he0 (q : Nat) (p.P q) (.slice avb 512 cvb) false false 0 0 hsec
  have ge1 := j1.box.cell 1 _ rfl
  have gefz := j1.box.free
  have gelt := j1.box.lt
  have lefz := j1.fzl
  have lelt := j1.ll.2
  have hgl := j1.gl
  have hn64 := j6.n64
  have J1 := Lib.hid j1
  have J2 := Lib.hid j2
  have J3 := Lib.hid j3
  have J4 := Lib.hid j4
  have J5 := Lib.hid j5
  have J6 := Lib.hid j6
  have J7 := Lib.hid j7
  have J8 := Lib.hid j8
  have J9 := Lib.hid j9
  have HB1' := Lib.hid b1
  have HB2' := Lib.hid b2
  have HNS := Lib.hid hnS
  have HBK := Lib.hid hblk
  clear hft3 hcell7 j1 j2 j3 j4 j5 j6 j7 j8 j9 b1 b2 jk hsec hrow3 hnS hblk he0
  go_upto_region 10 with (fail)
  have hE4i : (E3.set i (⟨(q : Nat), p.P q, false, false, 0, 0⟩, .slice avb 512 cvb))[i]? = some (⟨(q : Nat), p.P q, false, false, 0, 0⟩, .slice avb 512 cvb) := List.getElem?_set_self hiE
  have hE4m : (E3.set i (⟨(q : Nat), p.P q, false, false, 0, 0⟩, .slice avb 512 cvb)).map (·.1) = p3.F.set i ⟨(q : Nat), p.P q, false, false, 0, 0⟩ := by rw [map_set_fst, J5.out]
  obtain ⟨K4, hK4⟩ : ∃ K4 : Nat → Prop, (fun k => K3 k ∨ (Value.slice avb 512 cvb).ownBlock = some k) = K4 := ⟨_, rfl⟩
  have HK4 : Hid (∀ k, K4 k → K3 k ∨ (Value.slice avb 512 cvb).ownBlock = some k) := Lib.hid (by rw [← hK4]; exact fun k h => h)
  have HB := HPL
  obtain ⟨qv, hqv⟩ : ∃ x : Int, ((q : Nat) : Int) = x := ⟨_, rfl⟩
  have HQV := Lib.hid hqv
  obtain ⟨bx, hbx⟩ : ∃ x, p.P q = x := ⟨_, rfl⟩
  have HBX := Lib.hid hbx
  rw [hqv, hbx] at HB1' hE4i hE4m
  rw [hbx] at HB
  rw [hqv] at HB2' ⊢
  generalize E3.set i (⟨qv, bx, false, false, 0, 0⟩, .slice avb 512 cvb) = E at HB1' hE4i hE4m
  rw [hK4] at HB1'
  generalize (((((y3.setCell ⟨lb3, i * 6, none⟩ (.int .i64 qv)).setCell ⟨lb3, i * 6 + 1, none⟩ (.slice avb 512 cvb)).setCell ⟨lb3, i * 6 + 2, none⟩ (.bool false)).setCell ⟨lb3, i * 6 + 3, none⟩ (.bool false)).setCell ⟨lb3, i * 6 + 4, none⟩ (.int .i64 0)).setCell ⟨lb3, i * 6 + 5, none⟩ (.int .i64 0) = y4 at HB1' HB2' ⊢
  have HE := Lib.hid hE4i
  have HEM := Lib.hid hE4m
  clear ge1 gefz gelt lefz lelt hgl x0 x1 x2 x3 x4 x5 hE4i hE4m hK4 hqv hbx
  have ge1 := HB1'.out.box.cell 1 _ rfl
  have gefz := HB1'.out.box.free
  have gelt := HB1'.out.box.lt
  have lefz := HB1'.out.fzl
  have lelt := HB1'.out.ll.2
  have hgl := HB1'.out.gl
  have x1 := HB1'.out.cell i _ HE.out 1 _ rfl
  have x3 := HB1'.out.cell i _ HE.out 3 _ rfl
  simp only at x1 x3
  have htx := HB1'.out.txt _ (List.mem_of_getElem? HE.out)
  obtain ⟨av, cv, evb, _, hvc, hvr⟩ := htx.1
  simp only at evb hvc hvr
  obtain ⟨bq, oq, rfl, hbq, hvcell⟩ := hvr (by rw [HB.out]; omega)
  rw [HB.out] at evb
  injection evb with e91 e92 e93
  subst e91
  have e94 := e93.symm
  subst e94
  clear e92
  obtain ⟨b1, b2⟩ := HB1'.out.setF i _ (⟨qv, bx, false, true, 0, 0⟩, .slice (some ⟨bq, oq, none⟩) 512 cv) HE.out 3 (by omega) (.bool true) rfl htx
  obtain ⟨a2v, c2v, e2v, _, hvc2, hvr2⟩ := (b1.txt (⟨qv, bx, false, true, 0, 0⟩, .slice (some ⟨bq, oq, none⟩) 512 cv) (List.mem_of_getElem? (List.getElem?_set_self (List.getElem?_eq_some_iff.1 HE.out).1))).1
  simp only at e2v hvr2
  obtain ⟨bq2, oq2, rfl, _, hcell2⟩ := hvr2 (by rw [HB.out]; omega)
  injection e2v with e3 e4 e5
  injection e3 with e3
  injection e3 with e3 e3b
  subst e3 e3b
  have HV2 := Lib.hid hcell2
  have HB1 := Lib.hid b1
  have HB2 := Lib.hid b2
  have hszy : (y4.setCell ⟨lb3, i * 6 + 3, none⟩ (.bool true)).heap.size = y4.heap.size := by simp [World.setCell]
  have HSZ := Lib.hid hszy
  clear htx hvr hvcell b1 b2 hvr2 hcell2 e4 e5 hvc2 hszy
  go_wp2_with (at_builtin; refine wpList_append_k bytesOf (.const (.slice none 0 0)) (.tmp 57) rfl rfl (base := (y4.setCell ⟨lb3, i * 6 + 3, none⟩ (.bool true)).heap.size) rfl (World.ownsRow_nil _ _ _ _) (m := 512) (c := cv) rfl (by rw [List.length_map, HB.out]) (news := bx.map B) (by intro j u hu; rw [Addr.add_lit]; exact HV2.out j u hu) (Bs_one _) (by omega) (by omega) (by omega) (by omega) ?_; intro ob cp wq hownq hgrq horq)
  have hgx : GrowX (fun _ => False) (y4.setCell ⟨lb3, i * 6 + 3, none⟩ (.bool true)) wq := GrowX.of_growC hgrq (fun k o h => by cases h.1)
  have HGX := Lib.hid hgx
  have HOW := Lib.hid hownq
  clear hownq hgrq horq hgx
  go_wp2_with fail
  go_ret2
  have hrow : wq.ownsRow (y4.setCell ⟨lb3, i * 6 + 3, none⟩ (.bool true)).heap.size 5 1 (.slice (some ⟨ob, 0, none⟩) 512 cp) 512 (bx.map B) := by have := HOW.out; simpa using this
  have hB1 := HB1.out.grow HGX.out (fun h => h) (fun h => h) (fun _ _ h => h)
  have hG1 : GrowX (own3 g lb3 K4) y4 wq := (HB2.out.mono (Y := own3 g lb3 K4) (fun k e => .inr (.inl e))).step HGX.out (fun _ _ h => h.elim)
  have hob : y4.heap.size ≤ ob := by have := (hrow.lt ob rfl).1; have := HSZ.out; omega
  rw [HGE.out, Pl.got, if_pos rfl, HBX.out, HQV.out]
  have hG2 : GrowX (own3 g lb3 K4) y3 wq := (HB2'.out.mono (Y := own3 g lb3 K4) (fun k e => .inr (.inl e))).trans hG1
  have hys : W0.heap.size ≤ y.heap.size := I3.out.bel.size
  have hK4G : ∀ k, K4 k → W0.heap.size ≤ k := fun k h => (HK4.out k h).elim (fun h => (J1.out.kin k h).1) (fun e => by have := (HBK.out k e).1; omega)
  have hok : (Pl.mk ((E.set i (⟨qv, bx, false, true, 0, 0⟩, .slice (some ⟨bq, oq, none⟩) 512 cv)).map (·.1)) p3.hand p3.wr p3.P).ok pg n := by
    refine ⟨by rw [List.length_map, List.length_set]; exact HB1'.out.len, J6.out.n1, J6.out.n64, J6.out.hand, ?_, J6.out.wr⟩
    rw [map_set_fst, HEM.out, List.set_set]
    exact J6.out.set i _ ⟨fun _ => ⟨by show qv < (pg : Int); rw [← HQV.out]; have := HQ.out; omega, HB.out⟩, fun h => by cases h⟩
  have z1 := PV.again2 HF.out J2.out J1.out.ll.1 hK4G J3.out J4.out J7.out J8.out J9.out hB1 hG2 (fun k h => (HK4.out k h).imp id (fun e => ⟨fun h2 => HNS.out k e (.inr (.inl h2)), fun h2 => HNS.out k e (.inr (.inr h2))⟩)) hok
  rw [map_set_fst, HEM.out, List.set_set] at z1
  have hw34 := HB2'.out.size
  have hwy : w.heap.size ≤ y.heap.size := HBL.out.size
  have hwy3 : w.heap.size ≤ y3.heap.size := HFT3.out.grow.size
  refine ⟨_, _, rfl, fun _ => ⟨own_base hrow (by have := HSZ.out; omega), HB.out⟩, fun h => absurd rfl h, ?_, z1, ?_⟩
  · intro k e hk
    have e2 : ob = k := by simpa [Value.ownBlock] using e
    subst e2
    rcases hk with (rfl | rfl | hk) | hk | hk
    · have := J1.out.box.lt; omega
    · have := J1.out.ll.2; omega
    · have := (HB1'.out.kin ob hk).2; omega
    · have := (J3.out.lt ob hk).2; omega
    · have := (HF.out.lt _ _ _ J4.out ob hk).2; omega
  · have hnew : ∀ k, own3 g lb3 K4 k → (own3 g lb3 K3 k ∨ S13 k ∨ S23 k) ∨ w.heap.size ≤ k := fun k h => h.elim (fun h => .inl (.inl (.inl h))) (fun h => h.elim (fun h => .inl (.inl (.inr (.inl h)))) (fun h => (HK4.out k h).elim (fun h => .inl (.inl (.inr (.inr h)))) (fun e => .inr (by have := (HBK.out k e).1; omega))))
    refine ⟨HFT3.out.grow.step hG2 (fun k hkw hk => (hnew k hk).elim (fun h => (HFT3.out.new k h).elim (fun h => h) (fun h => by omega)) (fun h => by omega)), ?_⟩
    rintro k (hk | hk)
    · exact (hnew k hk).elim (HFT3.out.new k) .inr
    · exact HFT3.out.new k (.inr hk)
theorem get_pv (hF : ForceOf W0 fn caps FI step okS) (h : PV W0 g n f d fr pg (.func (.func fn) #[] caps) FI p s S w) (m : Int) (hwr : p.wr + 1 ≤ 1000000000) (hs : okS s) :
    Calls Try.prog 19 #[.pointer (some ⟨g, 0, none⟩), .int .i64 m] w (GetEnd W0 w g n f d fr pg (.func (.func fn) #[] caps) FI S (p.get pg step s m)) := by
  cases hfl : findL p.F m with
  | some i => exact get_hit hF h m i hfl
  | none =>
    by_cases hm : 0 ≤ m ∧ m < (pg : Int)
    · obtain ⟨q, rfl⟩ := Int.eq_ofNat_of_zero_le hm.1
      exact get_new hF h q (by omega) hfl hwr hs
    · exact get_bad hF h m hm hfl
end
end Go.Proofs.Ytdnjjdpenfhpeaa

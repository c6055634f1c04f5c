/- The pool: Put. Conditions: the bytes that are put are not the pool's own. -/
import Derived.Test.YtdnjjdpenfhpeaaPlGet
namespace Go.Proofs.Ytdnjjdpenfhpeaa
set_option linter.unusedSimpArgs false
set_option linter.unusedVariables false
open Go.RowKit

theorem Foot.fin {S S3 T A : Nat → Prop} {w y w' : World} (h : Foot S S3 w y) (hg : GrowX A y w') (hA : ∀ k, A k → S3 k ∨ w.heap.size ≤ k) (hT : ∀ k, T k → S3 k ∨ w.heap.size ≤ k) : Foot S T w w' :=
  ⟨h.grow.step hg (fun k hkw hk => (hA k hk).elim (fun h1 => (h.new k h1).elim (fun h => h) (fun h => by omega)) (fun h => by omega)), fun k hk => (hT k hk).elim (h.new k) .inr⟩
theorem PoolAt.put5 {w : World} {G g lb n f : Nat} {fv : Value} {E : List Fe} {hand wr : Nat} {K : Nat → Prop} (h : PoolAt w G g lb n f fv E hand wr K) (i : Nat) (e : Fe) (he : E[i]? = some e) (pa : Int) (b' : List UInt8) (v' : Value) (di ma : Bool) (ls : Int) (ht : SecAt w K b' v') :
    PoolAt (((((w.setCell ⟨lb, i * 6, none⟩ (.int .i64 pa)).setCell ⟨lb, i * 6 + 1, none⟩ v').setCell ⟨lb, i * 6 + 5, none⟩ (.int .i64 ls)).setCell ⟨lb, i * 6 + 2, none⟩ (.bool di)).setCell ⟨lb, i * 6 + 3, none⟩ (.bool ma)) G g lb n f fv (E.set i (⟨pa, b', di, ma, e.1.rc, ls⟩, v')) hand wr K ∧
    GrowX (fun k => k = lb) w (((((w.setCell ⟨lb, i * 6, none⟩ (.int .i64 pa)).setCell ⟨lb, i * 6 + 1, none⟩ v').setCell ⟨lb, i * 6 + 5, none⟩ (.int .i64 ls)).setCell ⟨lb, i * 6 + 2, none⟩ (.bool di)).setCell ⟨lb, i * 6 + 3, none⟩ (.bool ma)) := by
  obtain ⟨⟨p0, b0, d0, m0, r0, l0⟩, v0⟩ := e
  have hi := (List.getElem?_eq_some_iff.1 he).1
  have hs : ∀ (y : Fe), (E.set i y)[i]? = some y := fun y => by rw [List.getElem?_set_self hi]
  have hK : ∀ k, K k → k ≠ lb := fun k hk e => h.kl (e ▸ hk)
  obtain ⟨a1, g1⟩ := h.setF i _ (⟨pa, b0, d0, m0, r0, l0⟩, v0) he 0 (by omega) (.int .i64 pa) rfl (h.txt (⟨p0, b0, d0, m0, r0, l0⟩, v0) (List.mem_of_getElem? he))
  rw [Nat.add_zero] at a1 g1
  obtain ⟨a2, g2⟩ := a1.setF i _ (⟨pa, b', d0, m0, r0, l0⟩, v') (hs _) 1 (by omega) v' rfl (ht.grow g1 hK)
  rw [List.set_set] at a2
  obtain ⟨a3, g3⟩ := a2.setF i _ (⟨pa, b', d0, m0, r0, ls⟩, v') (hs _) 5 (by omega) (.int .i64 ls) rfl (a2.txt (⟨pa, b', d0, m0, r0, l0⟩, v') (List.mem_of_getElem? (hs _)))
  rw [List.set_set] at a3
  obtain ⟨a4, g4⟩ := a3.setF i _ (⟨pa, b', di, m0, r0, ls⟩, v') (hs _) 2 (by omega) (.bool di) rfl (a3.txt (⟨pa, b', d0, m0, r0, ls⟩, v') (List.mem_of_getElem? (hs _)))
  rw [List.set_set] at a4
  obtain ⟨a5, g5⟩ := a4.setF i _ (⟨pa, b', di, ma, r0, ls⟩, v') (hs _) 3 (by omega) (.bool ma) rfl (a4.txt (⟨pa, b', di, m0, r0, ls⟩, v') (List.mem_of_getElem? (hs _)))
  rw [List.set_set] at a5
  exact ⟨a5, g1.trans (g2.trans (g3.trans (g4.trans g5)))⟩
def Pl.putAt (q : Pl) (i : Nat) (m : Int) (b : List UInt8) (l : Int) : Pl :=
  { q with F := q.F.set i ⟨m, b, true, true, if (q.F.getD i Fm.free).page = m ∧ (q.F.getD i Fm.free).dirty = true then (q.F.getD i Fm.free).rc else l, l⟩ }
def Pl.put {St : Type} (pg : Nat) (step : St → Int → Int × St) (p : Pl) (s : St) (m : Int) (b : List UInt8) (l : Int) : Int × Pl × St :=
  if 0 ≤ m ∧ m < (pg : Int) ∧ b.length = 512 ∧ 1 ≤ l then
    match findL p.F m with
    | some i => (0, p.putAt i m b l, s)
    | none => if (p.free step s).1 = 0 then (0, (p.free step s).2.2.1.putAt (p.free step s).2.1 m b l, (p.free step s).2.2.2) else ((p.free step s).1, (p.free step s).2.2.1, (p.free step s).2.2.2)
  else (1, p, s)
section
variable {W0 : World} {g n f d fr pg : Nat} {St : Type} {FI : St → (Nat → Prop) → World → Prop} {p : Pl} {s : St} {S : Nat → Prop} {w : World} {fn : Nat} {caps : Array Value} {step : St → Int → Int × St} {okS : St → Prop}
theorem PV.fbox {fv : Value} (h : PV W0 g n f d fr pg fv FI p s S w) : w.cell? ⟨g, 0, none⟩ = some (.pointer (some ⟨f, 0, none⟩)) ∧ g < w.heap.size ∧ FileBox w f d fr pg false := by
  obtain ⟨lb0, E0, K0, S10, S20, i10, i20, i30, _⟩ := h
  exact ⟨i10.box.cell 0 _ rfl, i10.box.lt, i30.box⟩
set_option maxRecDepth 100000 in
set_option maxHeartbeats 3200000 in
theorem put_good (hF : ForceOf W0 fn caps FI step okS) (h : PV W0 g n f d fr pg (.func (.func fn) #[] caps) FI p s S w) (m : Int) (hm : 0 ≤ m ∧ m < (pg : Int)) (b : List UInt8) (hb : b.length = 512) (l : Int) (hl : 1 ≤ l) (v : Value) (hv : Reads 1 w v 512 (b.map B)) (hsl : ∀ k, v.ownBlock = some k → ¬ S k) (hwr : p.wr + 1 ≤ 1000000000) (hs : okS s) :
    Calls Try.prog 13 #[.pointer (some ⟨g, 0, none⟩), .int .i64 m, v, .int .i64 l] w fun e w' => ∃ S', e = .returned (.int .i64 (p.put pg step s m b l).1) ∧ PV W0 g n f d fr pg (.func (.func fn) #[] caps) FI (p.put pg step s m b l).2.1 (p.put pg step s m b l).2.2 S' w' ∧ Foot S S' w w' := by
  obtain ⟨av, cv, rfl, hlm, hvc, hvr⟩ := hv
  obtain ⟨bq, oq, rfl, hbq, hcell⟩ := hvr (by omega)
  have hv : Reads 1 w (.slice (some ⟨bq, oq, none⟩) 512 cv) 512 (b.map B) := ⟨_, _, rfl, hlm, hvc, fun _ => ⟨bq, oq, rfl, hbq, hcell⟩⟩
  have hob : ∀ k, (Value.slice (some ⟨bq, oq, none⟩) 512 cv).ownBlock = some k → k = bq := fun k e => (show bq = k from by simpa [Value.ownBlock] using e).symm
  have HRW := Lib.hid hv
  have HNS : Hid (¬ S bq) := Lib.hid (hsl bq rfl)
  have HBL := Lib.hid hb
  have HM := Lib.hid hm
  have hcall := find_pv hF h m
  have HF := Lib.hid hF
  have H6 := Lib.hid h.ok
  have hb1 : decide (m < 0) = false := by simp; omega
  have hb2 : decide (m ≥ (pg : Int)) = false := by simp; omega
  have hb3 : decide ((pg : Int) ≤ m) = false := by simp; omega
  have hb4 : decide (l < 1) = false := by simp; omega
  obtain ⟨ge0, gelt, hfbx⟩ := h.fbox
  have HBX := Lib.hid hfbx
  have HPG := Lib.hid (show 0 ≤ m ∧ m < (pg : Int) ∧ b.length = 512 ∧ 1 ≤ l from ⟨hm.1, hm.2, hb, hl⟩)
  clear hlm hvr hcell hv hsl hb hfbx
  cases hfl : findL p.F m with
  | some i =>
    rw [hfl] at hcall
    have hin : i < n := by have := findL_lt hfl; rw [H6.out.len] at this; exact this
    have HPE : Hid (p.put pg step s m b l = (0, p.putAt i m b l, s)) := Lib.hid (by unfold Pl.put; rw [if_pos HPG.out, hfl])
    have HC := Lib.hid hcall
    simp only [atI] at HC
    have hib : decide ((i : Int) < 0) = false := by simp
    clear hcall hF h hfl hm hl
    go_enter Try.func13, Try.ntmps13
    go_wp2_with fail
    refine (pages_at HBX.out).mono ?_
    rintro e wh ⟨rfl, rfl⟩
    go_wp2_with fail
    refine HC.out.mono ?_
    rintro e y ⟨rfl, hpvy, hbl⟩
    have HFTY : Hid (Foot S S wh y) := Lib.hid (Foot.same (B := fun _ => False) (grow_below hbl) (fun _ h => h.elim))
    have HRY : Hid (Reads 1 y (.slice (some ⟨bq, oq, none⟩) 512 cv) 512 (b.map B)) := Lib.hid (HRW.out.growx (X := fun _ => False) (grow_below hbl) (fun _ _ h => h))
    have HNV := HNS
    have HLTY := Lib.hid (hpvy.lt HF.out)
    clear hbl ge0 gelt
    obtain ⟨lb, E, K, S1, S2, i1, i2, i3, i4, i5, i6, i7, i8, i9, rfl⟩ := hpvy
    have hiE : i < E.length := by have := i1.len; omega
    obtain ⟨e0, he0⟩ : ∃ e, E[i]? = some e := ⟨_, List.getElem?_eq_getElem hiE⟩
    have hxF : p.F[i]? = some e0.1 := by rw [← i5, List.getElem?_map, he0]; rfl
    obtain ⟨⟨pgx, bx, di, ma, rc, ls⟩, vb⟩ := e0
    have HXD : Hid (p.F.getD i Fm.free = ⟨pgx, bx, di, ma, rc, ls⟩) := Lib.hid (by rw [List.getD_eq_getElem?_getD, hxF]; rfl)
    have ge1 := i1.box.cell 1 _ rfl
    have gelt := i1.box.lt
    have x0 := i1.cell i _ he0 0 _ rfl
    have x2 := i1.cell i _ he0 2 _ rfl
    have x4 := i1.cell i _ he0 4 _ rfl
    rw [Nat.add_zero] at x0
    simp only at x0 x2 x4
    have lefz := i1.fzl
    have lelt := i1.ll.2
    have hgl := i1.gl
    have hn64 := i6.n64
    have J1 := Lib.hid i1
    have J2 := Lib.hid i2
    have J3 := Lib.hid i3
    have J4 := Lib.hid i4
    have J5 := Lib.hid i5
    have J6 := Lib.hid i6
    have J7 := Lib.hid i7
    have J8 := Lib.hid i8
    have J9 := Lib.hid i9
    have HE := Lib.hid he0
    have HIE := Lib.hid hiE
    clear i1 i2 i3 i4 i5 i6 i7 i8 i9 he0 hxF hiE
    by_cases hpm : pgx = m
    case neg =>
      have hq1 : (pgx != m) = true := by simpa using hpm
      have HPM := Lib.hid hpm
      clear hpm
      obtain ⟨a1, a2⟩ := J1.out.setF i _ (⟨pgx, bx, di, ma, l, ls⟩, vb) HE.out 4 (by omega) (.int .i64 l) rfl (J1.out.txt (⟨pgx, bx, di, ma, rc, ls⟩, vb) (List.mem_of_getElem? HE.out))
      have HA5 := Lib.hid a1
      have HG5 : Hid (GrowX (own3 g lb K) y _) := Lib.hid (a2.mono (fun k e => .inr (.inl e)))
      have HE5 : Hid ((E.set i (⟨pgx, bx, di, ma, l, ls⟩, vb))[i]? = some (⟨pgx, bx, di, ma, l, ls⟩, vb)) := Lib.hid (List.getElem?_set_self HIE.out)
      have HEM5 : Hid (∀ (z : Fm), ((E.set i (⟨pgx, bx, di, ma, l, ls⟩, vb)).map (·.1)).set i z = p.F.set i z) := Lib.hid (fun z => by rw [map_set_fst, J5.out, List.set_set])
      generalize E.set i (⟨pgx, bx, di, ma, l, ls⟩, vb) = E5 at HA5 HE5 HEM5
      clear a1 a2
      go_upto_region 12 with (fail)
      generalize hy5 : y.setCell ⟨lb, i * 6 + 4, none⟩ (.int .i64 l) = y5 at HA5 HG5 ⊢
      clear hy5
      have HR5 : Hid (Reads 1 y5 (.slice (some ⟨bq, oq, none⟩) 512 cv) 512 (b.map B)) := Lib.hid (HRY.out.growx HG5.out (fun k e hs => HNV.out (hob k e ▸ .inl hs)))
      obtain ⟨a0, c0, e0', _, _, hrd⟩ := HR5.out
      obtain ⟨b1, o1, e1', _, hcl⟩ := hrd (by omega)
      injection e0' with e2' e3' e4'
      rw [e1'] at e2'
      injection e2' with e5'
      injection e5' with e6' e7'
      subst e6' e7'
      have HCL := Lib.hid hcl
      clear hrd hcl e1' e3' e4'
      go_wp2_with (at_builtin; refine wpList_append_k bytesOf (.const (.slice none 0 0)) (.tmp 74) rfl rfl (base := y5.heap.size) rfl (World.ownsRow_nil _ _ _ _) (m := 512) (c := cv) rfl (by rw [List.length_map, HBL.out]) (news := b.map B) (by intro j u hu; rw [Addr.add_lit]; exact HCL.out j u hu) (Bs_one _) (by omega) (by omega) (by omega) (by omega) ?_; intro ob cp wq hownq hgrq horq; have hgx : GrowX (fun _ => False) y5 wq := GrowX.of_growC hgrq (fun k o h => by cases h.1); have hat6 := HA5.out.grow hgx (fun h => h) (fun h => h) (fun _ _ h => h); have x0 := hat6.cell i _ HE5.out 0 _ rfl; have x1 := hat6.cell i _ HE5.out 1 _ rfl; have x2 := hat6.cell i _ HE5.out 2 _ rfl; have x3 := hat6.cell i _ HE5.out 3 _ rfl; have x5 := hat6.cell i _ HE5.out 5 _ rfl; rw [Nat.add_zero] at x0; have lefz := hat6.fzl; have lelt := hat6.ll.2; simp only at x0 x1 x2 x3 x5; have HA6 := Lib.hid hat6; have HGX := Lib.hid hgx; have HOW := Lib.hid hownq; clear hownq hgrq horq hgx hat6)
      go_ret
      have hrow : wq.ownsRow y5.heap.size 5 1 (.slice (some ⟨ob, 0, none⟩) 512 cp) 512 (b.map B) := by have := HOW.out; simpa using this
      have hobl := hrow.lt ob rfl
      have hy5 := HG5.out.size
      have hobS : ∀ k, own3 g lb K k ∨ S1 k ∨ S2 k → k ≠ ob := fun k hk e => by have := (HLTY.out k hk).2; omega
      have hysW : W0.heap.size ≤ y.heap.size := J3.out.bel.size
      have hk6 := HA6.out.addK (fun k => K k ∨ k = ob) (fun k h => .inl h) (fun k h => h.imp id (fun e => by subst e; exact ⟨by omega, hobl.2, fun e2 => hobS g (.inl (.inl rfl)) e2.symm, fun e2 => hobS lb (.inl (.inr (.inl rfl))) e2.symm⟩))
      have hsec : SecAt wq (fun k => K k ∨ k = ob) b (.slice (some ⟨ob, 0, none⟩) 512 cp) := ⟨by rw [HBL.out]; exact Reads.of_own hrow, fun k e => .inr (by have e2 : ob = k := (by simpa [Value.ownBlock] using e); exact e2.symm)⟩
      obtain ⟨z1, z2⟩ := hk6.put5 i _ HE5.out m b (.slice (some ⟨ob, 0, none⟩) 512 cp) true true l hsec
      have hG : GrowX (own3 g lb (fun k => K k ∨ k = ob)) y _ := ((HG5.out.mono (Y := own3 g lb (fun k => K k ∨ k = ob)) (fun k h => h.elim .inl (fun h => h.elim (fun h => .inr (.inl h)) (fun h => .inr (.inr (.inl h)))))).step HGX.out (fun _ _ h => h.elim)).trans (z2.mono (fun k e => .inr (.inl e)))
      have hok : (Pl.mk ((E5.set i (⟨m, b, true, true, l, l⟩, .slice (some ⟨ob, 0, none⟩) 512 cp)).map (·.1)) p.hand p.wr p.P).ok pg n := by
        refine ⟨by rw [List.length_map, List.length_set]; exact HA5.out.len, J6.out.n1, J6.out.n64, J6.out.hand, ?_, J6.out.wr⟩
        rw [map_set_fst, HEM5.out]
        exact J6.out.set i _ ⟨fun _ => ⟨HM.out.2, HBL.out⟩, fun _ => HM.out.1⟩
      have z3 := PV.again2 HF.out J2.out J1.out.ll.1 (fun k h => h.elim (fun h => (J1.out.kin k h).1) (fun e => by omega)) J3.out J4.out J7.out J8.out J9.out z1 hG (fun k h => h.imp id (fun e => by subst e; exact ⟨fun hs => hobS k (.inr (.inl hs)) rfl, fun hs => hobS k (.inr (.inr hs)) rfl⟩)) hok
      rw [map_set_fst, HEM5.out] at z3
      have hwy : wh.heap.size ≤ y.heap.size := HFTY.out.grow.size
      have hnew : ∀ k, own3 g lb (fun k => K k ∨ k = ob) k → (own3 g lb K k ∨ S1 k ∨ S2 k) ∨ wh.heap.size ≤ k := fun k h => h.elim (fun h => .inl (.inl (.inl h))) (fun h => h.elim (fun h => .inl (.inl (.inr (.inl h)))) (fun h => h.elim (fun h => .inl (.inl (.inr (.inr h)))) (fun e => .inr (by omega))))
      rw [HPE.out, Pl.putAt, HXD.out]
      rw [if_neg (fun h => HPM.out h.1)]
      have hfin := Foot.fin HFTY.out hG hnew (T := fun k => own3 g lb (fun k => K k ∨ k = ob) k ∨ S1 k ∨ S2 k) (fun k h => h.elim (hnew k) (fun h => .inl (.inr h)))
      first | exact ⟨rfl, _, z3, hfin⟩ | exact ⟨_, rfl, z3, hfin⟩
    cases di with
    | false =>
      obtain ⟨a1, a2⟩ := J1.out.setF i _ (⟨pgx, bx, false, ma, l, ls⟩, vb) HE.out 4 (by omega) (.int .i64 l) rfl (J1.out.txt (⟨pgx, bx, false, ma, rc, ls⟩, vb) (List.mem_of_getElem? HE.out))
      have HA5 := Lib.hid a1
      have HG5 : Hid (GrowX (own3 g lb K) y _) := Lib.hid (a2.mono (fun k e => .inr (.inl e)))
      have HE5 : Hid ((E.set i (⟨pgx, bx, false, ma, l, ls⟩, vb))[i]? = some (⟨pgx, bx, false, ma, l, ls⟩, vb)) := Lib.hid (List.getElem?_set_self HIE.out)
      have HEM5 : Hid (∀ (z : Fm), ((E.set i (⟨pgx, bx, false, ma, l, ls⟩, vb)).map (·.1)).set i z = p.F.set i z) := Lib.hid (fun z => by rw [map_set_fst, J5.out, List.set_set])
      have hq1 : (pgx != m) = false := by simpa using hpm
      have HPM := Lib.hid hpm
      clear hpm
      generalize E.set i (⟨pgx, bx, false, ma, l, ls⟩, vb) = E5 at HA5 HE5 HEM5
      clear a1 a2
      go_upto_region 12 with (fail)
      generalize hy5 : y.setCell ⟨lb, i * 6 + 4, none⟩ (.int .i64 l) = y5 at HA5 HG5 ⊢
      clear hy5
      have HR5 : Hid (Reads 1 y5 (.slice (some ⟨bq, oq, none⟩) 512 cv) 512 (b.map B)) := Lib.hid (HRY.out.growx HG5.out (fun k e hs => HNV.out (hob k e ▸ .inl hs)))
      obtain ⟨a0, c0, e0', _, _, hrd⟩ := HR5.out
      obtain ⟨b1, o1, e1', _, hcl⟩ := hrd (by omega)
      injection e0' with e2' e3' e4'
      rw [e1'] at e2'
      injection e2' with e5'
      injection e5' with e6' e7'
      subst e6' e7'
      have HCL := Lib.hid hcl
      clear hrd hcl e1' e3' e4'
      go_wp2_with (at_builtin; refine wpList_append_k bytesOf (.const (.slice none 0 0)) (.tmp 74) rfl rfl (base := y5.heap.size) rfl (World.ownsRow_nil _ _ _ _) (m := 512) (c := cv) rfl (by rw [List.length_map, HBL.out]) (news := b.map B) (by intro j u hu; rw [Addr.add_lit]; exact HCL.out j u hu) (Bs_one _) (by omega) (by omega) (by omega) (by omega) ?_; intro ob cp wq hownq hgrq horq; have hgx : GrowX (fun _ => False) y5 wq := GrowX.of_growC hgrq (fun k o h => by cases h.1); have hat6 := HA5.out.grow hgx (fun h => h) (fun h => h) (fun _ _ h => h); have x0 := hat6.cell i _ HE5.out 0 _ rfl; have x1 := hat6.cell i _ HE5.out 1 _ rfl; have x2 := hat6.cell i _ HE5.out 2 _ rfl; have x3 := hat6.cell i _ HE5.out 3 _ rfl; have x5 := hat6.cell i _ HE5.out 5 _ rfl; rw [Nat.add_zero] at x0; have lefz := hat6.fzl; have lelt := hat6.ll.2; simp only at x0 x1 x2 x3 x5; have HA6 := Lib.hid hat6; have HGX := Lib.hid hgx; have HOW := Lib.hid hownq; clear hownq hgrq horq hgx hat6)
      go_ret
      have hrow : wq.ownsRow y5.heap.size 5 1 (.slice (some ⟨ob, 0, none⟩) 512 cp) 512 (b.map B) := by have := HOW.out; simpa using this
      have hobl := hrow.lt ob rfl
      have hy5 := HG5.out.size
      have hobS : ∀ k, own3 g lb K k ∨ S1 k ∨ S2 k → k ≠ ob := fun k hk e => by have := (HLTY.out k hk).2; omega
      have hysW : W0.heap.size ≤ y.heap.size := J3.out.bel.size
      have hk6 := HA6.out.addK (fun k => K k ∨ k = ob) (fun k h => .inl h) (fun k h => h.imp id (fun e => by subst e; exact ⟨by omega, hobl.2, fun e2 => hobS g (.inl (.inl rfl)) e2.symm, fun e2 => hobS lb (.inl (.inr (.inl rfl))) e2.symm⟩))
      have hsec : SecAt wq (fun k => K k ∨ k = ob) b (.slice (some ⟨ob, 0, none⟩) 512 cp) := ⟨by rw [HBL.out]; exact Reads.of_own hrow, fun k e => .inr (by have e2 : ob = k := (by simpa [Value.ownBlock] using e); exact e2.symm)⟩
      obtain ⟨z1, z2⟩ := hk6.put5 i _ HE5.out m b (.slice (some ⟨ob, 0, none⟩) 512 cp) true true l hsec
      have hG : GrowX (own3 g lb (fun k => K k ∨ k = ob)) y _ := ((HG5.out.mono (Y := own3 g lb (fun k => K k ∨ k = ob)) (fun k h => h.elim .inl (fun h => h.elim (fun h => .inr (.inl h)) (fun h => .inr (.inr (.inl h)))))).step HGX.out (fun _ _ h => h.elim)).trans (z2.mono (fun k e => .inr (.inl e)))
      have hok : (Pl.mk ((E5.set i (⟨m, b, true, true, l, l⟩, .slice (some ⟨ob, 0, none⟩) 512 cp)).map (·.1)) p.hand p.wr p.P).ok pg n := by
        refine ⟨by rw [List.length_map, List.length_set]; exact HA5.out.len, J6.out.n1, J6.out.n64, J6.out.hand, ?_, J6.out.wr⟩
        rw [map_set_fst, HEM5.out]
        exact J6.out.set i _ ⟨fun _ => ⟨HM.out.2, HBL.out⟩, fun _ => HM.out.1⟩
      have z3 := PV.again2 HF.out J2.out J1.out.ll.1 (fun k h => h.elim (fun h => (J1.out.kin k h).1) (fun e => by omega)) J3.out J4.out J7.out J8.out J9.out z1 hG (fun k h => h.imp id (fun e => by subst e; exact ⟨fun hs => hobS k (.inr (.inl hs)) rfl, fun hs => hobS k (.inr (.inr hs)) rfl⟩)) hok
      rw [map_set_fst, HEM5.out] at z3
      have hwy : wh.heap.size ≤ y.heap.size := HFTY.out.grow.size
      have hnew : ∀ k, own3 g lb (fun k => K k ∨ k = ob) k → (own3 g lb K k ∨ S1 k ∨ S2 k) ∨ wh.heap.size ≤ k := fun k h => h.elim (fun h => .inl (.inl (.inl h))) (fun h => h.elim (fun h => .inl (.inl (.inr (.inl h)))) (fun h => h.elim (fun h => .inl (.inl (.inr (.inr h)))) (fun e => .inr (by omega))))
      rw [HPE.out, Pl.putAt, HXD.out]
      rw [if_neg (fun h => by cases h.2)]
      have hfin := Foot.fin HFTY.out hG hnew (T := fun k => own3 g lb (fun k => K k ∨ k = ob) k ∨ S1 k ∨ S2 k) (fun k h => h.elim (hnew k) (fun h => .inl (.inr h)))
      first | exact ⟨rfl, _, z3, hfin⟩ | exact ⟨_, rfl, z3, hfin⟩
    | true =>
      have HA5 := J1
      have HG5 : Hid (GrowX (own3 g lb K) y y) := Lib.hid (GrowX.refl _)
      have HE5 := HE
      have HEM5 : Hid (∀ (z : Fm), (E.map (·.1)).set i z = p.F.set i z) := Lib.hid (fun z => by rw [J5.out])
      have hq1 : (pgx != m) = false := by simpa using hpm
      have HPM := Lib.hid hpm
      clear hpm
      go_upto_region 12 with (fail)
      have HR5 : Hid (Reads 1 y (.slice (some ⟨bq, oq, none⟩) 512 cv) 512 (b.map B)) := Lib.hid (HRY.out.growx HG5.out (fun k e hs => HNV.out (hob k e ▸ .inl hs)))
      obtain ⟨a0, c0, e0', _, _, hrd⟩ := HR5.out
      obtain ⟨b1, o1, e1', _, hcl⟩ := hrd (by omega)
      injection e0' with e2' e3' e4'
      rw [e1'] at e2'
      injection e2' with e5'
      injection e5' with e6' e7'
      subst e6' e7'
      have HCL := Lib.hid hcl
      clear hrd hcl e1' e3' e4'
      go_wp2_with (at_builtin; refine wpList_append_k bytesOf (.const (.slice none 0 0)) (.tmp 74) rfl rfl (base := y.heap.size) rfl (World.ownsRow_nil _ _ _ _) (m := 512) (c := cv) rfl (by rw [List.length_map, HBL.out]) (news := b.map B) (by intro j u hu; rw [Addr.add_lit]; exact HCL.out j u hu) (Bs_one _) (by omega) (by omega) (by omega) (by omega) ?_; intro ob cp wq hownq hgrq horq; have hgx : GrowX (fun _ => False) y wq := GrowX.of_growC hgrq (fun k o h => by cases h.1); have hat6 := HA5.out.grow hgx (fun h => h) (fun h => h) (fun _ _ h => h); have x0 := hat6.cell i _ HE5.out 0 _ rfl; have x1 := hat6.cell i _ HE5.out 1 _ rfl; have x2 := hat6.cell i _ HE5.out 2 _ rfl; have x3 := hat6.cell i _ HE5.out 3 _ rfl; have x5 := hat6.cell i _ HE5.out 5 _ rfl; rw [Nat.add_zero] at x0; have lefz := hat6.fzl; have lelt := hat6.ll.2; simp only at x0 x1 x2 x3 x5; have HA6 := Lib.hid hat6; have HGX := Lib.hid hgx; have HOW := Lib.hid hownq; clear hownq hgrq horq hgx hat6)
      go_ret
      have hrow : wq.ownsRow y.heap.size 5 1 (.slice (some ⟨ob, 0, none⟩) 512 cp) 512 (b.map B) := by have := HOW.out; simpa using this
      have hobl := hrow.lt ob rfl
      have hobS : ∀ k, own3 g lb K k ∨ S1 k ∨ S2 k → k ≠ ob := fun k hk e => by have := (HLTY.out k hk).2; omega
      have hysW : W0.heap.size ≤ y.heap.size := J3.out.bel.size
      have hk6 := HA6.out.addK (fun k => K k ∨ k = ob) (fun k h => .inl h) (fun k h => h.imp id (fun e => by subst e; exact ⟨by omega, hobl.2, fun e2 => hobS g (.inl (.inl rfl)) e2.symm, fun e2 => hobS lb (.inl (.inr (.inl rfl))) e2.symm⟩))
      have hsec : SecAt wq (fun k => K k ∨ k = ob) b (.slice (some ⟨ob, 0, none⟩) 512 cp) := ⟨by rw [HBL.out]; exact Reads.of_own hrow, fun k e => .inr (by have e2 : ob = k := (by simpa [Value.ownBlock] using e); exact e2.symm)⟩
      obtain ⟨z1, z2⟩ := hk6.put5 i _ HE5.out m b (.slice (some ⟨ob, 0, none⟩) 512 cp) true true l hsec
      have hG : GrowX (own3 g lb (fun k => K k ∨ k = ob)) y _ := ((HG5.out.mono (Y := own3 g lb (fun k => K k ∨ k = ob)) (fun k h => h.elim .inl (fun h => h.elim (fun h => .inr (.inl h)) (fun h => .inr (.inr (.inl h)))))).step HGX.out (fun _ _ h => h.elim)).trans (z2.mono (fun k e => .inr (.inl e)))
      have hok : (Pl.mk ((E.set i (⟨m, b, true, true, rc, l⟩, .slice (some ⟨ob, 0, none⟩) 512 cp)).map (·.1)) p.hand p.wr p.P).ok pg n := by
        refine ⟨by rw [List.length_map, List.length_set]; exact HA5.out.len, J6.out.n1, J6.out.n64, J6.out.hand, ?_, J6.out.wr⟩
        rw [map_set_fst, HEM5.out]
        exact J6.out.set i _ ⟨fun _ => ⟨HM.out.2, HBL.out⟩, fun _ => HM.out.1⟩
      have z3 := PV.again2 HF.out J2.out J1.out.ll.1 (fun k h => h.elim (fun h => (J1.out.kin k h).1) (fun e => by omega)) J3.out J4.out J7.out J8.out J9.out z1 hG (fun k h => h.imp id (fun e => by subst e; exact ⟨fun hs => hobS k (.inr (.inl hs)) rfl, fun hs => hobS k (.inr (.inr hs)) rfl⟩)) hok
      rw [map_set_fst, HEM5.out] at z3
      have hwy : wh.heap.size ≤ y.heap.size := HFTY.out.grow.size
      have hnew : ∀ k, own3 g lb (fun k => K k ∨ k = ob) k → (own3 g lb K k ∨ S1 k ∨ S2 k) ∨ wh.heap.size ≤ k := fun k h => h.elim (fun h => .inl (.inl (.inl h))) (fun h => h.elim (fun h => .inl (.inl (.inr (.inl h)))) (fun h => h.elim (fun h => .inl (.inl (.inr (.inr h)))) (fun e => .inr (by omega))))
      rw [HPE.out, Pl.putAt, HXD.out]
      rw [if_pos ⟨HPM.out, rfl⟩]
      have hfin := Foot.fin HFTY.out hG hnew (T := fun k => own3 g lb (fun k => K k ∨ k = ob) k ∨ S1 k ∨ S2 k) (fun k h => h.elim (hnew k) (fun h => .inl (.inr h)))
      first | exact ⟨rfl, _, z3, hfin⟩ | exact ⟨_, rfl, z3, hfin⟩
  | none =>
    rw [hfl] at hcall
    obtain ⟨r, hr⟩ : ∃ r, p.free step s = r := ⟨_, rfl⟩
    have HRT : Hid (r.2.1 < n) := Lib.hid (by rw [← hr]; exact Pl.free_lt h.ok)
    have HPE0 : Hid (p.put pg step s m b l = if r.1 = 0 then (0, r.2.2.1.putAt r.2.1 m b l, r.2.2.2) else (r.1, r.2.2.1, r.2.2.2)) := Lib.hid (by unfold Pl.put; rw [if_pos HPG.out, hfl]; simp only [hr])
    have HR := Lib.hid hr
    have HLTS := Lib.hid (h.lt hF)
    have HC := Lib.hid hcall
    simp only [atI] at HC
    clear hcall hF h hfl hm hl hr
    go_enter Try.func13, Try.ntmps13
    go_wp2_with fail
    refine (pages_at HBX.out).mono ?_
    rintro e wh ⟨rfl, rfl⟩
    go_wp2_with fail
    refine HC.out.mono ?_
    rintro e y2 ⟨rfl, hpv2, hbl⟩
    have hfree := free_pv HF.out hpv2 hwr hs
    rw [HR.out] at hfree
    have HFREE := Lib.hid hfree
    have HFT2 : Hid (Foot S S wh y2) := Lib.hid (Foot.same (B := fun _ => False) (grow_below hbl) (fun _ h => h.elim))
    obtain ⟨re, i, q, sq⟩ := r
    have hin : i < n := HRT.out
    clear hfree hbl ge0 gelt hpv2
    by_cases hre : re = 0
    case neg =>
      have hq1 : (re != 0) = true := by simpa using hre
      go_wp2_with fail
      refine HFREE.out.mono ?_
      rintro e y3 ⟨S3, rfl, hpv3, hft3⟩
      have HPV3 := Lib.hid hpv3
      have HFT3 := Lib.hid (HFT2.out.trans hft3)
      clear hpv3 hft3
      go_wp2_with fail
      go_ret
      rw [HPE0.out, if_neg hre]
      first | exact ⟨rfl, _, HPV3.out, HFT3.out⟩ | exact ⟨_, rfl, HPV3.out, HFT3.out⟩
    subst hre
    have HPE : Hid (p.put pg step s m b l = (0, q.putAt i m b l, sq)) := Lib.hid (by rw [HPE0.out]; exact if_pos rfl)
    have hib : decide ((i : Int) < 0) = false := by simp
    go_wp2_with fail
    refine HFREE.out.mono ?_
    rintro e y ⟨S3, rfl, hpvy, hft3⟩
    have HFTY := Lib.hid (HFT2.out.trans hft3)
    have HRY : Hid (Reads 1 y (.slice (some ⟨bq, oq, none⟩) 512 cv) 512 (b.map B)) := Lib.hid (HRW.out.growx HFTY.out.grow (fun k e hs => HNS.out (hob k e ▸ hs)))
    have HNV : Hid (¬ S3 bq) := Lib.hid (fun hs => (HFTY.out.new bq hs).elim HNS.out (fun e => by omega))
    have HLTY := Lib.hid (hpvy.lt HF.out)
    clear hft3 HPE0
    obtain ⟨lb, E, K, S1, S2, i1, i2, i3, i4, i5, i6, i7, i8, i9, rfl⟩ := hpvy
    have hiE : i < E.length := by have := i1.len; omega
    obtain ⟨e0, he0⟩ : ∃ e, E[i]? = some e := ⟨_, List.getElem?_eq_getElem hiE⟩
    have hxF : q.F[i]? = some e0.1 := by rw [← i5, List.getElem?_map, he0]; rfl
    obtain ⟨⟨pgx, bx, di, ma, rc, ls⟩, vb⟩ := e0
    have HXD : Hid (q.F.getD i Fm.free = ⟨pgx, bx, di, ma, rc, ls⟩) := Lib.hid (by rw [List.getD_eq_getElem?_getD, hxF]; rfl)
    have ge1 := i1.box.cell 1 _ rfl
    have gelt := i1.box.lt
    have x0 := i1.cell i _ he0 0 _ rfl
    have x2 := i1.cell i _ he0 2 _ rfl
    have x4 := i1.cell i _ he0 4 _ rfl
    rw [Nat.add_zero] at x0
    simp only at x0 x2 x4
    have lefz := i1.fzl
    have lelt := i1.ll.2
    have hgl := i1.gl
    have hn64 := i6.n64
    have J1 := Lib.hid i1
    have J2 := Lib.hid i2
    have J3 := Lib.hid i3
    have J4 := Lib.hid i4
    have J5 := Lib.hid i5
    have J6 := Lib.hid i6
    have J7 := Lib.hid i7
    have J8 := Lib.hid i8
    have J9 := Lib.hid i9
    have HE := Lib.hid he0
    have HIE := Lib.hid hiE
    clear i1 i2 i3 i4 i5 i6 i7 i8 i9 he0 hxF hiE
    by_cases hpm : pgx = m
    case neg =>
      have hq1 : (pgx != m) = true := by simpa using hpm
      have HPM := Lib.hid hpm
      clear hpm
      obtain ⟨a1, a2⟩ := J1.out.setF i _ (⟨pgx, bx, di, ma, l, ls⟩, vb) HE.out 4 (by omega) (.int .i64 l) rfl (J1.out.txt (⟨pgx, bx, di, ma, rc, ls⟩, vb) (List.mem_of_getElem? HE.out))
      have HA5 := Lib.hid a1
      have HG5 : Hid (GrowX (own3 g lb K) y _) := Lib.hid (a2.mono (fun k e => .inr (.inl e)))
      have HE5 : Hid ((E.set i (⟨pgx, bx, di, ma, l, ls⟩, vb))[i]? = some (⟨pgx, bx, di, ma, l, ls⟩, vb)) := Lib.hid (List.getElem?_set_self HIE.out)
      have HEM5 : Hid (∀ (z : Fm), ((E.set i (⟨pgx, bx, di, ma, l, ls⟩, vb)).map (·.1)).set i z = q.F.set i z) := Lib.hid (fun z => by rw [map_set_fst, J5.out, List.set_set])
      generalize E.set i (⟨pgx, bx, di, ma, l, ls⟩, vb) = E5 at HA5 HE5 HEM5
      clear a1 a2
      go_upto_region 12 with (fail)
      generalize hy5 : y.setCell ⟨lb, i * 6 + 4, none⟩ (.int .i64 l) = y5 at HA5 HG5 ⊢
      clear hy5
      have HR5 : Hid (Reads 1 y5 (.slice (some ⟨bq, oq, none⟩) 512 cv) 512 (b.map B)) := Lib.hid (HRY.out.growx HG5.out (fun k e hs => HNV.out (hob k e ▸ .inl hs)))
      obtain ⟨a0, c0, e0', _, _, hrd⟩ := HR5.out
      obtain ⟨b1, o1, e1', _, hcl⟩ := hrd (by omega)
      injection e0' with e2' e3' e4'
      rw [e1'] at e2'
      injection e2' with e5'
      injection e5' with e6' e7'
      subst e6' e7'
      have HCL := Lib.hid hcl
      clear hrd hcl e1' e3' e4'
      go_wp2_with (at_builtin; refine wpList_append_k bytesOf (.const (.slice none 0 0)) (.tmp 74) rfl rfl (base := y5.heap.size) rfl (World.ownsRow_nil _ _ _ _) (m := 512) (c := cv) rfl (by rw [List.length_map, HBL.out]) (news := b.map B) (by intro j u hu; rw [Addr.add_lit]; exact HCL.out j u hu) (Bs_one _) (by omega) (by omega) (by omega) (by omega) ?_; intro ob cp wq hownq hgrq horq; have hgx : GrowX (fun _ => False) y5 wq := GrowX.of_growC hgrq (fun k o h => by cases h.1); have hat6 := HA5.out.grow hgx (fun h => h) (fun h => h) (fun _ _ h => h); have x0 := hat6.cell i _ HE5.out 0 _ rfl; have x1 := hat6.cell i _ HE5.out 1 _ rfl; have x2 := hat6.cell i _ HE5.out 2 _ rfl; have x3 := hat6.cell i _ HE5.out 3 _ rfl; have x5 := hat6.cell i _ HE5.out 5 _ rfl; rw [Nat.add_zero] at x0; have lefz := hat6.fzl; have lelt := hat6.ll.2; simp only at x0 x1 x2 x3 x5; have HA6 := Lib.hid hat6; have HGX := Lib.hid hgx; have HOW := Lib.hid hownq; clear hownq hgrq horq hgx hat6)
      go_ret
      have hrow : wq.ownsRow y5.heap.size 5 1 (.slice (some ⟨ob, 0, none⟩) 512 cp) 512 (b.map B) := by have := HOW.out; simpa using this
      have hobl := hrow.lt ob rfl
      have hy5 := HG5.out.size
      have hobS : ∀ k, own3 g lb K k ∨ S1 k ∨ S2 k → k ≠ ob := fun k hk e => by have := (HLTY.out k hk).2; omega
      have hysW : W0.heap.size ≤ y.heap.size := J3.out.bel.size
      have hk6 := HA6.out.addK (fun k => K k ∨ k = ob) (fun k h => .inl h) (fun k h => h.imp id (fun e => by subst e; exact ⟨by omega, hobl.2, fun e2 => hobS g (.inl (.inl rfl)) e2.symm, fun e2 => hobS lb (.inl (.inr (.inl rfl))) e2.symm⟩))
      have hsec : SecAt wq (fun k => K k ∨ k = ob) b (.slice (some ⟨ob, 0, none⟩) 512 cp) := ⟨by rw [HBL.out]; exact Reads.of_own hrow, fun k e => .inr (by have e2 : ob = k := (by simpa [Value.ownBlock] using e); exact e2.symm)⟩
      obtain ⟨z1, z2⟩ := hk6.put5 i _ HE5.out m b (.slice (some ⟨ob, 0, none⟩) 512 cp) true true l hsec
      have hG : GrowX (own3 g lb (fun k => K k ∨ k = ob)) y _ := ((HG5.out.mono (Y := own3 g lb (fun k => K k ∨ k = ob)) (fun k h => h.elim .inl (fun h => h.elim (fun h => .inr (.inl h)) (fun h => .inr (.inr (.inl h)))))).step HGX.out (fun _ _ h => h.elim)).trans (z2.mono (fun k e => .inr (.inl e)))
      have hok : (Pl.mk ((E5.set i (⟨m, b, true, true, l, l⟩, .slice (some ⟨ob, 0, none⟩) 512 cp)).map (·.1)) q.hand q.wr q.P).ok pg n := by
        refine ⟨by rw [List.length_map, List.length_set]; exact HA5.out.len, J6.out.n1, J6.out.n64, J6.out.hand, ?_, J6.out.wr⟩
        rw [map_set_fst, HEM5.out]
        exact J6.out.set i _ ⟨fun _ => ⟨HM.out.2, HBL.out⟩, fun _ => HM.out.1⟩
      have z3 := PV.again2 (s := sq) HF.out J2.out J1.out.ll.1 (fun k h => h.elim (fun h => (J1.out.kin k h).1) (fun e => by omega)) J3.out J4.out J7.out J8.out J9.out z1 hG (fun k h => h.imp id (fun e => by subst e; exact ⟨fun hs => hobS k (.inr (.inl hs)) rfl, fun hs => hobS k (.inr (.inr hs)) rfl⟩)) hok
      rw [map_set_fst, HEM5.out] at z3
      have hwy : wh.heap.size ≤ y.heap.size := HFTY.out.grow.size
      have hnew : ∀ k, own3 g lb (fun k => K k ∨ k = ob) k → (own3 g lb K k ∨ S1 k ∨ S2 k) ∨ wh.heap.size ≤ k := fun k h => h.elim (fun h => .inl (.inl (.inl h))) (fun h => h.elim (fun h => .inl (.inl (.inr (.inl h)))) (fun h => h.elim (fun h => .inl (.inl (.inr (.inr h)))) (fun e => .inr (by omega))))
      rw [HPE.out, Pl.putAt, HXD.out]
      rw [if_neg (fun h => HPM.out h.1)]
      have hfin := Foot.fin HFTY.out hG hnew (T := fun k => own3 g lb (fun k => K k ∨ k = ob) k ∨ S1 k ∨ S2 k) (fun k h => h.elim (hnew k) (fun h => .inl (.inr h)))
      first | exact ⟨rfl, _, z3, hfin⟩ | exact ⟨_, rfl, z3, hfin⟩
    cases di with
    | false =>
      obtain ⟨a1, a2⟩ := J1.out.setF i _ (⟨pgx, bx, false, ma, l, ls⟩, vb) HE.out 4 (by omega) (.int .i64 l) rfl (J1.out.txt (⟨pgx, bx, false, ma, rc, ls⟩, vb) (List.mem_of_getElem? HE.out))
      have HA5 := Lib.hid a1
      have HG5 : Hid (GrowX (own3 g lb K) y _) := Lib.hid (a2.mono (fun k e => .inr (.inl e)))
      have HE5 : Hid ((E.set i (⟨pgx, bx, false, ma, l, ls⟩, vb))[i]? = some (⟨pgx, bx, false, ma, l, ls⟩, vb)) := Lib.hid (List.getElem?_set_self HIE.out)
      have HEM5 : Hid (∀ (z : Fm), ((E.set i (⟨pgx, bx, false, ma, l, ls⟩, vb)).map (·.1)).set i z = q.F.set i z) := Lib.hid (fun z => by rw [map_set_fst, J5.out, List.set_set])
      have hq1 : (pgx != m) = false := by simpa using hpm
      have HPM := Lib.hid hpm
      clear hpm
      generalize E.set i (⟨pgx, bx, false, ma, l, ls⟩, vb) = E5 at HA5 HE5 HEM5
      clear a1 a2
      go_upto_region 12 with (fail)
      generalize hy5 : y.setCell ⟨lb, i * 6 + 4, none⟩ (.int .i64 l) = y5 at HA5 HG5 ⊢
      clear hy5
      have HR5 : Hid (Reads 1 y5 (.slice (some ⟨bq, oq, none⟩) 512 cv) 512 (b.map B)) := Lib.hid (HRY.out.growx HG5.out (fun k e hs => HNV.out (hob k e ▸ .inl hs)))
      obtain ⟨a0, c0, e0', _, _, hrd⟩ := HR5.out
      obtain ⟨b1, o1, e1', _, hcl⟩ := hrd (by omega)
      injection e0' with e2' e3' e4'
      rw [e1'] at e2'
      injection e2' with e5'
      injection e5' with e6' e7'
      subst e6' e7'
      have HCL := Lib.hid hcl
      clear hrd hcl e1' e3' e4'
      go_wp2_with (at_builtin; refine wpList_append_k bytesOf (.const (.slice none 0 0)) (.tmp 74) rfl rfl (base := y5.heap.size) rfl (World.ownsRow_nil _ _ _ _) (m := 512) (c := cv) rfl (by rw [List.length_map, HBL.out]) (news := b.map B) (by intro j u hu; rw [Addr.add_lit]; exact HCL.out j u hu) (Bs_one _) (by omega) (by omega) (by omega) (by omega) ?_; intro ob cp wq hownq hgrq horq; have hgx : GrowX (fun _ => False) y5 wq := GrowX.of_growC hgrq (fun k o h => by cases h.1); have hat6 := HA5.out.grow hgx (fun h => h) (fun h => h) (fun _ _ h => h); have x0 := hat6.cell i _ HE5.out 0 _ rfl; have x1 := hat6.cell i _ HE5.out 1 _ rfl; have x2 := hat6.cell i _ HE5.out 2 _ rfl; have x3 := hat6.cell i _ HE5.out 3 _ rfl; have x5 := hat6.cell i _ HE5.out 5 _ rfl; rw [Nat.add_zero] at x0; have lefz := hat6.fzl; have lelt := hat6.ll.2; simp only at x0 x1 x2 x3 x5; have HA6 := Lib.hid hat6; have HGX := Lib.hid hgx; have HOW := Lib.hid hownq; clear hownq hgrq horq hgx hat6)
      go_ret
      have hrow : wq.ownsRow y5.heap.size 5 1 (.slice (some ⟨ob, 0, none⟩) 512 cp) 512 (b.map B) := by have := HOW.out; simpa using this
      have hobl := hrow.lt ob rfl
      have hy5 := HG5.out.size
      have hobS : ∀ k, own3 g lb K k ∨ S1 k ∨ S2 k → k ≠ ob := fun k hk e => by have := (HLTY.out k hk).2; omega
      have hysW : W0.heap.size ≤ y.heap.size := J3.out.bel.size
      have hk6 := HA6.out.addK (fun k => K k ∨ k = ob) (fun k h => .inl h) (fun k h => h.imp id (fun e => by subst e; exact ⟨by omega, hobl.2, fun e2 => hobS g (.inl (.inl rfl)) e2.symm, fun e2 => hobS lb (.inl (.inr (.inl rfl))) e2.symm⟩))
      have hsec : SecAt wq (fun k => K k ∨ k = ob) b (.slice (some ⟨ob, 0, none⟩) 512 cp) := ⟨by rw [HBL.out]; exact Reads.of_own hrow, fun k e => .inr (by have e2 : ob = k := (by simpa [Value.ownBlock] using e); exact e2.symm)⟩
      obtain ⟨z1, z2⟩ := hk6.put5 i _ HE5.out m b (.slice (some ⟨ob, 0, none⟩) 512 cp) true true l hsec
      have hG : GrowX (own3 g lb (fun k => K k ∨ k = ob)) y _ := ((HG5.out.mono (Y := own3 g lb (fun k => K k ∨ k = ob)) (fun k h => h.elim .inl (fun h => h.elim (fun h => .inr (.inl h)) (fun h => .inr (.inr (.inl h)))))).step HGX.out (fun _ _ h => h.elim)).trans (z2.mono (fun k e => .inr (.inl e)))
      have hok : (Pl.mk ((E5.set i (⟨m, b, true, true, l, l⟩, .slice (some ⟨ob, 0, none⟩) 512 cp)).map (·.1)) q.hand q.wr q.P).ok pg n := by
        refine ⟨by rw [List.length_map, List.length_set]; exact HA5.out.len, J6.out.n1, J6.out.n64, J6.out.hand, ?_, J6.out.wr⟩
        rw [map_set_fst, HEM5.out]
        exact J6.out.set i _ ⟨fun _ => ⟨HM.out.2, HBL.out⟩, fun _ => HM.out.1⟩
      have z3 := PV.again2 (s := sq) HF.out J2.out J1.out.ll.1 (fun k h => h.elim (fun h => (J1.out.kin k h).1) (fun e => by omega)) J3.out J4.out J7.out J8.out J9.out z1 hG (fun k h => h.imp id (fun e => by subst e; exact ⟨fun hs => hobS k (.inr (.inl hs)) rfl, fun hs => hobS k (.inr (.inr hs)) rfl⟩)) hok
      rw [map_set_fst, HEM5.out] at z3
      have hwy : wh.heap.size ≤ y.heap.size := HFTY.out.grow.size
      have hnew : ∀ k, own3 g lb (fun k => K k ∨ k = ob) k → (own3 g lb K k ∨ S1 k ∨ S2 k) ∨ wh.heap.size ≤ k := fun k h => h.elim (fun h => .inl (.inl (.inl h))) (fun h => h.elim (fun h => .inl (.inl (.inr (.inl h)))) (fun h => h.elim (fun h => .inl (.inl (.inr (.inr h)))) (fun e => .inr (by omega))))
      rw [HPE.out, Pl.putAt, HXD.out]
      rw [if_neg (fun h => by cases h.2)]
      have hfin := Foot.fin HFTY.out hG hnew (T := fun k => own3 g lb (fun k => K k ∨ k = ob) k ∨ S1 k ∨ S2 k) (fun k h => h.elim (hnew k) (fun h => .inl (.inr h)))
      first | exact ⟨rfl, _, z3, hfin⟩ | exact ⟨_, rfl, z3, hfin⟩
    | true =>
      have HA5 := J1
      have HG5 : Hid (GrowX (own3 g lb K) y y) := Lib.hid (GrowX.refl _)
      have HE5 := HE
      have HEM5 : Hid (∀ (z : Fm), (E.map (·.1)).set i z = q.F.set i z) := Lib.hid (fun z => by rw [J5.out])
      have hq1 : (pgx != m) = false := by simpa using hpm
      have HPM := Lib.hid hpm
      clear hpm
      go_upto_region 12 with (fail)
      have HR5 : Hid (Reads 1 y (.slice (some ⟨bq, oq, none⟩) 512 cv) 512 (b.map B)) := Lib.hid (HRY.out.growx HG5.out (fun k e hs => HNV.out (hob k e ▸ .inl hs)))
      obtain ⟨a0, c0, e0', _, _, hrd⟩ := HR5.out
      obtain ⟨b1, o1, e1', _, hcl⟩ := hrd (by omega)
      injection e0' with e2' e3' e4'
      rw [e1'] at e2'
      injection e2' with e5'
      injection e5' with e6' e7'
      subst e6' e7'
      have HCL := Lib.hid hcl
      clear hrd hcl e1' e3' e4'
      go_wp2_with (at_builtin; refine wpList_append_k bytesOf (.const (.slice none 0 0)) (.tmp 74) rfl rfl (base := y.heap.size) rfl (World.ownsRow_nil _ _ _ _) (m := 512) (c := cv) rfl (by rw [List.length_map, HBL.out]) (news := b.map B) (by intro j u hu; rw [Addr.add_lit]; exact HCL.out j u hu) (Bs_one _) (by omega) (by omega) (by omega) (by omega) ?_; intro ob cp wq hownq hgrq horq; have hgx : GrowX (fun _ => False) y wq := GrowX.of_growC hgrq (fun k o h => by cases h.1); have hat6 := HA5.out.grow hgx (fun h => h) (fun h => h) (fun _ _ h => h); have x0 := hat6.cell i _ HE5.out 0 _ rfl; have x1 := hat6.cell i _ HE5.out 1 _ rfl; have x2 := hat6.cell i _ HE5.out 2 _ rfl; have x3 := hat6.cell i _ HE5.out 3 _ rfl; have x5 := hat6.cell i _ HE5.out 5 _ rfl; rw [Nat.add_zero] at x0; have lefz := hat6.fzl; have lelt := hat6.ll.2; simp only at x0 x1 x2 x3 x5; have HA6 := Lib.hid hat6; have HGX := Lib.hid hgx; have HOW := Lib.hid hownq; clear hownq hgrq horq hgx hat6)
      go_ret
      have hrow : wq.ownsRow y.heap.size 5 1 (.slice (some ⟨ob, 0, none⟩) 512 cp) 512 (b.map B) := by have := HOW.out; simpa using this
      have hobl := hrow.lt ob rfl
      have hobS : ∀ k, own3 g lb K k ∨ S1 k ∨ S2 k → k ≠ ob := fun k hk e => by have := (HLTY.out k hk).2; omega
      have hysW : W0.heap.size ≤ y.heap.size := J3.out.bel.size
      have hk6 := HA6.out.addK (fun k => K k ∨ k = ob) (fun k h => .inl h) (fun k h => h.imp id (fun e => by subst e; exact ⟨by omega, hobl.2, fun e2 => hobS g (.inl (.inl rfl)) e2.symm, fun e2 => hobS lb (.inl (.inr (.inl rfl))) e2.symm⟩))
      have hsec : SecAt wq (fun k => K k ∨ k = ob) b (.slice (some ⟨ob, 0, none⟩) 512 cp) := ⟨by rw [HBL.out]; exact Reads.of_own hrow, fun k e => .inr (by have e2 : ob = k := (by simpa [Value.ownBlock] using e); exact e2.symm)⟩
      obtain ⟨z1, z2⟩ := hk6.put5 i _ HE5.out m b (.slice (some ⟨ob, 0, none⟩) 512 cp) true true l hsec
      have hG : GrowX (own3 g lb (fun k => K k ∨ k = ob)) y _ := ((HG5.out.mono (Y := own3 g lb (fun k => K k ∨ k = ob)) (fun k h => h.elim .inl (fun h => h.elim (fun h => .inr (.inl h)) (fun h => .inr (.inr (.inl h)))))).step HGX.out (fun _ _ h => h.elim)).trans (z2.mono (fun k e => .inr (.inl e)))
      have hok : (Pl.mk ((E.set i (⟨m, b, true, true, rc, l⟩, .slice (some ⟨ob, 0, none⟩) 512 cp)).map (·.1)) q.hand q.wr q.P).ok pg n := by
        refine ⟨by rw [List.length_map, List.length_set]; exact HA5.out.len, J6.out.n1, J6.out.n64, J6.out.hand, ?_, J6.out.wr⟩
        rw [map_set_fst, HEM5.out]
        exact J6.out.set i _ ⟨fun _ => ⟨HM.out.2, HBL.out⟩, fun _ => HM.out.1⟩
      have z3 := PV.again2 (s := sq) HF.out J2.out J1.out.ll.1 (fun k h => h.elim (fun h => (J1.out.kin k h).1) (fun e => by omega)) J3.out J4.out J7.out J8.out J9.out z1 hG (fun k h => h.imp id (fun e => by subst e; exact ⟨fun hs => hobS k (.inr (.inl hs)) rfl, fun hs => hobS k (.inr (.inr hs)) rfl⟩)) hok
      rw [map_set_fst, HEM5.out] at z3
      have hwy : wh.heap.size ≤ y.heap.size := HFTY.out.grow.size
      have hnew : ∀ k, own3 g lb (fun k => K k ∨ k = ob) k → (own3 g lb K k ∨ S1 k ∨ S2 k) ∨ wh.heap.size ≤ k := fun k h => h.elim (fun h => .inl (.inl (.inl h))) (fun h => h.elim (fun h => .inl (.inl (.inr (.inl h)))) (fun h => h.elim (fun h => .inl (.inl (.inr (.inr h)))) (fun e => .inr (by omega))))
      rw [HPE.out, Pl.putAt, HXD.out]
      rw [if_pos ⟨HPM.out, rfl⟩]
      have hfin := Foot.fin HFTY.out hG hnew (T := fun k => own3 g lb (fun k => K k ∨ k = ob) k ∨ S1 k ∨ S2 k) (fun k h => h.elim (hnew k) (fun h => .inl (.inr h)))
      first | exact ⟨rfl, _, z3, hfin⟩ | exact ⟨_, rfl, z3, hfin⟩
set_option maxRecDepth 100000 in
/-- a page, bytes or an LSN that may not be -/
theorem put_bad {fv : Value} (h : PV W0 g n f d fr pg fv FI p s S w) (m : Int) (b : List UInt8) (l : Int) (a : Option Addr) (nb c : Nat) (hbn : b.length = nb) (hbad : ¬ (0 ≤ m ∧ m < (pg : Int) ∧ b.length = 512 ∧ 1 ≤ l)) :
    Calls Try.prog 13 #[.pointer (some ⟨g, 0, none⟩), .int .i64 m, .slice a nb c, .int .i64 l] w fun e w' => e = .returned (.int .i64 1) ∧ w' = w := by
  obtain ⟨ge0, gelt, hfbx⟩ := h.fbox
  have HBX := Lib.hid hfbx
  clear hfbx h
  by_cases h1 : m < 0
  · have hb1 : decide (m < 0) = true := by simpa using h1
    clear hbad h1
    go_enter Try.func13, Try.ntmps13
    go_wp2_with fail
    go_ret
    exact ⟨rfl, rfl⟩
  have hb1 : decide (m < 0) = false := by simpa using h1
  by_cases h2 : (pg : Int) ≤ m
  · have hb2 : decide (m ≥ (pg : Int)) = true := by simpa using h2
    have hb3 : decide ((pg : Int) ≤ m) = true := by simpa using h2
    clear hbad h1 h2
    go_enter Try.func13, Try.ntmps13
    go_wp2_with fail
    refine (pages_at HBX.out).mono ?_
    rintro e wh ⟨rfl, rfl⟩
    go_wp2_with fail
    go_ret
    exact ⟨rfl, rfl⟩
  have hb2 : decide (m ≥ (pg : Int)) = false := by simp; omega
  have hb3 : decide ((pg : Int) ≤ m) = false := by simpa using h2
  by_cases h3 : nb = 512
  · subst h3
    have hb4 : decide (l < 1) = true := by
      have : ¬ 1 ≤ l := fun h4 => hbad ⟨by omega, by omega, hbn, h4⟩
      simp; omega
    clear hbad h1 h2
    go_enter Try.func13, Try.ntmps13
    go_wp2_with fail
    refine (pages_at HBX.out).mono ?_
    rintro e wh ⟨rfl, rfl⟩
    go_wp2_with fail
    go_ret
    exact ⟨rfl, rfl⟩
  · have hb4 : ((nb : Int) != 512) = true := by simp; omega
    have HB4 := Lib.hid hbad
    clear hbad h1 h2
    go_enter Try.func13, Try.ntmps13
    go_wp2_with fail
    refine (pages_at HBX.out).mono ?_
    rintro e wh ⟨rfl, rfl⟩
    go_wp2_with fail
    go_ret
    exact ⟨rfl, rfl⟩
end
end Go.Proofs.Ytdnjjdpenfhpeaa

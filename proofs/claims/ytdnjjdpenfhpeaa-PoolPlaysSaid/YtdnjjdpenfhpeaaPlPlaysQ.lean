/- PoolPlays: the document's Dirty and New; the plain law; the force that keeps what it was asked; where the law stands. Conditions: none. -/
import Derived.Test.YtdnjjdpenfhpeaaPlRefP
import Derived.BigQuiet
import Derived.Test.YtdnjjdpenfhpeaaPlNew
namespace Go.Proofs.Ytdnjjdpenfhpeaa
set_option linter.unusedSimpArgs false
set_option linter.unusedVariables false
open Go.RowKit

def rdirtyL (F : List Fm) (n : Nat) : List (Int × Int) := (List.range n).filterMap fun q => match findL F (q : Nat) with
  | some i => if (F.getD i Fm.free).dirty = true then some ((q : Int), (F.getD i Fm.free).rc) else none
  | none => none
theorem rdirtyL_none {F : List Fm} {n : Nat} (h : findL F (n : Nat) = none) : rdirtyL F (n + 1) = rdirtyL F n := by
  unfold rdirtyL
  rw [List.range_succ, List.filterMap_append]
  simp [h]
theorem rdirtyL_some {F : List Fm} {n i : Nat} {x : Fm} (h : findL F (n : Nat) = some i) (hx : F[i]? = some x) : rdirtyL F (n + 1) = rdirtyL F n ++ (if x.dirty = true then [((n : Int), x.rc)] else []) := by
  unfold rdirtyL
  rw [List.range_succ, List.filterMap_append]
  congr 1
  simp only [List.filterMap_cons, h, getD_at hx, List.filterMap_nil]
  split <;> simp_all
theorem rdirtyL_len (F : List Fm) (n : Nat) : (rdirtyL F n).length ≤ n := by
  unfold rdirtyL
  have := List.length_filterMap_le (fun q => match findL F (q : Nat) with
    | some i => if (F.getD i Fm.free).dirty = true then some ((q : Int), (F.getD i Fm.free).rc) else none
    | none => none) (List.range n)
  simpa using this
section
variable {W0 w : World} {r n pg : Nat} {bad er : Int} {p : Pl} {fo : List Int} {S : Nat → Prop}
set_option maxRecDepth 100000 in
set_option maxHeartbeats 3200000 in
theorem rdirty_rv (h : RV W0 r n pg bad er p fo S w) (hpg : pg ≤ 1000000) :
    Calls Try.prog 24 #[.pointer (some ⟨r, 0, none⟩)] w fun e w' => ∃ (v : Value) (m : Nat), e = .returned v ∧ (rdirtyL p.F pg).length = m ∧ Reads 2 w' v m (dcells (rdirtyL p.F pg)) ∧ RV W0 r n pg bad er p fo S w' ∧ Below w.heap.size w w' := by
  have H := Lib.hid h
  obtain ⟨db, cd, fb, cf, vo, h1, h2, h3, h4, h5, rfl⟩ := h
  have hn1 := h4.n1
  have hn64 := h4.n64
  obtain ⟨G, hG⟩ : ∃ G, w.heap.size = G := ⟨_, rfl⟩
  have HG := Lib.hid hG
  have HA := Lib.hid h1
  have HL := Lib.hid h4.len
  clear h1 h2 h3 h4 h5 hG
  go_enter Try.func24, Try.ntmps24
  go_wp2_with fail
  go_loopw [3, 4] (fun s i wr => ∃ (k m cb : Nat) (bo : Option Addr), k ≤ pg ∧ i = .int .i64 k ∧ s = .slice bo m cb ∧ Hid ((rdirtyL p.F k).length = m) ∧ m ≤ k ∧
      wr.ownsRow G 45 2 (.slice bo m cb) m (dcells (rdirtyL p.F k)) ∧ Below G w wr) (fun _ i _ => pg - (intOf i).toNat)
  case atStart => exact ⟨0, 0, 0, none, Nat.zero_le _, rfl, rfl, Lib.hid rfl, Nat.le_refl _, World.ownsRow_nil _ _ _ _, Below.refl _ _⟩
  case round =>
    obtain ⟨k, m, cb, bo, hk, rfl, rfl, HM, hmk, hown, hnx⟩ := hrel
    have HO := Lib.hid hown
    have HNX := Lib.hid hnx
    have hsz : G ≤ wr.heap.size := by have := hnx.size; have := HG.out; omega
    have HAR := Lib.hid (HA.out.grow (X := fun _ => False) (grow_below (by rw [HG.out]; exact hnx)) (fun _ _ h => h))
    have g0 := HAR.out.box.cell 0 _ rfl
    have g1 := HAR.out.box.cell 1 _ rfl
    have glt := HAR.out.box.lt
    have flt := HAR.out.fl.2
    clear hown hnx
    by_cases hlt : k < pg
    case neg =>
      obtain rfl : pg = k := by omega
      have hkb : decide (pg < pg) = false := by simp
      go_wp2_with fail
      go_ret
      exact ⟨_, m, rfl, HM.out, Reads.of_own HO.out, H.out.below (by rw [HG.out]; exact HNX.out), by rw [HG.out]; exact HNX.out⟩
    have hkb : decide (k < pg) = true := by simpa using hlt
    have hcall := rfind_at HAR.out HL.out hn1 hn64 (k : Nat)
    rw [rfindL_eq _ (by omega)] at hcall
    cases hf : findL p.F (k : Nat) with
    | none =>
      rw [hf] at hcall
      have HC := Lib.hid hcall
      simp only [atI] at HC
      have HT := Lib.hid (rdirtyL_none hf)
      clear hcall hf
      go_wp2_with fail
      refine HC.out.mono ?_
      rintro e wz ⟨rfl, rfl⟩
      go_wp2_with fail
      go_roundw
      · exact ⟨k + 1, m, cb, bo, by omega, by go_num, rfl, Lib.hid (by rw [HT.out]; exact HM.out), by omega, by rw [HT.out]; exact HO.out, HNX.out⟩
      · simp [intOf]; omega
    | some i =>
      rw [hf] at hcall
      have HC := Lib.hid hcall
      simp only [atI] at HC
      have hin : i < n := by have := findL_lt hf; rw [HL.out] at this; exact this
      obtain ⟨x, hx, _, _⟩ := findL_some hf
      have hT := rdirtyL_some hf hx
      have x2 := HAR.out.cell (by omega) i x hx 2 _ rfl
      have x5 := HAR.out.cell (by omega) i x hx 5 _ rfl
      obtain ⟨pgx, bx, di, ma, rc, ls⟩ := x
      simp only at x2 x5 hT
      have hib : decide ((i : Int) ≥ 0) = true := by simp
      clear hcall hf hx
      cases di with
      | true =>
        have HT : Hid (rdirtyL p.F (k + 1) = rdirtyL p.F k ++ [((k : Int), rc)]) := Lib.hid (by rw [hT, if_pos rfl])
        clear hT
        go_wp2_with fail
        refine HC.out.mono ?_
        rintro e wz ⟨rfl, rfl⟩
        go_wp2_with (at_builtin; refine wpList_append_k drsOf (.tmp 30) (.tmp 41) rfl rfl (base := G) rfl (HO.out.alloc _) rfl rfl (news := [.int .i64 (k : Nat), .int .i64 rc]) (by intro j u hu; rw [Addr.add_lit, World.cell?_alloc_at _ _ _ _ (by simp)]; simpa using hu) (by intro u hu; simp at hu; rcases hu with rfl | rfl <;> rfl) (by omega) (by omega) (by simp; omega) (by omega) ?_; intro g2 cap2 w2 hown2 hgr2 hor2)
        have hbel2 : Below G w w2 := (HNX.out.alloc hsz _).trans ((GrowX.of_growC (Y := fun b => (Value.slice bo m cb).ownBlock = some b) hgr2 (fun k o h => h.1)).below (fun k hk => ⟨by simp; omega, fun e => by have := (HO.out.lt k e).1; omega⟩))
        have hown3 : w2.ownsRow G 45 2 (.slice (some ⟨g2, 0, none⟩) (m + 1) cap2) (m + 1) (dcells (rdirtyL p.F (k + 1))) := by rw [HT.out, dcells_append]; exact hown2
        have HR := Lib.hid (And.intro hown3 hbel2)
        clear hown2 hgr2 hor2 hown3 hbel2
        go_roundw
        · exact ⟨k + 1, m + 1, cap2, some ⟨g2, 0, none⟩, by omega, by go_num, rfl, Lib.hid (by rw [HT.out, List.length_append, HM.out]; rfl), by omega, HR.out.1, HR.out.2⟩
        · simp [intOf]; omega
      | false =>
        have HT : Hid (rdirtyL p.F (k + 1) = rdirtyL p.F k) := Lib.hid (by rw [hT, if_neg (by simp), List.append_nil])
        clear hT
        go_wp2_with fail
        refine HC.out.mono ?_
        rintro e wz ⟨rfl, rfl⟩
        go_wp2_with fail
        go_roundw
        · exact ⟨k + 1, m, cb, bo, by omega, by go_num, rfl, Lib.hid (by rw [HT.out]; exact HM.out), by omega, by rw [HT.out]; exact HO.out, HNX.out⟩
        · simp [intOf]; omega
end
theorem Dcs.atR {w : World} {v : Value} {n : Nat} {l : List (Int × Int)} (h : Reads 2 w v n (dcells l)) (k : Nat) (hk : k < n) (x : Int × Int) (hx : l[k]? = some x) :
    ∃ b o c, v = .slice (some ⟨b, o, none⟩) n c ∧ b < w.heap.size ∧ w.cell? ⟨b, o + k * 2, none⟩ = some (.int .i64 x.1) ∧ w.cell? ⟨b, o + k * 2 + 1, none⟩ = some (.int .i64 x.2) := by
  obtain ⟨ao, c, rfl, hl, hc, hr⟩ := h
  obtain ⟨b, o, rfl, hb, hcell⟩ := hr (by omega)
  obtain ⟨hi, he⟩ := List.getElem?_eq_some_iff.1 hx
  have at2 : ∀ (j : Nat) (u : Value), ([.int .i64 x.1, .int .i64 x.2] : List Value)[j]? = some u → (dcells l)[k * 2 + j]? = some u := fun j u hu =>
    flat_at (fun x : Int × Int => [.int .i64 x.1, .int .i64 x.2]) 2 (fun _ => rfl) l k hi j u (by rw [getElem!_pos l k hi, he]; exact hu)
  exact ⟨b, o, c, rfl, hb, hcell _ _ (at2 0 _ rfl), by rw [Nat.add_assoc]; exact hcell _ _ (at2 1 _ rfl)⟩
/-- the law's comparison of two equal lists -/
theorem same_dirty (l : List (Int × Int)) (m : Nat) (hl : l.length = m) (hm : m ≤ 1000000) (v1 v2 : Value) (w : World) (h1 : Reads 2 w v1 m (dcells l)) (h2 : Reads 2 w v2 m (dcells l)) :
    Calls Try.prog 23 #[v1, v2] w fun e w' => e = .returned (.bool true) ∧ Below w.heap.size w w' := by
  have H1 := Lib.hid h1
  have H2 := Lib.hid h2
  obtain ⟨a1, c1, rfl, _⟩ := h1
  obtain ⟨a2, c2, rfl, _⟩ := h2
  have HL := Lib.hid hl
  clear hl
  have hmb : ((m : Int) != (m : Int)) = false := by simp
  go_enter Try.func23, Try.ntmps23
  go_wp2_with fail
  go_loopw [5] (fun z wr => ∃ k : Nat, k ≤ m ∧ z = .int .i64 k ∧ Below w.heap.size w wr) (fun z _ => m - (intOf z).toNat)
  case atStart => exact ⟨0, Nat.zero_le _, rfl, Below.refl _ _⟩
  case round =>
    obtain ⟨k, hk, rfl, hb⟩ := hrel
    have HB := Lib.hid hb
    by_cases hkm : k < m
    case neg =>
      have hkb : decide (k < m) = false := by simpa using hkm
      clear hb
      go_wp2_with fail
      go_ret
      exact ⟨rfl, HB.out⟩
    have hkb : decide (k < m) = true := by simpa using hkm
    have hkl : k < l.length := by rw [HL.out]; exact hkm
    have hx : l[k]? = some l[k] := List.getElem?_eq_getElem hkl
    obtain ⟨b1, o1, c1', e1, hl1, p1, p2⟩ := Dcs.atR (H1.out.below hb (Nat.le_refl _)) k hkm _ hx
    obtain ⟨b2, o2, c2', e2, hl2, q1, q2⟩ := Dcs.atR (H2.out.below hb (Nat.le_refl _)) k hkm _ hx
    injection e1 with e11 e12 e13
    injection e2 with e21 e22 e23
    subst e11 e13 e21 e23
    generalize l[k] = x at *
    obtain ⟨x1, x2⟩ := x
    simp only at p1 p2 q1 q2
    have hs1 : (x1 == x1) = true := by simp
    have hs2 : (x2 == x2) = true := by simp
    clear hb e12 e22 hx hkl
    go_wp2_with fail
    go_quiet (fail)
    go_wp2
    go_roundw
    · exact ⟨k + 1, by omega, by go_num, HB.out.trans ⟨rfl, rfl, rfl, Nat.le_refl _, fun _ _ => rfl⟩⟩
    · simp [intOf]; omega

theorem strsOf : SliceOf Try.prog 57 9 (.string ByteArray.empty) 1 16 := ⟨Try.underlying57, by kernel_rfl, rfl, by decide⟩
theorem rfrsOf : SliceOf Try.prog 58 63 (.agg #[.int .i64 0, .string ByteArray.empty, .bool false, .bool false, .int .i64 0, .int .i64 0]) 6 48 := ⟨Try.underlying58, by kernel_rfl, rfl, by decide⟩
theorem pcells_succ (P : Nat → List UInt8) (k : Nat) : pcells P (k + 1) = pcells P k ++ [S8 (P k)] := by unfold pcells; rw [List.range_succ, List.map_append]; rfl
theorem own_slice {w : World} {base e K n : Nat} {v : Value} {xs : List Value} (h : w.ownsRow base e K v n xs) (hn : 0 < n) : ∃ g c, v = .slice (some ⟨g, 0, none⟩) n c := by
  rcases h.2 with ⟨rfl, h0⟩ | ⟨g, cap, cur, rfl, _⟩
  · omega
  · exact ⟨g, cap, rfl⟩
/-- New's way: the pool's struct at r, the pages' strings, the frames -/
structure RNew (w0 : World) (r : Nat) (bad er : Int) (vd vf : Value) (k j : Nat) (w : World) : Prop where
  box : Box w r [vd, vf, .int .i64 0, .int .i64 bad, .int .i64 er, .slice none 0 0, .int .i64 0]
  drow : w.ownsRow w0.heap.size 9 1 vd k (pcells P0 k)
  frow : w.ownsRow w0.heap.size 63 6 vf j (rcells (List.replicate j Fm.free))
  d1 : ∀ q, vd.ownBlock = some q → q ≠ r ∧ vf.ownBlock ≠ some q
  f1 : ∀ q, vf.ownBlock = some q → q ≠ r
  low : w0.heap.size ≤ r
  bel : Below w0.heap.size w0 w
set_option maxRecDepth 100000 in
set_option maxHeartbeats 3200000 in
theorem rnew_rv {W0 w : World} (hb0 : Below W0.heap.size W0 w) (n : Nat) (h1 : 1 ≤ n) (h2 : n ≤ 64) (pg : Nat) (hp1 : 1 ≤ pg) (hp2 : pg ≤ 1000) (bad er : Int) :
    Calls Try.prog 18 #[.int .i64 (pg : Nat), .int .i64 (n : Nat), .int .i64 bad, .int .i64 er] w fun e w' => ∃ r S, e = .returned (.tuple #[.pointer (some ⟨r, 0, none⟩), .int .i64 0]) ∧ RV W0 r n pg bad er (Pl.new n P0) [] S w' ∧ (∀ k, S k → w.heap.size ≤ k) ∧ Below w.heap.size w w' := by
  have hb1 : decide ((n : Int) < 1) = false := by simp; omega
  have hb2 : decide ((n : Int) > 64) = false := by simp; omega
  have hb3 : decide (64 < (n : Int)) = false := by simp; omega
  have hb4 : decide (64 < n) = false := by simp; omega
  have hb5 : decide (n < 1) = false := by simp; omega
  have HB0 := Lib.hid hb0
  have hmk := make512
  have hpz : pageK 0 0 0 = zpage := by unfold pageK zpage; rw [List.range_zero, List.map_nil, List.nil_append, Nat.sub_zero]
  have hrd : Reads 1 ((w.alloc (.cells #[.slice none 0 0, .slice none 0 0, .int .i64 0, .int .i64 bad, .int .i64 er, .slice none 0 0, .int .i64 0] 60)).alloc (.cells Z512 5)) (.slice (some ⟨w.heap.size + 1, 0, none⟩) 512 512) 512 (zpage.map B) := by
    have h := Buf.zero512 (w.alloc (.cells #[.slice none 0 0, .slice none 0 0, .int .i64 0, .int .i64 bad, .int .i64 er, .slice none 0 0, .int .i64 0] 60)) 0 0
    rw [hpz] at h
    have e : (w.alloc (.cells #[.slice none 0 0, .slice none 0 0, .int .i64 0, .int .i64 bad, .int .i64 er, .slice none 0 0, .int .i64 0] 60)).heap.size = w.heap.size + 1 := by simp
    rw [e] at h
    exact h.reads512 List.length_replicate
  have hcv := run_str_reads Try.underlying37 Try.underlying5 Try.underlying9 zpage hrd
  clear hrd
  clear hb0 hpz
  go_enter Try.func18, Try.ntmps18
  go_wp2_with fail
  clear hcv
  have hbx := Box.new w #[.slice none 0 0, .slice none 0 0, .int .i64 0, .int .i64 bad, .int .i64 er, .slice none 0 0, .int .i64 0] 60 rfl
  have hst : ∃ r, r = w.heap.size ∧ RNew w r bad er (.slice none 0 0) (.slice none 0 0) 0 0 ((w.alloc (.cells #[.slice none 0 0, .slice none 0 0, .int .i64 0, .int .i64 bad, .int .i64 er, .slice none 0 0, .int .i64 0] 60)).alloc (.cells Z512 5)) := by
    refine ⟨_, rfl, hbx.alloc _, World.ownsRow_nil _ _ _ _, World.ownsRow_nil _ _ _ _, (fun q e => by cases e), (fun q e => by cases e), Nat.le_refl _, ?_⟩
    exact ((Below.refl _ _).alloc (Nat.le_refl _) _).alloc (by simp) _
  obtain ⟨r, hr, hn0⟩ := hst
  rw [← hr]
  have HN0 := Lib.hid hn0
  clear hbx hr hn0 hmk
  generalize (w.alloc (.cells #[.slice none 0 0, .slice none 0 0, .int .i64 0, .int .i64 bad, .int .i64 er, .slice none 0 0, .int .i64 0] 60)).alloc (.cells Z512 5) = w1 at HN0 ⊢
  go_loopw [12] (fun z wr => ∃ (k : Nat) (vd : Value), k ≤ pg ∧ z = .int .i64 k ∧ RNew w r bad er vd (.slice none 0 0) k 0 wr) (fun z _ => pg - (intOf z).toNat)
  case atStart => exact ⟨0, _, Nat.zero_le _, rfl, HN0.out⟩
  case round =>
    obtain ⟨k, vd, hk, rfl, hst⟩ := hrel
    have HS := Lib.hid hst
    obtain ⟨ad, cd, evd⟩ := own_shape hst.drow
    subst evd
    have g0 := hst.box.cell 0 _ rfl
    have gfz := hst.box.free
    have glt := hst.box.lt
    have hws := hst.bel.size
    clear hst HN0
    by_cases hkn : k < pg
    case pos =>
      have hkb : decide ((k : Int) < (pg : Int)) = true := by simp; omega
      go_wp2_with (at_builtin; refine wpList_append_k strsOf (.tmp 35) (.tmp 37) rfl rfl (base := w.heap.size) rfl (HS.out.drow.alloc _) rfl rfl (news := [.string ⟨zpage.toArray⟩]) (by intro j u hu; rw [Addr.add_lit, World.cell?_alloc_at _ _ _ _ (by simp)]; simpa using hu) (by intro u hu; simp at hu; subst hu; rfl) (by omega) (by omega) (by simp; omega) (by omega) ?_; intro g2 cap2 w2 hown2 hgr2 hor2; have hgx : GrowX (fun b => (Value.slice ad k cd).ownBlock = some b) wr w2 := ((grow_below ((Below.refl _ _).alloc (Nat.le_refl _) _) : GrowX (fun _ => False) wr _).mono (fun _ h => h.elim)).trans (GrowX.of_growC hgr2 (fun k o h => h.1)); have hbx2 := HS.out.box.growx hgx (fun e => (HS.out.d1 r e).1 rfl); have g02 := hbx2.cell 0 _ rfl; have gfz2 := hbx2.free; have glt2 := hbx2.lt; have HX2 := Lib.hid hbx2; have HGX := Lib.hid hgx; have HOW := Lib.hid hown2; have HOR := Lib.hid hor2; clear hbx2 hgx hown2 hgr2 hor2)
      go_roundw
      · have k3 := growX_setCell w2 r 0 (.slice (some ⟨g2, 0, none⟩) (k + 1) cap2)
        have hg2 : ∀ q, (Value.slice (some ⟨g2, 0, none⟩) (k + 1) cap2).ownBlock = some q → q ≠ r := fun q e => by
          have e2 : g2 = q := by simpa [Value.ownBlock] using e
          subst e2
          rcases HOR.out with h | h
          · exact (HS.out.d1 g2 h).1
          · have h' : wr.heap.size + 1 ≤ g2 := by simpa using h
            omega
        refine ⟨k + 1, _, by omega, by go_num, HX2.out.setCell 0 _, ?_, World.ownsRow_nil _ _ _ _, (fun q e => ⟨hg2 q e, by simp [Value.ownBlock]⟩), (fun q e => by cases e), HS.out.low, ?_⟩
        · rw [pcells_succ]
          exact own_growx HOW.out k3 (fun q e => hg2 q e)
        · refine HS.out.bel.trans ((HGX.out.below (B := w.heap.size) (fun k hk => ⟨by omega, fun e => by have := (HS.out.drow.lt k e).1; omega⟩)).trans (k3.below (fun k hk => ⟨by have := HGX.out.size; omega, fun e => by have := HS.out.low; omega⟩)))
      · simp [intOf]; omega
    have hkb : decide ((k : Int) < (pg : Int)) = false := by simp; omega
    obtain rfl : pg = k := by omega
    go_wp2_with fail
    clear g0 gfz glt
    generalize Value.slice ad pg cd = vd at HS
    go_loopw [13] (fun z wx => ∃ (j : Nat) (vf : Value), j ≤ n ∧ z = .int .i64 j ∧ RNew w r bad er vd vf pg j wx) (fun z _ => n - (intOf z).toNat)
    case atStart => exact ⟨0, _, Nat.zero_le _, rfl, HS.out⟩
    case round =>
      obtain ⟨j, vf, hj, rfl, hst⟩ := hrel
      have HT := Lib.hid hst
      obtain ⟨af, cf, evf⟩ := own_shape hst.frow
      subst evf
      have g1 := hst.box.cell 1 _ rfl
      have gfz := hst.box.free
      have glt := hst.box.lt
      have hws2 := hst.bel.size
      clear hst
      by_cases hjn : j < n
      case pos =>
        have hkb2 : decide ((j : Int) < (n : Int)) = true := by simp; omega
        go_wp2_with (at_builtin; refine wpList_append_k rfrsOf (.tmp 50) (.tmp 52) rfl rfl (base := w.heap.size) rfl (HT.out.frow.alloc _) rfl rfl (news := [.int .i64 (-1), .string ⟨#[]⟩, .bool false, .bool false, .int .i64 0, .int .i64 0]) (by intro j u hu; rw [Addr.add_lit, World.cell?_alloc_at _ _ _ _ (by simp)]; simpa using hu) (by intro u hu; simp at hu; rcases hu with rfl | rfl | rfl | rfl | rfl | rfl <;> rfl) (by omega) (by omega) (by simp; omega) (by omega) ?_; intro g2 cap2 w2 hown2 hgr2 hor2; have hgx : GrowX (fun b => (Value.slice af j cf).ownBlock = some b) wr w2 := ((grow_below ((Below.refl _ _).alloc (Nat.le_refl _) _) : GrowX (fun _ => False) wr _).mono (fun _ h => h.elim)).trans (GrowX.of_growC hgr2 (fun k o h => h.1)); have hbx2 := HT.out.box.growx hgx (fun e => HT.out.f1 r e rfl); have g02 := hbx2.cell 1 _ rfl; have gfz2 := hbx2.free; have glt2 := hbx2.lt; have HX2 := Lib.hid hbx2; have HGX := Lib.hid hgx; have HOW := Lib.hid hown2; have HOR := Lib.hid hor2; clear hbx2 hgx hown2 hgr2 hor2)
        go_roundw
        · have k3 := growX_setCell w2 r 1 (.slice (some ⟨g2, 0, none⟩) (j + 1) cap2)
          have hg2 : ∀ q, (Value.slice (some ⟨g2, 0, none⟩) (j + 1) cap2).ownBlock = some q → q ≠ r ∧ vd.ownBlock ≠ some q := fun q e => by
            have e2 : g2 = q := by simpa [Value.ownBlock] using e
            subst e2
            rcases HOR.out with h | h
            · exact ⟨HT.out.f1 g2 h, fun e => (HT.out.d1 g2 e).2 h⟩
            · have h' : wr.heap.size + 1 ≤ g2 := by simpa using h
              exact ⟨by omega, fun e => by have := (HT.out.drow.lt g2 e).2; omega⟩
          refine ⟨j + 1, _, by omega, by go_num, HX2.out.setCell 1 _, ?_, ?_, (fun q e => ⟨(HT.out.d1 q e).1, fun e2 => (hg2 q e2).2 e⟩), (fun q e => (hg2 q e).1), HT.out.low, ?_⟩
          · exact own_growx (own_growx HT.out.drow HGX.out (fun q e h => (HT.out.d1 q e).2 h)) k3 (fun q e => (HT.out.d1 q e).1)
          · have e : rcells (List.replicate (j + 1) Fm.free) = rcells (List.replicate j Fm.free) ++ [.int .i64 (-1), .string ⟨#[]⟩, .bool false, .bool false, .int .i64 0, .int .i64 0] := by
              rw [List.replicate_succ', rcells_append]; rfl
            rw [e]
            exact own_growx HOW.out k3 (fun q e => (hg2 q e).1)
          · refine HT.out.bel.trans ((HGX.out.below (B := w.heap.size) (fun k hk => ⟨by omega, fun e => by have := (HT.out.frow.lt k e).1; omega⟩)).trans (k3.below (fun k hk => ⟨by have := HGX.out.size; omega, fun e => by have := HT.out.low; omega⟩)))
        · simp [intOf]; omega
      have hkb2 : decide ((j : Int) < (n : Int)) = false := by simp; omega
      obtain rfl : n = j := by omega
      go_wp2_with fail
      go_ret2
      obtain ⟨db, cd2, rfl⟩ := own_slice HT.out.drow (by omega)
      generalize hvf : Value.slice af n cf = vf at HT
      obtain ⟨fb, cf2, rfl⟩ := own_slice HT.out.frow (by omega)
      have hlow := HB0.out.size
      have hdb : db ≠ r ∧ (Value.slice (some ⟨fb, 0, none⟩) n cf2).ownBlock ≠ some db := HT.out.d1 db rfl
      have hfb := HT.out.f1 fb rfl
      refine ⟨r, _, rfl, ⟨db, cd2, fb, cf2, .slice none 0 0, ⟨HT.out.box, own_base HT.out.drow hlow, own_base HT.out.frow hlow, World.ownsRow_nil _ _ _ _, fun e => hdb.1 e.symm, fun e => hfb e.symm, fun e => hdb.2 (by rw [e]; rfl), fun q e => by cases e⟩, Nat.le_trans hlow HT.out.low, HB0.out.trans (HT.out.bel.mono hlow), newE_ok h1 h2, by simp, rfl⟩, ?_, HT.out.bel⟩
      rintro k (e | e | e | e)
      · rw [e]; exact HT.out.low
      · rw [e]; exact (HT.out.drow.lt db rfl).1
      · rw [e]; exact (HT.out.frow.lt fb rfl).1
      · cases e
theorem rnew_bad (w : World) (pg m bad er : Int) (hm : m < 1 ∨ 64 < m) :
    Calls Try.prog 18 #[.int .i64 pg, .int .i64 m, .int .i64 bad, .int .i64 er] w fun e w' => e = .returned (.tuple #[.pointer none, .int .i64 1]) ∧ w' = w := by
  by_cases h1 : m < 1
  · have hb1 : decide (m < 1) = true := by simpa using h1
    clear hm h1
    go_enter Try.func18, Try.ntmps18
    go_wp2_with fail
    go_ret2
    exact ⟨rfl, rfl⟩
  · have hb1 : decide (m < 1) = false := by simpa using h1
    have hb2 : decide (m > 64) = true := by simp; omega
    have hb3 : decide (64 < m) = true := by simp; omega
    clear hm h1
    go_enter Try.func18, Try.ntmps18
    go_wp2_with fail
    go_ret2
    exact ⟨rfl, rfl⟩

def SamePg (F F' : List Fm) : Prop := F'.length = F.length ∧ ∀ (i : Nat) (x : Fm), F[i]? = some x → ∃ y, F'[i]? = some y ∧ y.page = x.page
theorem SamePg.refl (F : List Fm) : SamePg F F := ⟨rfl, fun i x h => ⟨x, h, rfl⟩⟩
theorem SamePg.of {F F' : List Fm} (h : SameF F F') : SamePg F F' := ⟨h.1, fun i x hx => by obtain ⟨m, hm⟩ := h.2 i x hx; exact ⟨_, hm, rfl⟩⟩
theorem SamePg.trans {F G H : List Fm} (h : SamePg F G) (k : SamePg G H) : SamePg F H := ⟨k.1.trans h.1, fun i x hx => by
  obtain ⟨y, hy, e⟩ := h.2 i x hx
  obtain ⟨z, hz, e2⟩ := k.2 i y hy
  exact ⟨z, hz, e2.trans e⟩⟩
theorem SamePg.back {F F' : List Fm} (h : SamePg F F') {i : Nat} {y : Fm} (hy : F'[i]? = some y) : ∃ x, F[i]? = some x ∧ y.page = x.page := by
  have hi : i < F.length := by rw [← h.1]; exact (List.getElem?_eq_some_iff.1 hy).1
  obtain ⟨z, hz, e⟩ := h.2 i F[i] (List.getElem?_eq_getElem hi)
  rw [hy] at hz
  exact ⟨F[i], List.getElem?_eq_getElem hi, by rw [Option.some.inj hz, e]⟩
theorem SamePg.uniq {F F' : List Fm} (h : SamePg F F') (hu : UniqF F) : UniqF F' := fun i j x y hx hy hij h0 => by
  obtain ⟨a, ha, e1⟩ := h.back hx
  obtain ⟨b, hb, e2⟩ := h.back hy
  rw [e1] at h0 ⊢
  rw [e2]
  exact hu i j a b ha hb hij h0
theorem SamePg.set {F : List Fm} {i : Nat} {x y : Fm} (hx : F[i]? = some x) (h : y.page = x.page) : SamePg F (F.set i y) := by
  refine ⟨List.length_set, fun j z hz => ?_⟩
  by_cases e : i = j
  · subst e
    rw [hx] at hz
    obtain rfl := Option.some.inj hz
    exact ⟨y, List.getElem?_set_self (List.getElem?_eq_some_iff.1 hx).1, h⟩
  · exact ⟨z, by rw [List.getElem?_set_ne e]; exact hz, rfl⟩
theorem SamePg.no {F F' : List Fm} (h : SamePg F F') {q : Int} (hno : ∀ x ∈ F, x.page ≠ q) : ∀ x ∈ F', x.page ≠ q := fun y hy => by
  obtain ⟨i, hi⟩ := mem_at hy
  obtain ⟨x, hx, e⟩ := h.back hi
  rw [e]; exact hno x (List.mem_of_getElem? hx)
/-- what one call does to the pool -/
structure PSt (p p' : Pl) (fo fo' : List Int) : Prop where
  uq : UniqF p.F → UniqF p'.F
  wr : p'.wr ≤ p.wr + 1
  fo : fo'.length ≤ fo.length + 1
theorem PSt.refl (p : Pl) (fo : List Int) : PSt p p fo fo := ⟨id, Nat.le_succ _, Nat.le_succ _⟩
theorem clean_st (bad er : Int) (p : Pl) (fo : List Int) {i : Nat} {x : Fm} (hx : p.F[i]? = some x) : PSt p (p.clean (stepP bad er) fo i).2.1 fo (p.clean (stepP bad er) fo i).2.2 ∧ SamePg p.F (p.clean (stepP bad er) fo i).2.1.F := by
  have hg := getD_at hx
  unfold Pl.clean
  rw [hg]
  split
  · split
    · exact ⟨⟨fun hu => (SamePg.set (y := { x with dirty := false }) hx rfl).uniq hu, Nat.le_refl _, by simp [stepP]⟩, SamePg.set hx rfl⟩
    · exact ⟨⟨id, Nat.le_succ _, by simp [stepP]⟩, SamePg.refl _⟩
  · exact ⟨PSt.refl _ _, SamePg.refl _⟩
theorem uniq_free {F : List Fm} (hu : UniqF F) (i : Nat) : UniqF (F.set i Fm.free) := uniq_set hu (fun h => absurd h (by decide))
theorem evict_st (bad er : Int) (p : Pl) (fo : List Int) (m : Int) : PSt p (p.evict (stepP bad er) fo m).2.1 fo (p.evict (stepP bad er) fo m).2.2 := by
  unfold Pl.evict
  cases hf : findL p.F m with
  | none => exact PSt.refl _ _
  | some i =>
    obtain ⟨x, hx, _, _⟩ := findL_some hf
    obtain ⟨h1, h2⟩ := clean_st bad er p fo hx
    simp only []
    split
    · exact ⟨fun hu => uniq_free (h1.uq hu) i, h1.wr, h1.fo⟩
    · exact h1
theorem free_st (bad er : Int) {p : Pl} (fo : List Int) {pg n : Nat} (hok : p.ok pg n) : PSt p (p.free (stepP bad er) fo).2.2.1 fo (p.free (stepP bad er) fo).2.2.2 ∧
    (∀ q : Nat, (∀ x ∈ p.F, x.page ≠ (q : Int)) → ∀ x ∈ (p.free (stepP bad er) fo).2.2.1.F, x.page ≠ (q : Int)) := by
  unfold Pl.free
  cases hf : freeL p.F with
  | some i => exact ⟨PSt.refl _ _, fun q h => h⟩
  | none =>
    have hs : SameF p.F p.swept.1 := sweep_same _ _ _
    have hi : p.swept.2.2 < p.F.length := sweep_lt (by rw [hok.len]; have := hok.n1; omega) _ _ _ (by rw [hok.len]; exact hok.hand)
    obtain ⟨m, hm⟩ := hs.2 _ _ (List.getElem?_eq_getElem hi)
    obtain ⟨h1, h2⟩ := clean_st bad er { p with F := p.swept.1, hand := p.swept.2.1 } fo hm
    have hss := (SamePg.of hs).trans h2
    simp only [Pl.freed]
    generalize Pl.clean (stepP bad er) { p with F := p.swept.1, hand := p.swept.2.1 } fo p.swept.2.2 = c at *
    split
    · refine ⟨⟨fun hu => uniq_free (hss.uniq hu) _, h1.wr, h1.fo⟩, fun q hno z hz => ?_⟩
      rcases List.mem_or_eq_of_mem_set hz with hz | rfl
      · exact hss.no hno z hz
      · show ¬ (-1 : Int) = _; omega
    · exact ⟨⟨fun hu => hss.uniq hu, h1.wr, h1.fo⟩, fun q hno => hss.no hno⟩
theorem get_st (bad er : Int) {p : Pl} (fo : List Int) {pg n : Nat} (hok : p.ok pg n) (m : Int) : PSt p (p.get pg (stepP bad er) fo m).2.2.1 fo (p.get pg (stepP bad er) fo m).2.2.2 := by
  unfold Pl.get
  cases hf : findL p.F m with
  | some i =>
    obtain ⟨x, hx, _, _⟩ := findL_some hf
    simp only [getD_at hx]
    exact ⟨fun hu => (SamePg.set (y := { x with marked := true }) hx rfl).uniq hu, Nat.le_succ _, Nat.le_succ _⟩
  | none =>
    simp only []
    split
    · next hm =>
      obtain ⟨h1, h2⟩ := free_st bad er fo hok
      obtain ⟨q, rfl⟩ := Int.eq_ofNat_of_zero_le hm.1
      unfold Pl.got
      split
      · exact ⟨fun hu => uniq_set (h1.uq hu) (fun _ j z hz _ => h2 q (fun x hx => findL_none hf (by omega) hx) z (List.mem_of_getElem? hz)), h1.wr, h1.fo⟩
      · exact h1
    · exact PSt.refl _ _
theorem put_st (bad er : Int) {p : Pl} (fo : List Int) {pg n : Nat} (hok : p.ok pg n) (m : Int) (b : List UInt8) (l : Int) : PSt p (p.put pg (stepP bad er) fo m b l).2.1 fo (p.put pg (stepP bad er) fo m b l).2.2 := by
  unfold Pl.put
  split
  · next hm =>
    cases hf : findL p.F m with
    | some i =>
      obtain ⟨x, hx, hp, _⟩ := findL_some hf
      exact ⟨fun hu => (SamePg.set hx (by simp [hp])).uniq hu, Nat.le_succ _, Nat.le_succ _⟩
    | none =>
      obtain ⟨h1, h2⟩ := free_st bad er fo hok
      obtain ⟨q, rfl⟩ := Int.eq_ofNat_of_zero_le hm.1
      simp only []
      split
      · exact ⟨fun hu => uniq_set (h1.uq hu) (fun _ j z hz _ => h2 q (fun x hx => findL_none hf (by omega) hx) z (List.mem_of_getElem? hz)), h1.wr, h1.fo⟩
      · exact h1
  · exact PSt.refl _ _
/-- what the document's Dirty tells is what the program's tells -/
theorem rdirtyL_lt (F : List Fm) : ∀ (n : Nat) (x : Int × Int), x ∈ rdirtyL F n → 0 ≤ x.1 ∧ x.1 < (n : Int) := by
  intro n x h
  unfold rdirtyL at h
  obtain ⟨q, hq, e⟩ := List.mem_filterMap.1 h
  rw [List.mem_range] at hq
  split at e
  · split at e
    · obtain rfl := Option.some.inj e
      exact ⟨by show (0 : Int) ≤ (q : Int); omega, by show (q : Int) < (n : Int); omega⟩
    · cases e
  · cases e
theorem rdirtyL_sorted (F : List Fm) : ∀ n, (rdirtyL F n).Pairwise fun a b => a.1 < b.1
  | 0 => List.Pairwise.nil
  | n + 1 => by
    cases hf : findL F (n : Nat) with
    | none => rw [rdirtyL_none hf]; exact rdirtyL_sorted F n
    | some i =>
      obtain ⟨x, hx, _, _⟩ := findL_some hf
      rw [rdirtyL_some hf hx]
      split
      · rw [List.pairwise_append]
        refine ⟨rdirtyL_sorted F n, List.pairwise_singleton _ _, fun a ha b hb => ?_⟩
        rw [List.mem_singleton] at hb
        subst hb
        exact (rdirtyL_lt F n a ha).2
      · rw [List.append_nil]; exact rdirtyL_sorted F n
theorem dirty_same {p : Pl} {pg n : Nat} (hok : p.ok pg n) (hu : UniqF p.F) {c : List (Int × Int)} (hc : IsDirty p.F c) : c = rdirtyL p.F pg := by
  refine key_ext (dirty_strict hu (fun x hx hd => (hok.fr x hx).2 hd) hc) (rdirtyL_sorted p.F pg) (fun x => ?_)
  rw [hc.perm.mem_iff, dirtyRaw, List.mem_map]
  unfold rdirtyL
  rw [List.mem_filterMap]
  constructor
  · rintro ⟨y, hy, rfl⟩
    obtain ⟨hy1, hy2⟩ := List.mem_filter.1 hy
    obtain ⟨q, hq⟩ := Int.eq_ofNat_of_zero_le ((hok.fr y hy1).2 hy2)
    obtain ⟨i, hi⟩ := findL_of (by omega) hy1 hq
    obtain ⟨z, hz, hzp, _⟩ := findL_some hi
    obtain ⟨j, hj⟩ := mem_at hy1
    have hij : j = i := by
      apply Classical.byContradiction
      intro hne
      exact hu j i y z hj hz hne (by omega) (by rw [hq, hzp])
    subst hij
    have hyz : z = y := Option.some.inj (hz.symm.trans hj)
    subst hyz
    refine ⟨q, List.mem_range.2 (by have := ((hok.fr z hy1).1 (by omega)).1; omega), ?_⟩
    rw [hi]
    simp only [getD_at hz]
    rw [if_pos hy2, hq]
  · rintro ⟨q, _, e⟩
    split at e
    · next i hi =>
      obtain ⟨z, hz, hzp, _⟩ := findL_some hi
      rw [getD_at hz] at e
      split at e
      · next hd =>
        obtain rfl := Option.some.inj e
        exact ⟨z, List.mem_filter.2 ⟨List.mem_of_getElem? hz, hd⟩, by rw [hzp]⟩
      · cases e
    · cases e
theorem UniqF.new (n : Nat) : UniqF (List.replicate n Fm.free) := fun i j x y hx hy hij h0 => by
  rw [List.eq_of_mem_replicate (List.mem_of_getElem? hx)] at h0
  exact absurd h0 (by decide)
/-- the variable forced at tb, the variable bad at bb -/
def PF (W0 : World) (tb bb : Nat) (bad : Int) : List Int → (Nat → Prop) → World → Prop := fun fo S w =>
  ∃ vo : Value, Box w tb [vo] ∧ Box w bb [.int .i64 bad] ∧ w.ownsRow W0.heap.size 3 1 vo fo.length (fo.map (Value.int .i64)) ∧ W0.heap.size ≤ tb ∧ W0.heap.size ≤ bb ∧ tb ≠ bb ∧ (∀ q, vo.ownBlock = some q → q ≠ tb ∧ q ≠ bb) ∧ Below W0.heap.size W0 w ∧ S = fun k => k = tb ∨ k = bb ∨ vo.ownBlock = some k
set_option maxRecDepth 100000 in
set_option maxHeartbeats 1600000 in
theorem force_plays (W0 : World) (tb bb : Nat) (bad : Int) : ForceOf W0 17 #[.pointer (some ⟨tb, 0, none⟩), .pointer (some ⟨bb, 0, none⟩)] (PF W0 tb bb bad) (stepP bad 60) (fun fo => fo.length + 1 ≤ 1000000) where
  enter := enters_of Try.func17 (by kernel_rfl) rfl
  ans s S w l h hs := by
    obtain ⟨vo, h1, h2, h3, h4, h5, h6, h7, h8, rfl⟩ := h
    show Calls Try.prog _ #[.int .i64 l, .pointer (some ⟨tb, 0, none⟩), .pointer (some ⟨bb, 0, none⟩)] w _
    obtain ⟨n, hn⟩ : ∃ n, s.length = n := ⟨_, rfl⟩
    replace hs : n + 1 ≤ 1000000 := by rw [← hn]; exact hs
    rw [hn] at h3
    obtain ⟨ao, co, evo⟩ := own_shape h3
    subst evo
    have c0 := h1.cell 0 _ rfl
    have cf := h1.free
    have clt := h1.lt
    have d0 := h2.cell 0 _ rfl
    have dlt := h2.lt
    have hws := h8.size
    have HN := Lib.hid hn
    have H1 := Lib.hid h1
    have H2 := Lib.hid h2
    have H3 := Lib.hid h3
    have H7 := Lib.hid h7
    have H8 := Lib.hid h8
    clear hn h1 h2 h3 h7 h8
    go_enter Try.func17, Try.ntmps17
    by_cases hl : l = bad
    · have hlb : (l == bad) = true := by simpa using hl
      have HRE : Hid ((stepP bad 60 s l).1 = 60) := Lib.hid (by show (if l = bad then (60 : Int) else 0) = 60; rw [if_pos hl])
      clear hl
      go_wp2_with (at_builtin; refine wpList_append_k intsOf5 (.tmp 5) (.tmp 7) rfl rfl (base := W0.heap.size) rfl (H3.out.alloc _) rfl rfl (news := [.int .i64 l]) (by intro j u hu; rw [Addr.add_lit, World.cell?_alloc_at _ _ _ _ (by simp)]; simpa using hu) (by intro u hu; simp at hu; subst hu; rfl) (by omega) (by omega) (by simp; omega) (by omega) ?_; intro g2 cap2 w2 hown2 hgr2 hor2; have hgx : GrowX (fun b => (Value.slice ao n co).ownBlock = some b) w w2 := ((grow_below ((Below.refl _ _).alloc (Nat.le_refl _) _) : GrowX (fun _ => False) w _).mono (fun _ h => h.elim)).trans (GrowX.of_growC hgr2 (fun k o h => h.1)); have hbx2 := H1.out.growx hgx (fun e => (H7.out tb e).1 rfl); have c02 := hbx2.cell 0 _ rfl; have cf2 := hbx2.free; have clt2 := hbx2.lt; have hby2 := H2.out.growx hgx (fun e => (H7.out bb e).2 rfl); have d02 := hby2.cell 0 _ rfl; have dlt2 := hby2.lt; have HX2 := Lib.hid hbx2; have HY2 := Lib.hid hby2; have HGX := Lib.hid hgx; have HOW := Lib.hid hown2; have HOR := Lib.hid hor2; clear hbx2 hby2 hgx hown2 hgr2 hor2)
      go_ret
      have k3 := growX_setCell w2 tb 0 (.slice (some ⟨g2, 0, none⟩) (n + 1) cap2)
      have hg2 : ∀ q, (Value.slice (some ⟨g2, 0, none⟩) (n + 1) cap2).ownBlock = some q → q ≠ tb ∧ q ≠ bb := fun q e => by
        have e2 : g2 = q := by simpa [Value.ownBlock] using e
        subst e2
        rcases HOR.out with h | h
        · exact H7.out g2 h
        · have h' : w.heap.size + 1 ≤ g2 := by simpa using h
          exact ⟨by omega, by omega⟩
      have hB2 := HGX.out.below (B := W0.heap.size) (fun k hk => ⟨by omega, fun e => by have := (H3.out.lt k e).1; omega⟩)
      have hown3 := own_growx HOW.out k3 (fun q e => (hg2 q e).1)
      refine ⟨_, by rw [HRE.out]; rfl, ⟨.slice (some ⟨g2, 0, none⟩) (n + 1) cap2, HX2.out.setCell 0 _, HY2.out.growx k3 (fun e => h6 e.symm), ?_, h4, h5, h6, hg2, H8.out.trans (hB2.trans (k3.below (fun k hk => ⟨by have := HGX.out.size; omega, fun e => by omega⟩))), rfl⟩, ?_⟩
      · have e1 : (stepP bad 60 s l).2.length = n + 1 := by show (s ++ [l]).length = n + 1; rw [List.length_append, HN.out]; rfl
        have e2 : (stepP bad 60 s l).2.map (Value.int .i64) = s.map (Value.int .i64) ++ [.int .i64 l] := by show (s ++ [l]).map _ = _; rw [List.map_append]; rfl
        rw [e1, e2]
        exact hown3
      · refine ⟨(HGX.out.mono (fun k e => .inr (.inr e))).trans (k3.mono (fun k e => .inl e)), ?_⟩
        rintro k (e | e | e)
        · exact .inl (.inl e)
        · exact .inl (.inr (.inl e))
        · have e2 : g2 = k := by simpa [Value.ownBlock] using e
          subst e2
          rcases HOR.out with h | h
          · exact .inl (.inr (.inr h))
          · have h' : w.heap.size + 1 ≤ g2 := by simpa using h
            exact .inr (by omega)
    · have hlb : (l == bad) = false := by simpa using hl
      have HRE : Hid ((stepP bad 60 s l).1 = 0) := Lib.hid (by show (if l = bad then (60 : Int) else 0) = 0; rw [if_neg hl])
      clear hl
      go_wp2_with (at_builtin; refine wpList_append_k intsOf5 (.tmp 5) (.tmp 7) rfl rfl (base := W0.heap.size) rfl (H3.out.alloc _) rfl rfl (news := [.int .i64 l]) (by intro j u hu; rw [Addr.add_lit, World.cell?_alloc_at _ _ _ _ (by simp)]; simpa using hu) (by intro u hu; simp at hu; subst hu; rfl) (by omega) (by omega) (by simp; omega) (by omega) ?_; intro g2 cap2 w2 hown2 hgr2 hor2; have hgx : GrowX (fun b => (Value.slice ao n co).ownBlock = some b) w w2 := ((grow_below ((Below.refl _ _).alloc (Nat.le_refl _) _) : GrowX (fun _ => False) w _).mono (fun _ h => h.elim)).trans (GrowX.of_growC hgr2 (fun k o h => h.1)); have hbx2 := H1.out.growx hgx (fun e => (H7.out tb e).1 rfl); have c02 := hbx2.cell 0 _ rfl; have cf2 := hbx2.free; have clt2 := hbx2.lt; have hby2 := H2.out.growx hgx (fun e => (H7.out bb e).2 rfl); have d02 := hby2.cell 0 _ rfl; have dlt2 := hby2.lt; have HX2 := Lib.hid hbx2; have HY2 := Lib.hid hby2; have HGX := Lib.hid hgx; have HOW := Lib.hid hown2; have HOR := Lib.hid hor2; clear hbx2 hby2 hgx hown2 hgr2 hor2)
      go_ret
      have k3 := growX_setCell w2 tb 0 (.slice (some ⟨g2, 0, none⟩) (n + 1) cap2)
      have hg2 : ∀ q, (Value.slice (some ⟨g2, 0, none⟩) (n + 1) cap2).ownBlock = some q → q ≠ tb ∧ q ≠ bb := fun q e => by
        have e2 : g2 = q := by simpa [Value.ownBlock] using e
        subst e2
        rcases HOR.out with h | h
        · exact H7.out g2 h
        · have h' : w.heap.size + 1 ≤ g2 := by simpa using h
          exact ⟨by omega, by omega⟩
      have hB2 := HGX.out.below (B := W0.heap.size) (fun k hk => ⟨by omega, fun e => by have := (H3.out.lt k e).1; omega⟩)
      have hown3 := own_growx HOW.out k3 (fun q e => (hg2 q e).1)
      refine ⟨_, by rw [HRE.out]; rfl, ⟨.slice (some ⟨g2, 0, none⟩) (n + 1) cap2, HX2.out.setCell 0 _, HY2.out.growx k3 (fun e => h6 e.symm), ?_, h4, h5, h6, hg2, H8.out.trans (hB2.trans (k3.below (fun k hk => ⟨by have := HGX.out.size; omega, fun e => by omega⟩))), rfl⟩, ?_⟩
      · have e1 : (stepP bad 60 s l).2.length = n + 1 := by show (s ++ [l]).length = n + 1; rw [List.length_append, HN.out]; rfl
        have e2 : (stepP bad 60 s l).2.map (Value.int .i64) = s.map (Value.int .i64) ++ [.int .i64 l] := by show (s ++ [l]).map _ = _; rw [List.map_append]; rfl
        rw [e1, e2]
        exact hown3
      · refine ⟨(HGX.out.mono (fun k e => .inr (.inr e))).trans (k3.mono (fun k e => .inl e)), ?_⟩
        rintro k (e | e | e)
        · exact .inl (.inl e)
        · exact .inl (.inr (.inl e))
        · have e2 : g2 = k := by simpa [Value.ownBlock] using e
          subst e2
          rcases HOR.out with h | h
          · exact .inl (.inr (.inr h))
          · have h' : w.heap.size + 1 ≤ g2 := by simpa using h
            exact .inr (by omega)
  grow s S X w w' h hg hX hB := by
    obtain ⟨vo, h1, h2, h3, h4, h5, h6, h7, h8, rfl⟩ := h
    exact ⟨vo, h1.growx hg (fun hx => hX tb (.inl rfl) hx), h2.growx hg (fun hx => hX bb (.inr (.inl rfl)) hx), own_growx h3 hg (fun q e hx => hX q (.inr (.inr e)) hx), h4, h5, h6, h7, hB, rfl⟩
  lt s S w h := by
    obtain ⟨vo, h1, h2, h3, h4, h5, h6, h7, h8, rfl⟩ := h
    rintro k (rfl | rfl | e)
    · exact ⟨h4, h1.lt⟩
    · exact ⟨h5, h2.lt⟩
    · exact h3.lt k e
  bel s S w h := by
    obtain ⟨vo, h1, h2, h3, h4, h5, h6, h7, h8, rfl⟩ := h
    exact h8
abbrev FVp (tb bb : Nat) : Value := .func (.func 17) #[] #[.pointer (some ⟨tb, 0, none⟩), .pointer (some ⟨bb, 0, none⟩)]
/-- where PoolPlays stands -/
structure QAt (w : World) (g f dd nn tb bb r : Nat) (bad : Int) (M : Nat) (p : Pl) (fo : List Int) (S1 S2 : Nat → Prop) (wr : World) : Prop where
  pv : PV w g nn f dd 0 6 (.func (.func 17) #[] #[.pointer (some ⟨tb, 0, none⟩), .pointer (some ⟨bb, 0, none⟩)]) (PF w tb bb bad) p fo S1 wr
  rv : RV w r nn 6 bad 60 p fo S2 wr
  dj : Disj S1 S2
  uq : UniqF p.F
  m1 : p.wr ≤ M
  m2 : fo.length ≤ M
section
variable {w wr wr' : World} {g f dd nn tb bb r : Nat} {bad : Int} {M : Nat} {p p' : Pl} {fo fo' : List Int} {S1 S2 S1' S2' : Nat → Prop}
theorem QAt.grow {X : Nat → Prop} (h : QAt w g f dd nn tb bb r bad M p fo S1 S2 wr) (hg : GrowX X wr wr') (h1 : Disj S1 X) (h2 : Disj S2 X) (hB : Below w.heap.size w wr') : QAt w g f dd nn tb bb r bad M p fo S1 S2 wr' :=
  ⟨h.pv.grow (force_plays w tb bb bad) hg h1 hB, h.rv.grow hg h2 hB, h.dj, h.uq, h.m1, h.m2⟩
theorem QAt.below (h : QAt w g f dd nn tb bb r bad M p fo S1 S2 wr) (hb : Below wr.heap.size wr wr') : QAt w g f dd nn tb bb r bad M p fo S1 S2 wr' :=
  h.grow (X := fun _ => False) (grow_below hb) (fun _ _ h => h) (fun _ _ h => h) (h.pv.bel.trans (hb.mono h.pv.bel.size))
theorem QAt.more {M' : Nat} (h : QAt w g f dd nn tb bb r bad M p fo S1 S2 wr) (hm : M ≤ M') : QAt w g f dd nn tb bb r bad M' p fo S1 S2 wr :=
  ⟨h.pv, h.rv, h.dj, h.uq, Nat.le_trans h.m1 hm, Nat.le_trans h.m2 hm⟩
theorem QAt.lt1 (h : QAt w g f dd nn tb bb r bad M p fo S1 S2 wr) : ∀ k, S1 k → w.heap.size ≤ k ∧ k < wr.heap.size := h.pv.lt (force_plays w tb bb bad)
theorem QAt.lt2 (h : QAt w g f dd nn tb bb r bad M p fo S1 S2 wr) : ∀ k, S2 k → w.heap.size ≤ k ∧ k < wr.heap.size := h.rv.lt
/-- a block of the law's own is written -/
theorem QAt.mine (h : QAt w g f dd nn tb bb r bad M p fo S1 S2 wr) (x : Nat) (hx : w.heap.size ≤ x) (h1 : ¬ S1 x) (h2 : ¬ S2 x) (hg : GrowX (fun k => k = x) wr wr') : QAt w g f dd nn tb bb r bad M p fo S1 S2 wr' :=
  h.grow hg (fun k hs e => h1 (e ▸ hs)) (fun k hs e => h2 (e ▸ hs)) (h.pv.bel.trans (hg.below (fun k hk => ⟨Nat.lt_of_lt_of_le hk h.pv.bel.size, fun e => by omega⟩)))
/-- the two pools, joined again -/
theorem QAt.join (hpv : PV w g nn f dd 0 6 (.func (.func 17) #[] #[.pointer (some ⟨tb, 0, none⟩), .pointer (some ⟨bb, 0, none⟩)]) (PF w tb bb bad) p' fo' S1' wr') (hrv : RV w r nn 6 bad 60 p' fo' S2' wr') (hd : Disj S1' S2')
    (h : QAt w g f dd nn tb bb r bad M p fo S1 S2 wr) (hs : PSt p p' fo fo') : QAt w g f dd nn tb bb r bad (M + 1) p' fo' S1' S2' wr' :=
  ⟨hpv, hrv, hd, hs.uq h.uq, by have := hs.wr; have := h.m1; omega, by have := hs.fo; have := h.m2; omega⟩
theorem PV.page512 {W0 : World} {n fr pg : Nat} {fv : Value} {St : Type} {FI : St → (Nat → Prop) → World → Prop} {s : St} {S : Nat → Prop} (h : PV W0 g n f dd fr pg fv FI p s S w) : ∀ q, q < pg → (p.P q).length = 512 := by
  obtain ⟨lb, E, K, T1, T2, i1, i2, i3, _⟩ := h
  exact fun q hq => i3.len hq
theorem PV.vars {W0 : World} {n fr pg : Nat} {fv : Value} {S : Nat → Prop} (h : PV W0 g n f dd fr pg fv (PF W0 tb bb bad) p fo S w) : ∃ ao co, Box w tb [.slice ao fo.length co] ∧ Box w bb [.int .i64 bad] ∧ Reads 1 w (.slice ao fo.length co) fo.length (fo.map (Value.int .i64)) ∧ S tb ∧ S bb := by
  obtain ⟨lb, E, K, T1, T2, i1, i2, i3, i4, i5, i6, i7, i8, i9, rfl⟩ := h
  obtain ⟨vo, h1, h2, h3, h4, h5, h6, h7, h8, rfl⟩ := i4
  obtain ⟨ao, co, rfl⟩ := own_shape h3
  exact ⟨ao, co, h1, h2, Reads.of_own h3, .inr (.inr (.inl rfl)), .inr (.inr (.inr (.inl rfl)))⟩
theorem RV.view {W0 : World} {n pg : Nat} {er : Int} {S : Nat → Prop} (h : RV W0 r n pg bad er p fo S w) : ∃ db cd fb cf ao co, Box w r [.slice (some ⟨db, 0, none⟩) pg cd, .slice (some ⟨fb, 0, none⟩) n cf, .int .i64 (p.hand : Nat), .int .i64 bad, .int .i64 er, .slice ao fo.length co, .int .i64 (p.wr : Nat)] ∧
    (∀ i x, p.F[i]? = some x → w.cell? ⟨fb, i * 6, none⟩ = some (.int .i64 x.page)) ∧ fb < w.heap.size ∧ n ≤ cf ∧ Reads 1 w (.slice ao fo.length co) fo.length (fo.map (Value.int .i64)) := by
  obtain ⟨db, cd, fb, cf, vo, h1, h2, h3, h4, h5, rfl⟩ := h
  obtain ⟨ao, co, e⟩ := own_shape h1.orow
  subst e
  exact ⟨db, cd, fb, cf, ao, co, h1.box, fun i x hx => h1.cell h4.n1 i x hx 0 _ rfl, h1.fl.2, (by obtain ⟨_, _, e, _, hc, _⟩ := Reads.of_own h1.frow; injection e with _ _ e3; omega), Reads.of_own h1.orow⟩
theorem get_uni {St : Type} {pg n : Nat} {step : St → Int → Int × St} {s : St} (m : Int) {y : World} {base : Nat} {v : Value} (h1 : (p.get pg step s m).1 = 0 → y.ownsRow base 5 1 v 512 ((p.get pg step s m).2.1.map B) ∧ (p.get pg step s m).2.1.length = 512) (h2 : ¬ (p.get pg step s m).1 = 0 → v = .slice none 0 0) :
    ∃ m' : Nat, (p.get pg step s m).2.1.length = m' ∧ m' ≤ 512 ∧ y.ownsRow base 5 1 v m' ((p.get pg step s m).2.1.map B) := by
  by_cases e : (p.get pg step s m).1 = 0
  · exact ⟨512, (h1 e).2, Nat.le_refl _, (h1 e).1⟩
  · have e2 : (p.get pg step s m).2.1 = [] := by
      revert e
      unfold Pl.get
      split
      · intro e; exact absurd rfl e
      · split
        · unfold Pl.got
          split
          · intro e; exact absurd rfl e
          · intro _; rfl
        · intro _; rfl
    rw [h2 e, e2]
    exact ⟨0, rfl, by decide, World.ownsRow_nil _ _ _ _⟩
end
section
variable {W0 : World} {g n f d fr pg : Nat} {St : Type} {FI : St → (Nat → Prop) → World → Prop} {p : Pl} {s : St} {S : Nat → Prop} {w : World} {fn : Nat} {caps : Array Value} {step : St → Int → Int × St} {okS : St → Prop}
theorem put_any (hF : ForceOf W0 fn caps FI step okS) (h : PV W0 g n f d fr pg (.func (.func fn) #[] caps) FI p s S w) (m : Int) (b : List UInt8) (hb : b.length = 512) (l : Int) (ao : Option Addr) (c : Nat) (hv : Reads 1 w (.slice ao 512 c) 512 (b.map B)) (hsl : ∀ k, (Value.slice ao 512 c).ownBlock = some k → ¬ S k) (hwr : p.wr + 1 ≤ 1000000000) (hs : okS s) :
    Calls Try.prog 13 #[.pointer (some ⟨g, 0, none⟩), .int .i64 m, .slice ao 512 c, .int .i64 l] w fun e w' => ∃ S', e = .returned (.int .i64 (p.put pg step s m b l).1) ∧ PV W0 g n f d fr pg (.func (.func fn) #[] caps) FI (p.put pg step s m b l).2.1 (p.put pg step s m b l).2.2 S' w' ∧ Foot S S' w w' := by
  by_cases hg : 0 ≤ m ∧ m < (pg : Int) ∧ b.length = 512 ∧ 1 ≤ l
  · exact put_good hF h m ⟨hg.1, hg.2.1⟩ b hb l hg.2.2.2 _ hv hsl hwr hs
  · have e : p.put pg step s m b l = (1, p, s) := by unfold Pl.put; rw [if_neg hg]
    rw [e]
    refine (put_bad h m b l ao 512 c hb hg).mono ?_
    rintro e y ⟨rfl, rfl⟩
    exact ⟨S, rfl, h, .below (grow_below (Below.refl _ _))⟩
end
theorem rput_any {W0 w : World} {r n pg : Nat} {bad er : Int} {p : Pl} {fo : List Int} {S : Nat → Prop} (her : ¬ er = 0) (h : RV W0 r n pg bad er p fo S w) (m : Int) (b : List UInt8) (hbl : b.length = 512) (l : Int) (hwr : p.wr + 1 ≤ 1000000000) (hfo : fo.length + 1 ≤ 1000000) :
    Calls Try.prog 21 #[.pointer (some ⟨r, 0, none⟩), .int .i64 m, .string ⟨b.toArray⟩, .int .i64 l] w fun e w' => ∃ S', e = .returned (.int .i64 (p.put pg (stepP bad er) fo m b l).1) ∧ RV W0 r n pg bad er (p.put pg (stepP bad er) fo m b l).2.1 (p.put pg (stepP bad er) fo m b l).2.2 S' w' ∧ Foot S S' w w' := by
  by_cases hg : 0 ≤ m ∧ m < (pg : Int) ∧ b.length = 512 ∧ 1 ≤ l
  · exact rput_good her h m ⟨hg.1, hg.2.1⟩ b hbl l hg.2.2.2 hwr hfo
  · have e : p.put pg (stepP bad er) fo m b l = (1, p, fo) := by unfold Pl.put; rw [if_neg hg]
    rw [e]
    refine (rput_bad h m b l hg).mono ?_
    rintro e y ⟨rfl, rfl⟩
    exact ⟨S, rfl, h, .below (grow_below (Below.refl _ _))⟩
theorem any_take (F : List Fm) (m : Int) {k : Nat} {x : Fm} (hx : F[k]? = some x) : (F.take (k + 1)).any (isP m) = ((F.take k).any (isP m) || isP m x) := by
  rw [List.take_add_one, hx, List.any_append]
  simp
theorem any_all (F : List Fm) (m : Int) : (F.take F.length).any (isP m) = (findL F m).isSome := by
  rw [List.take_length, findL, List.findIdx?_isSome]
end Go.Proofs.Ytdnjjdpenfhpeaa

/- What wait.reach tells: whoever can be reached, each once. Conditions: at most 2^40 edges. -/
import Derived.Test.YtjakekfalooebaaWRows
import Derived.Test.YtjakekfalooebaaWPlain
namespace Go.Proofs.Ytjakekfalooebaa
set_option linter.unusedSimpArgs false
set_option linter.unusedVariables false
open Go.RowKit
open W (RI Rch Reached)

theorem Box.grownBy {u u' : World} {o : Option Nat} {g : Nat} {vs : List Value} (h : Box u g vs) (hgr : u.grownBy u' o) (hne : o ≠ some g) : Box u' g vs := by
  have hb := hgr.block g h.lt (fun e => hne e.symm)
  refine ⟨Nat.lt_of_lt_of_le h.lt hgr.size, fun i v hi => ?_, fun i => ?_⟩
  · rw [← h.cell i v hi]; simp only [World.cell?, hb]
  · rw [← h.free i]; simp only [World.frozen?, hb]

/-- amid the search, in memory -/
def SR (L : List (Int × Int)) (f : Int) (G : Nat) (W0 : World) (i k : Nat) (vo vt : Value) (wr : World) : Prop :=
  ∃ (out T : List Int) (ao : Option Addr) (no co bT nt cT : Nat), vo = .slice ao no co ∧ vt = .slice (some ⟨bT, 0, none⟩) nt cT ∧ out.length = no ∧ T.length = nt ∧ RI L f out T i k ∧
    R2 G 3 3 wr vo vt no (out.map (Value.int .i64)) nt (T.map (Value.int .i64)) ∧ Below G W0 wr

theorem SR.below {L : List (Int × Int)} {f : Int} {G : Nat} {W0 : World} {i k : Nat} {vo vt : Value} {w1 w2 : World} (h : SR L f G W0 i k vo vt w1) (hb : Below w1.heap.size w1 w2) : SR L f G W0 i k vo vt w2 := by
  obtain ⟨out, T, ao, no, co, bT, nt, cT, e1, e2, h1, h2, h3, h4, h5⟩ := h
  exact ⟨out, T, ao, no, co, bT, nt, cT, e1, e2, h1, h2, h3, h4.below hb, h5.trans (hb.mono h4.le)⟩

theorem SR.ri {L : List (Int × Int)} {f : Int} {G : Nat} {W0 : World} {i k k' : Nat} {vo vt : Value} {wr : World} (h : SR L f G W0 i k vo vt wr) (hr : ∀ out T, RI L f out T i k → RI L f out T i k') : SR L f G W0 i k' vo vt wr := by
  obtain ⟨out, T, ao, no, co, bT, nt, cT, e1, e2, h1, h2, h3, h4, h5⟩ := h
  exact ⟨out, T, ao, no, co, bT, nt, cT, e1, e2, h1, h2, hr _ _ h3, h4, h5⟩

/-- what reach tells -/
def ReachEnd (L : List (Int × Int)) (f : Int) (w : World) (e : Ending) (w' : World) : Prop :=
  ∃ out v, e = .returned v ∧ Reached L f out ∧ Ints w' v out ∧ Below w.heap.size w w'

set_option maxRecDepth 100000 in
set_option maxHeartbeats 6400000 in
theorem reach_on (l : List (Int × Int)) (v : Value) (n : Nat) (hl : l.length = n) (hn : n ≤ 1099511627776) (f : Int) (w : World) (hv : Reads 2 w v n (ecells l)) :
    Calls Try.prog 20 #[v, .int .i64 f, .bool false] w (ReachEnd l f w) := by
  obtain ⟨ao, c, rfl⟩ := hv.shape
  obtain ⟨L, hL⟩ : ∃ L, l = L := ⟨_, rfl⟩
  have hLn : L.length = n := by rw [← hL]; exact hl
  rw [hL]
  have HE := Lib.hid hL
  have HL := Lib.hid hl
  have HLn := Lib.hid hLn
  have HV := Lib.hid hv
  clear hl hv hL hLn
  have own0 := own_lit (w1 := w) (base := w.heap.size) (g := w.heap.size) (T := 3) (n := 1) (arr := #[.int .i64 f]) rfl (Nat.le_refl _) rfl rfl (by omega)
  have hB0 := (Below.refl w.heap.size w).alloc (Nat.le_refl _) (.cells #[.int .i64 f] 3)
  have HS0 : Hid (SR L f w.heap.size w 0 0 (.slice none 0 0) (.slice (some ⟨w.heap.size, 0, none⟩) 1 1) (w.alloc (.cells #[.int .i64 f] 3))) :=
    Lib.hid ⟨[], [f], none, 0, 0, w.heap.size, 1, 1, rfl, rfl, rfl, rfl, RI.start _ _, ⟨World.ownsRow_nil _ _ _ _, own0, (by intro q h; cases h), by simp⟩, hB0⟩
  clear own0 hB0
  go_enter Try.func20, Try.ntmps20
  go_wp2_with fail
  go_loopw [7, 8, 9] (fun vo vt i wr => ∃ k : Nat, i = .int .i64 k ∧ SR L f w.heap.size w k 0 vo vt wr) (fun _ _ i _ => n + 1 - (intOf i).toNat)
  case atStart => exact ⟨0, rfl, HS0.out⟩
  case round =>
    clear HS0
    obtain ⟨i, rfl, hsr⟩ := hrel
    have HS := Lib.hid hsr
    obtain ⟨out, T, ao1, no, co, bT, nt, cT, rfl, rfl, hout, hT, hri, hr2, hbel⟩ := hsr
    have hTle : nt ≤ n + 1 := by rw [← hT, ← HLn.out]; exact hri.T_le
    have hole : no ≤ n := by rw [← hout, ← HLn.out]; exact hri.out_le
    have HT := Lib.hid hT
    have HO := Lib.hid hout
    have HRI := Lib.hid hri
    have HR2 := Lib.hid hr2
    have HB := Lib.hid hbel
    clear hT hout hri hr2 hbel
    by_cases hlt : i < nt
    · clear HRI HR2 HB HT HO
      go_wp2_with fail
      go_step3
      go_wp2_with fail
      go_step3
      go_wp2_with fail
      obtain ⟨wo, rfl⟩ : ∃ wo : World, wo = wr := ⟨_, rfl⟩
      go_loopw [7, 8, 22] (fun vo vt j wr => ∃ k : Nat, j = .int .i64 k ∧ k ≤ n ∧ SR L f w.heap.size w i k vo vt wr ∧ ∃ no co ao bT nt cT, vo = .slice ao no co ∧ vt = .slice (some ⟨bT, 0, none⟩) nt cT ∧ i < nt) (fun _ _ j _ => n - (intOf j).toNat)
      case atStart => exact ⟨0, rfl, Nat.zero_le _, HS.out, no, co, ao1, bT, nt, cT, rfl, rfl, hlt⟩
      case round =>
        clear HS
        clear hlt hTle hole
        obtain ⟨k, rfl, hk, hsr, no, co, ao1, bT, nt, cT, rfl, rfl, hlt⟩ := hrel
        have HS := Lib.hid hsr
        clear hsr
        by_cases hlk : k < n
        · have hkl : k < l.length := by rw [HL.out]; exact hlk
          obtain ⟨b, o, c', e, hb, _, hc1, hc2⟩ := Edges.at HV.out k hlk l[k] (List.getElem?_eq_getElem hkl)
          injection e with e1 e2 e3
          subst e1 e3
          have hlk' : l[k]? = some l[k] := List.getElem?_eq_getElem hkl
          generalize l[k] = x at *
          obtain ⟨x1, x2⟩ := x
          have HLk : Hid (L[k]? = some (x1, x2)) := by show _ = _; rw [← HE.out]; exact hlk'
          obtain ⟨out, T, ao2, no2, co2, bT2, nt2, cT2, e1, e2, hout, hT, hri, hr2, hbel⟩ := id HS.out
          injection e1 with e1a e1b e1c
          injection e2 with e2a e2b e2c
          injection e2a with e2a
          injection e2a with e2a
          subst e1a e1b e1c e2a e2b e2c
          have hTle : nt ≤ n + 1 := by rw [← hT, ← HLn.out]; exact hri.T_le
          have hole : no ≤ n := by rw [← hout, ← HLn.out]; exact hri.out_le
          have hd1 := (hbel.cell (p := ⟨b, o + k * 2, none⟩) hb).trans hc1
          have hd2 := (hbel.cell (p := ⟨b, o + k * 2 + 1, none⟩) hb).trans hc2
          have hTi : i < T.length := by rw [hT]; exact hlt
          have hti : T[i]? = some T[i] := List.getElem?_eq_getElem hTi
          generalize T[i] = t at *
          have HTI := Lib.hid hti
          have hcT : wr.cell? ⟨bT, i, none⟩ = some (.int .i64 t) := by
            have := own_cells hr2.b i (.int .i64 t) (by rw [List.getElem?_map, hti]; rfl)
            rw [Addr.add_lit] at this
            simpa using this
          have hsz := hbel.size
          have hbT : bT < wr.heap.size := (hr2.b.lt bT rfl).2
          have haT : ∀ q, (Value.slice ao1 no co).ownBlock = some q → q < wr.heap.size := fun q hq => (hr2.a.lt q hq).2
          have HT := Lib.hid hT
          have HO := Lib.hid hout
          have HRI := Lib.hid hri
          have HR2 := Lib.hid hr2
          have HB := Lib.hid hbel
          clear hT hout hri hr2 hbel hc1 hc2 hkl hlk' hTi hti
          obtain ⟨g, hg0⟩ : ∃ g, wr.heap.size = g := ⟨_, rfl⟩
          have be := Box.new wr #[.int .i64 x1, .int .i64 x2] 24 hg0.symm
          have HF : Hid (Box (wr.alloc (.cells #[.int .i64 x1, .int .i64 x2] 24)) g [.int .i64 x1, .int .i64 x2] ∧ Below wr.heap.size wr (wr.alloc (.cells #[.int .i64 x1, .int .i64 x2] 24)) ∧ (wr.alloc (.cells #[.int .i64 x1, .int .i64 x2] 24)).heap.size = g + 1) :=
            Lib.hid ⟨be, (Below.refl _ _).alloc (Nat.le_refl _) _, by simp; omega⟩
          have HG := Lib.hid hg0
          clear be hg0
          go_wp2_with fail
          rw [HG.out]
          have hbg : bT < g := by rw [← HG.out]; exact hbT
          have hag : ∀ q, (Value.slice ao1 no co).ownBlock = some q → q < g := fun q hq => by rw [← HG.out]; exact haT q hq
          have hwg : w.heap.size ≤ g := by rw [← HG.out]; exact hsz
          have HAG := Lib.hid hag
          clear haT hag hbT
          refine wp_world (fun w0 => Box w0 g [.int .i64 x1, .int .i64 x2] ∧ Below wr.heap.size wr w0 ∧ w0.heap.size = g + 1) HF.out ?_
          clear HF
          rintro w0 ⟨be, hb0, hs0⟩
          have hs1 : g + 1 ≤ w0.heap.size := Nat.le_of_eq hs0.symm
          clear hs0
          have hcT0 := (hb0.cell (p := ⟨bT, i, none⟩) (by show bT < _; rw [HG.out]; exact hbg)).trans hcT
          have HB0 := Lib.hid hb0
          clear hb0 hcT hd1 hd2
          have ce0 := be.cell 0 _ rfl
          have ce1 := be.cell 1 _ rfl
          have ceq := be.free
          by_cases hA : x1 = t
          · have hA1 : (x1 != t) = false := by simp [hA]
            have HA := Lib.hid hA
            clear hA
            go_quiet (fail)
            have hq := below_dn (Below.refl w0.heap.size w0) nq
            have HX : Hid (Box (w0.drewN nq) g [.int .i64 x1, .int .i64 x2] ∧ Below wr.heap.size wr (w0.drewN nq) ∧ g + 1 ≤ (w0.drewN nq).heap.size) :=
              Lib.hid ⟨be.below hq (Nat.le_refl _), HB0.out.trans (hq.mono HB0.out.size), by have := hq.size; omega⟩
            clear hq be HB0 hs1 hcT0
            go_wp2_with fail
            refine calls_world (fun w0 => Box w0 g [.int .i64 x1, .int .i64 x2] ∧ Below wr.heap.size wr w0 ∧ g + 1 ≤ w0.heap.size) HX.out ?_
            clear HX ce0 ce1 ceq
            rintro w1 ⟨be, hb1, hs1⟩
            have HB1 := Lib.hid hb1
            have HR3 := Lib.hid (HR2.out.below hb1)
            have HBW := Lib.hid (HB.out.trans (hb1.mono hsz))
            clear hb1
            have ce0 := be.cell 0 _ rfl
            have ce1 := be.cell 1 _ rfl
            have ceq := be.free
            refine (contains_any out _ no (by omega) HO.out _ _ (Reads.of_own HR3.out.a)).mono ?_
            rintro e w2 ⟨rfl, rfl⟩
            by_cases hm : x2 ∈ out
            · have hm1 : hasB out x2 = true := hasB_true.2 hm
              have HSn : Hid (SR L f w.heap.size w i (k + 1) (.slice ao1 no co) (.slice (some ⟨bT, 0, none⟩) nt cT) w1) :=
                Lib.hid ⟨out, T, ao1, no, co, bT, nt, cT, rfl, rfl, HO.out, HT.out, HRI.out.skip HLk.out HTI.out (.inr hm), HR3.out, HBW.out⟩
              go_wp2
              go_roundw
              case rel => exact ⟨k + 1, by go_num, by omega, HSn.out, no, co, ao1, bT, nt, cT, rfl, rfl, hlt⟩
              case measure => simp [intOf]; omega
            · have hm1 : hasB out x2 = false := hasB_false.2 hm
              have HM := Lib.hid hm
              clear hm
              have hba := be.alloc (.cells #[.int .i64 x2] 3)
              have h2a := HR3.out.alloc (.cells #[.int .i64 x2] 3)
              have hbwa := HBW.out.alloc (by omega) (.cells #[.int .i64 x2] 3)
              have HBA := Lib.hid hba
              have H2A := Lib.hid h2a
              have HBWA := Lib.hid hbwa
              clear hba h2a hbwa
              by_cases hBf : x2 = f
              · have hB1 : (x2 != f) = false := by simp [hBf]
                have HBf := Lib.hid hBf
                clear hBf
                go_wp2_with (at_builtin; refine wpList_append_two intsOf (.tmp 44) (.tmp 47) rfl rfl (base := w.heap.size) rfl H2A.out.a rfl rfl (news := [.int .i64 x2]) (by intro j u hu; rw [Addr.add_lit, World.cell?_alloc_at _ _ _ _ rfl]; simpa using hu) (by intro u hu; simp at hu; subst hu; rfl) (by omega) (by omega) H2A.out.le (by omega) ?_; intro g3 cap3 w3 hown3 hgr3 hor3; (have h23 := Lib.hid (H2A.out.addA hgr3 hor3 hown3)); (have be3 := HBA.out.grownBy hgr3 (fun e => by have := HAG.out _ e; omega)); (have hb3 := Lib.hid (HBWA.out.grown hgr3 H2A.out.le (fun q hq => (H2A.out.a.lt q hq).1))); (have hs3 : g + 1 ≤ w3.heap.size := by (have := hgr3.size); simp at this; omega); (have ce30 := be3.cell 0 _ rfl); (have ce31 := be3.cell 1 _ rfl); (have h24 := Lib.hid (h23.out.alloc (.cells #[.int .i64 x2] 3))); (have hb4 := Lib.hid (hb3.out.alloc (by omega) (.cells #[.int .i64 x2] 3))); clear hown3 hgr3 hor3 be3)
                have HSn : Hid (SR L f w.heap.size w i (k + 1) (.slice (some ⟨g3, 0, none⟩) (no + 1) cap3) (.slice (some ⟨bT, 0, none⟩) nt cT) w3) := by
                  have hr := HRI.out.add (by have h := HLk.out; rw [HA.out] at h; exact h) HTI.out HM.out
                  rw [if_neg (by rw [HBf.out]; simp)] at hr
                  refine Lib.hid ⟨out ++ [x2], T, _, no + 1, cap3, bT, nt, cT, rfl, rfl, by simp [HO.out], HT.out, hr, ?_, hb3.out⟩
                  rw [List.map_append]; exact h23.out
                go_roundw
                case rel => exact ⟨k + 1, by go_num, by omega, HSn.out, no + 1, cap3, _, bT, nt, cT, rfl, rfl, hlt⟩
                case measure => simp [intOf]; omega
              · have hB1 : (x2 != f) = true := by simp [hBf]
                have HBf := Lib.hid hBf
                clear hBf
                go_wp2_with (first
                  | (at_builtin; refine wpList_append_two intsOf (.tmp 44) (.tmp 47) rfl rfl (base := w.heap.size) rfl H2A.out.a rfl rfl (news := [.int .i64 x2]) (by intro j u hu; rw [Addr.add_lit, World.cell?_alloc_at _ _ _ _ rfl]; simpa using hu) (by intro u hu; simp at hu; subst hu; rfl) (by omega) (by omega) H2A.out.le (by omega) ?_; intro g3 cap3 w3 hown3 hgr3 hor3; (have h23 := Lib.hid (H2A.out.addA hgr3 hor3 hown3)); (have be3 := HBA.out.grownBy hgr3 (fun e => by have := HAG.out _ e; omega)); (have hb3 := Lib.hid (HBWA.out.grown hgr3 H2A.out.le (fun q hq => (H2A.out.a.lt q hq).1))); (have hs3 : g + 1 ≤ w3.heap.size := by (have := hgr3.size); simp at this; omega); (have ce30 := be3.cell 0 _ rfl); (have ce31 := be3.cell 1 _ rfl); (have h24 := Lib.hid (h23.out.alloc (.cells #[.int .i64 x2] 3))); (have hb4 := Lib.hid (hb3.out.alloc (by omega) (.cells #[.int .i64 x2] 3))); clear hown3 hgr3 hor3 be3)
                  | (at_builtin; refine wpList_append_two intsOf (.tmp 53) (.tmp 56) rfl rfl (base := w.heap.size) rfl h24.out.b rfl rfl (news := [.int .i64 x2]) (by intro j u hu; rw [Addr.add_lit, World.cell?_alloc_at _ _ _ _ rfl]; simpa using hu) (by intro u hu; simp at hu; subst hu; rfl) (by omega) (by omega) h24.out.le (by omega) ?_; intro g5 cap5 w5 hown5 hgr5 hor5; (have h25 := Lib.hid ((h24.out.swap.addA hgr5 hor5 hown5).swap)); (have hb5 := Lib.hid (hb4.out.grown hgr5 h24.out.le (fun q hq => (h24.out.b.lt q hq).1))); clear hown5 hgr5 hor5))
                have HSn : Hid (SR L f w.heap.size w i (k + 1) (.slice (some ⟨g3, 0, none⟩) (no + 1) cap3) (.slice (some ⟨g5, 0, none⟩) (nt + 1) cap5) w5) := by
                  have hr := HRI.out.add (by have h := HLk.out; rw [HA.out] at h; exact h) HTI.out HM.out
                  rw [if_pos HBf.out] at hr
                  refine Lib.hid ⟨out ++ [x2], T ++ [x2], _, no + 1, cap3, g5, nt + 1, cap5, rfl, rfl, by simp [HO.out], by simp [HT.out], hr, ?_, hb5.out⟩
                  rw [List.map_append, List.map_append]; exact h25.out
                go_roundw
                case rel => exact ⟨k + 1, by go_num, by omega, HSn.out, no + 1, cap3, _, g5, nt + 1, cap5, rfl, rfl, by omega⟩
                case measure => simp [intOf]; omega
          · have hA1 : (x1 != t) = true := by simp [hA]
            have HSn : Hid (SR L f w.heap.size w i (k + 1) (.slice ao1 no co) (.slice (some ⟨bT, 0, none⟩) nt cT) wr) :=
              Lib.hid ⟨out, T, ao1, no, co, bT, nt, cT, rfl, rfl, HO.out, HT.out, HRI.out.skip HLk.out HTI.out (.inl hA), HR2.out, HB.out⟩
            clear hA
            go_quiet (fail)
            have hq := below_dn (Below.refl w0.heap.size w0) nq
            have hX := HB0.out.trans (hq.mono HB0.out.size)
            go_wp2
            go_roundw
            case rel => exact ⟨k + 1, by go_num, by omega, HSn.out.below hX, no, co, ao1, bT, nt, cT, rfl, rfl, hlt⟩
            case measure => simp [intOf]; omega
        · obtain rfl : n = k := by omega
          go_wp2_with fail
          have HSn : Hid (SR L f w.heap.size w (i + 1) 0 (.slice ao1 no co) (.slice (some ⟨bT, 0, none⟩) nt cT) wr) := by
            obtain ⟨out, T, ao2, no2, co2, bT2, nt2, cT2, e1, e2, h1, h2, h3, h4, h5⟩ := HS.out
            rw [← HLn.out] at h3
            exact Lib.hid ⟨out, T, ao2, no2, co2, bT2, nt2, cT2, e1, e2, h1, h2, h3.next, h4, h5⟩
          have hin : i ≤ n := by
            obtain ⟨out, T, ao2, no2, co2, bT2, nt2, cT2, e1, e2, h1, h2, h3, h4, h5⟩ := HS.out
            have := h3.T_le
            rw [HLn.out, h2] at this
            injection e2 with _ e2 _
            omega
          go_wp2
          simp only [Exit.noGoto_normal, Exit.inBlock]
          go_wp2
          go_roundw
          case rel => exact ⟨i + 1, by go_num, HSn.out⟩
          case measure => simp [intOf]; omega
    · have HD := HRI.out.done (by rw [HT.out]; omega)
      go_wp2
      go_ret
      refine ⟨out, _, rfl, HD, ?_, HB.out⟩
      show Reads 1 _ _ _ _
      rw [HO.out]
      exact Reads.of_own HR2.out.a
set_option maxRecDepth 100000 in
set_option maxHeartbeats 6400000 in
theorem reach_back (l : List (Int × Int)) (v : Value) (n : Nat) (hl : l.length = n) (hn : n ≤ 1099511627776) (f : Int) (w : World) (hv : Reads 2 w v n (ecells l)) :
    Calls Try.prog 20 #[v, .int .i64 f, .bool true] w (ReachEnd (W.flip l) f w) := by
  obtain ⟨ao, c, rfl⟩ := hv.shape
  obtain ⟨L, hL⟩ : ∃ L, (W.flip l) = L := ⟨_, rfl⟩
  have hLn : L.length = n := by rw [← hL, W.flip, List.length_map]; exact hl
  rw [hL]
  have HE := Lib.hid hL
  have HL := Lib.hid hl
  have HLn := Lib.hid hLn
  have HV := Lib.hid hv
  clear hl hv hL hLn
  have own0 := own_lit (w1 := w) (base := w.heap.size) (g := w.heap.size) (T := 3) (n := 1) (arr := #[.int .i64 f]) rfl (Nat.le_refl _) rfl rfl (by omega)
  have hB0 := (Below.refl w.heap.size w).alloc (Nat.le_refl _) (.cells #[.int .i64 f] 3)
  have HS0 : Hid (SR L f w.heap.size w 0 0 (.slice none 0 0) (.slice (some ⟨w.heap.size, 0, none⟩) 1 1) (w.alloc (.cells #[.int .i64 f] 3))) :=
    Lib.hid ⟨[], [f], none, 0, 0, w.heap.size, 1, 1, rfl, rfl, rfl, rfl, RI.start _ _, ⟨World.ownsRow_nil _ _ _ _, own0, (by intro q h; cases h), by simp⟩, hB0⟩
  clear own0 hB0
  go_enter Try.func20, Try.ntmps20
  go_wp2_with fail
  go_loopw [7, 8, 9] (fun vo vt i wr => ∃ k : Nat, i = .int .i64 k ∧ SR L f w.heap.size w k 0 vo vt wr) (fun _ _ i _ => n + 1 - (intOf i).toNat)
  case atStart => exact ⟨0, rfl, HS0.out⟩
  case round =>
    clear HS0
    obtain ⟨i, rfl, hsr⟩ := hrel
    have HS := Lib.hid hsr
    obtain ⟨out, T, ao1, no, co, bT, nt, cT, rfl, rfl, hout, hT, hri, hr2, hbel⟩ := hsr
    have hTle : nt ≤ n + 1 := by rw [← hT, ← HLn.out]; exact hri.T_le
    have hole : no ≤ n := by rw [← hout, ← HLn.out]; exact hri.out_le
    have HT := Lib.hid hT
    have HO := Lib.hid hout
    have HRI := Lib.hid hri
    have HR2 := Lib.hid hr2
    have HB := Lib.hid hbel
    clear hT hout hri hr2 hbel
    by_cases hlt : i < nt
    · clear HRI HR2 HB HT HO
      go_wp2_with fail
      go_step3
      go_wp2_with fail
      go_step3
      go_wp2_with fail
      obtain ⟨wo, rfl⟩ : ∃ wo : World, wo = wr := ⟨_, rfl⟩
      go_loopw [7, 8, 22] (fun vo vt j wr => ∃ k : Nat, j = .int .i64 k ∧ k ≤ n ∧ SR L f w.heap.size w i k vo vt wr ∧ ∃ no co ao bT nt cT, vo = .slice ao no co ∧ vt = .slice (some ⟨bT, 0, none⟩) nt cT ∧ i < nt) (fun _ _ j _ => n - (intOf j).toNat)
      case atStart => exact ⟨0, rfl, Nat.zero_le _, HS.out, no, co, ao1, bT, nt, cT, rfl, rfl, hlt⟩
      case round =>
        clear HS
        clear hlt hTle hole
        obtain ⟨k, rfl, hk, hsr, no, co, ao1, bT, nt, cT, rfl, rfl, hlt⟩ := hrel
        have HS := Lib.hid hsr
        clear hsr
        by_cases hlk : k < n
        · have hkl : k < l.length := by rw [HL.out]; exact hlk
          obtain ⟨b, o, c', e, hb, _, hc1, hc2⟩ := Edges.at HV.out k hlk l[k] (List.getElem?_eq_getElem hkl)
          injection e with e1 e2 e3
          subst e1 e3
          have hlk' : l[k]? = some l[k] := List.getElem?_eq_getElem hkl
          generalize l[k] = x at *
          obtain ⟨x1, x2⟩ := x
          have HLk : Hid (L[k]? = some (x2, x1)) := by show _ = _; rw [← HE.out]; rw [W.flip, List.getElem?_map, hlk']; rfl
          obtain ⟨out, T, ao2, no2, co2, bT2, nt2, cT2, e1, e2, hout, hT, hri, hr2, hbel⟩ := id HS.out
          injection e1 with e1a e1b e1c
          injection e2 with e2a e2b e2c
          injection e2a with e2a
          injection e2a with e2a
          subst e1a e1b e1c e2a e2b e2c
          have hTle : nt ≤ n + 1 := by rw [← hT, ← HLn.out]; exact hri.T_le
          have hole : no ≤ n := by rw [← hout, ← HLn.out]; exact hri.out_le
          have hd1 := (hbel.cell (p := ⟨b, o + k * 2, none⟩) hb).trans hc1
          have hd2 := (hbel.cell (p := ⟨b, o + k * 2 + 1, none⟩) hb).trans hc2
          have hTi : i < T.length := by rw [hT]; exact hlt
          have hti : T[i]? = some T[i] := List.getElem?_eq_getElem hTi
          generalize T[i] = t at *
          have HTI := Lib.hid hti
          have hcT : wr.cell? ⟨bT, i, none⟩ = some (.int .i64 t) := by
            have := own_cells hr2.b i (.int .i64 t) (by rw [List.getElem?_map, hti]; rfl)
            rw [Addr.add_lit] at this
            simpa using this
          have hsz := hbel.size
          have hbT : bT < wr.heap.size := (hr2.b.lt bT rfl).2
          have haT : ∀ q, (Value.slice ao1 no co).ownBlock = some q → q < wr.heap.size := fun q hq => (hr2.a.lt q hq).2
          have HT := Lib.hid hT
          have HO := Lib.hid hout
          have HRI := Lib.hid hri
          have HR2 := Lib.hid hr2
          have HB := Lib.hid hbel
          clear hT hout hri hr2 hbel hc1 hc2 hkl hlk' hTi hti
          obtain ⟨g, hg0⟩ : ∃ g, wr.heap.size = g := ⟨_, rfl⟩
          have be := Box.new wr #[.int .i64 x2, .int .i64 x1] 24 hg0.symm
          have HF : Hid (Box (wr.alloc (.cells #[.int .i64 x2, .int .i64 x1] 24)) g [.int .i64 x2, .int .i64 x1] ∧ Below wr.heap.size wr (wr.alloc (.cells #[.int .i64 x2, .int .i64 x1] 24)) ∧ (wr.alloc (.cells #[.int .i64 x2, .int .i64 x1] 24)).heap.size = g + 1) :=
            Lib.hid ⟨be, (Below.refl _ _).alloc (Nat.le_refl _) _, by simp; omega⟩
          have HG := Lib.hid hg0
          clear be hg0
          go_wp2_with fail
          rw [HG.out]
          have hbg : bT < g := by rw [← HG.out]; exact hbT
          have hag : ∀ q, (Value.slice ao1 no co).ownBlock = some q → q < g := fun q hq => by rw [← HG.out]; exact haT q hq
          have hwg : w.heap.size ≤ g := by rw [← HG.out]; exact hsz
          have HAG := Lib.hid hag
          clear haT hag hbT
          refine wp_world (fun w0 => Box w0 g [.int .i64 x2, .int .i64 x1] ∧ Below wr.heap.size wr w0 ∧ w0.heap.size = g + 1) HF.out ?_
          clear HF
          rintro w0 ⟨be, hb0, hs0⟩
          have hs1 : g + 1 ≤ w0.heap.size := Nat.le_of_eq hs0.symm
          clear hs0
          have hcT0 := (hb0.cell (p := ⟨bT, i, none⟩) (by show bT < _; rw [HG.out]; exact hbg)).trans hcT
          have HB0 := Lib.hid hb0
          clear hb0 hcT hd1 hd2
          have ce0 := be.cell 0 _ rfl
          have ce1 := be.cell 1 _ rfl
          have ceq := be.free
          by_cases hA : x2 = t
          · have hA1 : (x2 != t) = false := by simp [hA]
            have HA := Lib.hid hA
            clear hA
            go_quiet (fail)
            have hq := below_dn (Below.refl w0.heap.size w0) nq
            have HX : Hid (Box (w0.drewN nq) g [.int .i64 x2, .int .i64 x1] ∧ Below wr.heap.size wr (w0.drewN nq) ∧ g + 1 ≤ (w0.drewN nq).heap.size) :=
              Lib.hid ⟨be.below hq (Nat.le_refl _), HB0.out.trans (hq.mono HB0.out.size), by have := hq.size; omega⟩
            clear hq be HB0 hs1 hcT0
            go_wp2_with fail
            refine calls_world (fun w0 => Box w0 g [.int .i64 x2, .int .i64 x1] ∧ Below wr.heap.size wr w0 ∧ g + 1 ≤ w0.heap.size) HX.out ?_
            clear HX ce0 ce1 ceq
            rintro w1 ⟨be, hb1, hs1⟩
            have HB1 := Lib.hid hb1
            have HR3 := Lib.hid (HR2.out.below hb1)
            have HBW := Lib.hid (HB.out.trans (hb1.mono hsz))
            clear hb1
            have ce0 := be.cell 0 _ rfl
            have ce1 := be.cell 1 _ rfl
            have ceq := be.free
            refine (contains_any out _ no (by omega) HO.out _ _ (Reads.of_own HR3.out.a)).mono ?_
            rintro e w2 ⟨rfl, rfl⟩
            by_cases hm : x1 ∈ out
            · have hm1 : hasB out x1 = true := hasB_true.2 hm
              have HSn : Hid (SR L f w.heap.size w i (k + 1) (.slice ao1 no co) (.slice (some ⟨bT, 0, none⟩) nt cT) w1) :=
                Lib.hid ⟨out, T, ao1, no, co, bT, nt, cT, rfl, rfl, HO.out, HT.out, HRI.out.skip HLk.out HTI.out (.inr hm), HR3.out, HBW.out⟩
              go_wp2
              go_roundw
              case rel => exact ⟨k + 1, by go_num, by omega, HSn.out, no, co, ao1, bT, nt, cT, rfl, rfl, hlt⟩
              case measure => simp [intOf]; omega
            · have hm1 : hasB out x1 = false := hasB_false.2 hm
              have HM := Lib.hid hm
              clear hm
              have hba := be.alloc (.cells #[.int .i64 x1] 3)
              have h2a := HR3.out.alloc (.cells #[.int .i64 x1] 3)
              have hbwa := HBW.out.alloc (by omega) (.cells #[.int .i64 x1] 3)
              have HBA := Lib.hid hba
              have H2A := Lib.hid h2a
              have HBWA := Lib.hid hbwa
              clear hba h2a hbwa
              by_cases hBf : x1 = f
              · have hB1 : (x1 != f) = false := by simp [hBf]
                have HBf := Lib.hid hBf
                clear hBf
                go_wp2_with (at_builtin; refine wpList_append_two intsOf (.tmp 44) (.tmp 47) rfl rfl (base := w.heap.size) rfl H2A.out.a rfl rfl (news := [.int .i64 x1]) (by intro j u hu; rw [Addr.add_lit, World.cell?_alloc_at _ _ _ _ rfl]; simpa using hu) (by intro u hu; simp at hu; subst hu; rfl) (by omega) (by omega) H2A.out.le (by omega) ?_; intro g3 cap3 w3 hown3 hgr3 hor3; (have h23 := Lib.hid (H2A.out.addA hgr3 hor3 hown3)); (have be3 := HBA.out.grownBy hgr3 (fun e => by have := HAG.out _ e; omega)); (have hb3 := Lib.hid (HBWA.out.grown hgr3 H2A.out.le (fun q hq => (H2A.out.a.lt q hq).1))); (have hs3 : g + 1 ≤ w3.heap.size := by (have := hgr3.size); simp at this; omega); (have ce30 := be3.cell 0 _ rfl); (have ce31 := be3.cell 1 _ rfl); (have h24 := Lib.hid (h23.out.alloc (.cells #[.int .i64 x1] 3))); (have hb4 := Lib.hid (hb3.out.alloc (by omega) (.cells #[.int .i64 x1] 3))); clear hown3 hgr3 hor3 be3)
                have HSn : Hid (SR L f w.heap.size w i (k + 1) (.slice (some ⟨g3, 0, none⟩) (no + 1) cap3) (.slice (some ⟨bT, 0, none⟩) nt cT) w3) := by
                  have hr := HRI.out.add (by have h := HLk.out; rw [HA.out] at h; exact h) HTI.out HM.out
                  rw [if_neg (by rw [HBf.out]; simp)] at hr
                  refine Lib.hid ⟨out ++ [x1], T, _, no + 1, cap3, bT, nt, cT, rfl, rfl, by simp [HO.out], HT.out, hr, ?_, hb3.out⟩
                  rw [List.map_append]; exact h23.out
                go_roundw
                case rel => exact ⟨k + 1, by go_num, by omega, HSn.out, no + 1, cap3, _, bT, nt, cT, rfl, rfl, hlt⟩
                case measure => simp [intOf]; omega
              · have hB1 : (x1 != f) = true := by simp [hBf]
                have HBf := Lib.hid hBf
                clear hBf
                go_wp2_with (first
                  | (at_builtin; refine wpList_append_two intsOf (.tmp 44) (.tmp 47) rfl rfl (base := w.heap.size) rfl H2A.out.a rfl rfl (news := [.int .i64 x1]) (by intro j u hu; rw [Addr.add_lit, World.cell?_alloc_at _ _ _ _ rfl]; simpa using hu) (by intro u hu; simp at hu; subst hu; rfl) (by omega) (by omega) H2A.out.le (by omega) ?_; intro g3 cap3 w3 hown3 hgr3 hor3; (have h23 := Lib.hid (H2A.out.addA hgr3 hor3 hown3)); (have be3 := HBA.out.grownBy hgr3 (fun e => by have := HAG.out _ e; omega)); (have hb3 := Lib.hid (HBWA.out.grown hgr3 H2A.out.le (fun q hq => (H2A.out.a.lt q hq).1))); (have hs3 : g + 1 ≤ w3.heap.size := by (have := hgr3.size); simp at this; omega); (have ce30 := be3.cell 0 _ rfl); (have ce31 := be3.cell 1 _ rfl); (have h24 := Lib.hid (h23.out.alloc (.cells #[.int .i64 x1] 3))); (have hb4 := Lib.hid (hb3.out.alloc (by omega) (.cells #[.int .i64 x1] 3))); clear hown3 hgr3 hor3 be3)
                  | (at_builtin; refine wpList_append_two intsOf (.tmp 53) (.tmp 56) rfl rfl (base := w.heap.size) rfl h24.out.b rfl rfl (news := [.int .i64 x1]) (by intro j u hu; rw [Addr.add_lit, World.cell?_alloc_at _ _ _ _ rfl]; simpa using hu) (by intro u hu; simp at hu; subst hu; rfl) (by omega) (by omega) h24.out.le (by omega) ?_; intro g5 cap5 w5 hown5 hgr5 hor5; (have h25 := Lib.hid ((h24.out.swap.addA hgr5 hor5 hown5).swap)); (have hb5 := Lib.hid (hb4.out.grown hgr5 h24.out.le (fun q hq => (h24.out.b.lt q hq).1))); clear hown5 hgr5 hor5))
                have HSn : Hid (SR L f w.heap.size w i (k + 1) (.slice (some ⟨g3, 0, none⟩) (no + 1) cap3) (.slice (some ⟨g5, 0, none⟩) (nt + 1) cap5) w5) := by
                  have hr := HRI.out.add (by have h := HLk.out; rw [HA.out] at h; exact h) HTI.out HM.out
                  rw [if_pos HBf.out] at hr
                  refine Lib.hid ⟨out ++ [x1], T ++ [x1], _, no + 1, cap3, g5, nt + 1, cap5, rfl, rfl, by simp [HO.out], by simp [HT.out], hr, ?_, hb5.out⟩
                  rw [List.map_append, List.map_append]; exact h25.out
                go_roundw
                case rel => exact ⟨k + 1, by go_num, by omega, HSn.out, no + 1, cap3, _, g5, nt + 1, cap5, rfl, rfl, by omega⟩
                case measure => simp [intOf]; omega
          · have hA1 : (x2 != t) = true := by simp [hA]
            have HSn : Hid (SR L f w.heap.size w i (k + 1) (.slice ao1 no co) (.slice (some ⟨bT, 0, none⟩) nt cT) wr) :=
              Lib.hid ⟨out, T, ao1, no, co, bT, nt, cT, rfl, rfl, HO.out, HT.out, HRI.out.skip HLk.out HTI.out (.inl hA), HR2.out, HB.out⟩
            clear hA
            go_quiet (fail)
            have hq := below_dn (Below.refl w0.heap.size w0) nq
            have hX := HB0.out.trans (hq.mono HB0.out.size)
            go_wp2
            go_roundw
            case rel => exact ⟨k + 1, by go_num, by omega, HSn.out.below hX, no, co, ao1, bT, nt, cT, rfl, rfl, hlt⟩
            case measure => simp [intOf]; omega
        · obtain rfl : n = k := by omega
          go_wp2_with fail
          have HSn : Hid (SR L f w.heap.size w (i + 1) 0 (.slice ao1 no co) (.slice (some ⟨bT, 0, none⟩) nt cT) wr) := by
            obtain ⟨out, T, ao2, no2, co2, bT2, nt2, cT2, e1, e2, h1, h2, h3, h4, h5⟩ := HS.out
            rw [← HLn.out] at h3
            exact Lib.hid ⟨out, T, ao2, no2, co2, bT2, nt2, cT2, e1, e2, h1, h2, h3.next, h4, h5⟩
          have hin : i ≤ n := by
            obtain ⟨out, T, ao2, no2, co2, bT2, nt2, cT2, e1, e2, h1, h2, h3, h4, h5⟩ := HS.out
            have := h3.T_le
            rw [HLn.out, h2] at this
            injection e2 with _ e2 _
            omega
          go_wp2
          simp only [Exit.noGoto_normal, Exit.inBlock]
          go_wp2
          go_roundw
          case rel => exact ⟨i + 1, by go_num, HSn.out⟩
          case measure => simp [intOf]; omega
    · have HD := HRI.out.done (by rw [HT.out]; omega)
      go_wp2
      go_ret
      refine ⟨out, _, rfl, HD, ?_, HB.out⟩
      show Reads 1 _ _ _ _
      rw [HO.out]
      exact Reads.of_own HR2.out.a
end Go.Proofs.Ytjakekfalooebaa

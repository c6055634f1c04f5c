/- The law WaitPaths, walked. Conditions: none. -/
import Derived.Test.YtjakekfalooebaaWPlays
import Derived.Test.YtjakekfalooebaaWPathsP
import Derived.Test.YtjakekfalooebaaAppF
namespace Go.Proofs.Ytjakekfalooebaa
set_option linter.unusedSimpArgs false
set_option linter.unusedVariables false
open Go.RowKit
open W (Rch IsCyc IsVic FreeTo down backL)

/-- append to a literal of no elements: memory grows alone -/
theorem wpList_append_lit2 {P : Program} {w : World} {ops : Array Oper} {rest : List Oper} {o : Oper} {a : Act} {Q : Exit → Act → World → Prop}
    {t e : TypeId} {z : Value} {size bytes : Nat} (T : SliceOf P t e z size bytes) (s x : Operand) (hgd : o.guard = none)
    (ho : o.op = .call { callee := .builtin .append, args := #[s, x], argTypes := #[t, t] })
    {base lo : Nat} (hs : a.eval s = .slice (some ⟨lo, 0, none⟩) 0 0) (hown : w.ownsRow base e size (.slice (some ⟨lo, 0, none⟩) 0 0) 0 [])
    {y : Value} {m : Nat} {news : List Value} (hx : a.eval x = y) (hr : Reads size w y m news) (h1 : ∀ u ∈ news, u.oneCell' = true)
    (h63 : m ≤ 1152921504606846976) (hbytes : m * bytes ≤ 140737488355328) (hbase : base ≤ w.heap.size)
    (h : ∀ ao cap w', Grow w w' → w'.ownsRow base e size (.slice ao m cap) m news → wpList P ops Q rest (a.put o.dst (.slice ao m cap)) w') : wpList P ops Q (o :: rest) a w := by
  obtain ⟨i, hi, hz0, hz1, hz2⟩ := info_parts T.info
  obtain ⟨ao2, c2, rfl, hl, hmc, hcells⟩ := hr
  have hrun : ∃ ao cap w', (Builtin.append_ #[t, t] o.type #[.slice (some ⟨lo, 0, none⟩) 0 0, .slice ao2 m c2]).run P w = .ok (.slice ao m cap) w' ∧ Grow w w' ∧ w'.ownsRow base e size (.slice ao m cap) m news := by
    rcases Nat.eq_zero_or_pos m with e0 | hm
    · subst e0
      obtain rfl : news = [] := List.eq_nil_of_length_eq_zero (by simpa using hl)
      exact ⟨_, 0, w, run_append_zero t o.type e i T.und hi (some ⟨lo, 0, none⟩) ao2 0 0 c2 (Nat.le_refl _) (by intro h; cases h), Grow.refl _, hown⟩
    · obtain ⟨b, off, rfl, hlt, hc⟩ := hcells hm
      obtain ⟨v2, w2, hrun2, hown2, hgr⟩ := run_append_arg_grows (P := P) (w := w) t o.type e i z size bytes T.und hi hz0 hz1 hz2 T.cells T.pos ⟨lo, 0, none⟩ 0 0 [] (by simp) (by intro j u hu; cases hu) ⟨b, off, none⟩ m c2 news hl (fun j u hu => by rw [Addr.add_lit]; exact hc j u hu) (by omega) (by unfold maxLen; omega) (by simpa using hbytes)
      simp only [Nat.zero_add, List.nil_append] at hown2
      have hown3 := own_base (base' := base) hown2 hbase
      rcases hown2.2 with ⟨rfl, h0⟩ | ⟨g, cap, cur, rfl, _⟩
      · omega
      · exact ⟨_, cap, w2, hrun2, ⟨hgr.os, hgr.tape, hgr.output, hgr.size, fun k hk => hgr.block k hk (by simp)⟩, hown3⟩
  obtain ⟨ao, cap, w', hrun, hg, hown'⟩ := hrun
  refine wpList_plain hgd fun K hK => ?_
  unfold Oper.wp
  simp [execOp, ho, resolve, invoke, builtin, hs, hx, hrun, Result.andThen]
  exact hK _ _ (h ao cap w' hg hown')

def WPa17 (G g q cb : Nat) (bo : Option Addr) (m : List (Int × Int)) (x1 x2 : Int) (j b o : Nat) : Prop := False
def PPa17 (G g q cb : Nat) (bo : Option Addr) (m : List (Int × Int)) (x1 x2 : Int) (i : Nat) (v : Value) (lo hi : Nat) (w : World) : Prop :=
  match i with
  | 0 => v = .slice (some ⟨lo, 0, none⟩) 0 0 ∧ w.ownsRow G 24 2 (.slice (some ⟨lo, 0, none⟩) 0 0) 0 []
  | 1 => v = .slice bo q cb
  | 2 => ∃ ao c, v = .slice ao q c ∧ w.ownsRow G 24 2 (.slice ao q c) q (ecells m)
  | 3 => v = .agg #[.int .i64 x1, .int .i64 x2]
  | 4 => v = .slice (some ⟨lo, 0, none⟩) 1 1 ∧ lo < w.heap.size ∧ w.cell? ⟨lo, 0, none⟩ = some (.int .i64 x1) ∧ w.cell? ⟨lo, 1, none⟩ = some (.int .i64 x2)
  | _ => True
theorem PPa17_stable (G g q cb : Nat) (bo : Option Addr) (m : List (Int × Int)) (x1 x2 : Int)  : ∀ i j, i < 5 → j < 5 → j ≠ i → j ∉ ([[], [], [0, 1], [], [3]] : List (List Nat)).getD i [] → ∀ v lo hi w w', PPa17 G g q cb bo m x1 x2 i v lo hi w → GrowC (WPa17 G g q cb bo m x1 x2 j) w w' → PPa17 G g q cb bo m x1 x2 i v lo hi w' := by
  intro i j hi hj hne hbs v lo hj2 w w' h hg
  match i, hi with
  | 0, _ =>
    simp only [PPa17] at h ⊢
    exact ⟨h.1, own_growx (X := fun _ => False) h.2 (GrowX.of_growC hg (fun k o hw => hw)) (fun _ _ h => h)⟩
  | 1, _ =>
    simp only [PPa17] at h ⊢
    exact h
  | 2, _ =>
    simp only [PPa17] at h ⊢
    obtain ⟨ao, c, e, h⟩ := h
    exact ⟨ao, c, e, own_growx (X := fun _ => False) h (GrowX.of_growC hg (fun k o hw => hw)) (fun _ _ h => h)⟩
  | 3, _ =>
    simp only [PPa17] at h ⊢
    exact h
  | 4, _ =>
    simp only [PPa17] at h ⊢
    exact ⟨h.1, Nat.lt_of_lt_of_le h.2.1 hg.size, (hg.cell _ _ h.2.1 (fun hw => hw)).trans h.2.2.1, (hg.cell _ _ h.2.1 (fun hw => hw)).trans h.2.2.2⟩
  | (q + 5), hq => exact absurd hq (by omega)
def WPa27 (g n1 c1 b o : Nat) (p q : Int) (j b o : Nat) : Prop := False
def PPa27 (g n1 c1 b o : Nat) (p q : Int) (i : Nat) (v : Value) (lo hi : Nat) (w : World) : Prop :=
  match i with
  | 0 => v = .int .i64 q
  | 1 => v = .pointer (some ⟨g, 1, none⟩)
  | 2 => v = .int .i64 q
  | 3 => v = .bool true
  | 4 => v = .bool true
  | 5 => v = .slice (some ⟨b, o, none⟩) n1 c1
  | 6 => v = .int .i64 ((n1 : Nat) : Int)
  | 7 => v = .bool true
  | 8 => v = .bool true
  | 9 => v = .bool true
  | 10 => v = .slice (some ⟨b, o, none⟩) n1 c1
  | 11 => v = .pointer (some ⟨b, o, none⟩)
  | 12 => v = .int .i64 p
  | 13 => v = .pointer (some ⟨g, 0, none⟩)
  | 14 => v = .int .i64 p
  | 15 => v = .bool true
  | 16 => v = .bool true
  | 17 => v = .bool true
  | _ => True
theorem PPa27_stable (g n1 c1 b o : Nat) (p q : Int)  : ∀ i j, i < 18 → j < 18 → j ≠ i → j ∉ ([[], [], [1], [0, 1, 2], [0, 1, 2, 3], [0, 1, 2, 3, 4], [0, 1, 2, 3, 4, 5], [0, 1, 2, 3, 4, 5, 6], [0, 1, 2, 3, 4, 5, 6, 7], [0, 1, 2, 3, 4, 5, 6, 7, 8], [0, 1, 2, 3, 4, 5, 6, 7, 8, 9], [0, 1, 2, 3, 4, 5, 6, 7, 8, 9, 10], [0, 1, 2, 3, 4, 5, 6, 7, 8, 9, 10, 11], [0, 1, 2, 3, 4, 5, 6, 7, 8, 9], [0, 1, 2, 3, 4, 5, 6, 7, 8, 9, 13], [0, 1, 2, 3, 4, 5, 6, 7, 8, 9, 10, 11, 12, 13, 14], [0, 1, 2, 3, 4, 5, 6, 7, 8, 9, 10, 11, 12, 13, 14, 15], [0, 1, 2, 3, 4, 5, 6, 7, 8, 9, 10, 11, 12, 13, 14, 15, 16]] : List (List Nat)).getD i [] → ∀ v lo hi w w', PPa27 g n1 c1 b o p q i v lo hi w → GrowC (WPa27 g n1 c1 b o p q j) w w' → PPa27 g n1 c1 b o p q i v lo hi w' := by
  intro i j hi hj hne hbs v lo hj2 w w' h hg
  match i, hi with
  | 0, _ =>
    simp only [PPa27] at h ⊢
    exact h
  | 1, _ =>
    simp only [PPa27] at h ⊢
    exact h
  | 2, _ =>
    simp only [PPa27] at h ⊢
    exact h
  | 3, _ =>
    simp only [PPa27] at h ⊢
    exact h
  | 4, _ =>
    simp only [PPa27] at h ⊢
    exact h
  | 5, _ =>
    simp only [PPa27] at h ⊢
    exact h
  | 6, _ =>
    simp only [PPa27] at h ⊢
    exact h
  | 7, _ =>
    simp only [PPa27] at h ⊢
    exact h
  | 8, _ =>
    simp only [PPa27] at h ⊢
    exact h
  | 9, _ =>
    simp only [PPa27] at h ⊢
    exact h
  | 10, _ =>
    simp only [PPa27] at h ⊢
    exact h
  | 11, _ =>
    simp only [PPa27] at h ⊢
    exact h
  | 12, _ =>
    simp only [PPa27] at h ⊢
    exact h
  | 13, _ =>
    simp only [PPa27] at h ⊢
    exact h
  | 14, _ =>
    simp only [PPa27] at h ⊢
    exact h
  | 15, _ =>
    simp only [PPa27] at h ⊢
    exact h
  | 16, _ =>
    simp only [PPa27] at h ⊢
    exact h
  | 17, _ =>
    simp only [PPa27] at h ⊢
    exact h
  | (q + 18), hq => exact absurd hq (by omega)

set_option maxRecDepth 100000 in
set_option maxHeartbeats 12800000 in
theorem paths_any (l : List (Int × Int)) (v : Value) (n : Nat) (hl : l.length = n) (hn : n ≤ 9223372036854775807) (p q : Int) (w : World) (hv : Reads 2 w v n (ecells l)) :
    Calls Try.prog 3 #[v, .agg #[.int .i64 p, .int .i64 q]] w (True2 w) := by
  obtain ⟨ao, c, rfl⟩ := hv.shape
  have HL := Lib.hid hl
  have HV := Lib.hid hv
  clear hl hv
  by_cases h20 : 20 < n
  · have h21 : decide (20 < n) = true := by simpa using h20
    have hB0 := (Below.refl w.heap.size w).alloc (Nat.le_refl _) (.cells #[.int .i64 p, .int .i64 q] 24)
    have HB0 := Lib.hid hB0
    clear hB0
    go_enter Try.func3, Try.ntmps3
    go_wp2_with (go_at_call 7; refine (awake_any _).mono ?_; rintro e w1 ⟨rfl, hb⟩)
    go_ret
    exact ⟨rfl, HB0.out.trans (hb.mono HB0.out.size)⟩
  have h21 : decide (20 < n) = false := by simpa using h20
  have hn' : n ≤ 1099511627776 := by omega
  obtain ⟨g, hg0⟩ : ∃ g, w.heap.size = g := ⟨_, rfl⟩
  have be := Box.new w #[.int .i64 p, .int .i64 q] 24 hg0.symm
  have hB := (Below.refl w.heap.size w).alloc (Nat.le_refl _) (.cells #[.int .i64 p, .int .i64 q] 24)
  have HF : Hid (Box (w.alloc (.cells #[.int .i64 p, .int .i64 q] 24)) g [.int .i64 p, .int .i64 q] ∧ Below w.heap.size w (w.alloc (.cells #[.int .i64 p, .int .i64 q] 24)) ∧ (w.alloc (.cells #[.int .i64 p, .int .i64 q] 24)).heap.size = g + 1) :=
    Lib.hid ⟨be, hB, by simp; omega⟩
  have HG := Lib.hid hg0
  clear be hB hg0
  go_enter Try.func3, Try.ntmps3
  go_wp2_with fail
  rw [HG.out]
  refine wp_world (fun w0 => Box w0 g [.int .i64 p, .int .i64 q] ∧ Below w.heap.size w w0 ∧ w0.heap.size = g + 1) HF.out ?_
  clear HF
  rintro w0 ⟨be, hB, hs0⟩
  obtain ⟨G, hG⟩ : ∃ G, g + 1 = G := ⟨_, rfl⟩
  rw [hG] at hs0
  have hgG : g < G := by omega
  have hgw : w.heap.size ≤ g := by have := HG.out; omega
  have HGG := Lib.hid hG
  have HS0 := Lib.hid hs0
  have HBW := Lib.hid hB
  have HE0 := Lib.hid be
  have HV0 := Lib.hid (HV.out.below hB (Nat.le_refl _))
  clear be hB hs0 HV hG
  go_loopw [5, 6] (fun s i wr => ∃ (k m cb : Nat) (bo : Option Addr), k ≤ n ∧ i = .int .i64 k ∧ s = .slice bo m cb ∧ Hid (m = (down (l.take k)).length) ∧ m ≤ k ∧
      wr.ownsRow G 24 2 (.slice bo m cb) m (ecells (down (l.take k))) ∧ Below G w0 wr) (fun _ i _ => n - (intOf i).toNat)
  case atStart => exact ⟨0, 0, 0, none, Nat.zero_le _, rfl, rfl, Lib.hid rfl, Nat.le_refl _, World.ownsRow_nil _ _ _ _, Below.refl _ _⟩
  case round =>
    obtain ⟨k, m, cb, bo, hk, rfl, rfl, HM, hmk, hown, hnx⟩ := hrel
    have HO := Lib.hid hown
    have HNX := Lib.hid hnx
    have hsz : G ≤ wr.heap.size := by have := hnx.size; have := HS0.out; omega
    clear hown hnx
    by_cases hlt : k < n
    · have hkl : k < l.length := by rw [HL.out]; exact hlt
      have hts : l.take (k + 1) = l.take k ++ [l[k]] := List.take_succ_eq_append_getElem hkl
      obtain ⟨b, o, c', e, hb, _, hc1, hc2⟩ := Edges.at HV0.out k hlt l[k] (List.getElem?_eq_getElem hkl)
      have hbG : b < G := by rw [← HS0.out]; exact hb
      injection e with e1 e2 e3
      subst e1 e3
      generalize l[k] = x at *
      obtain ⟨x1, x2⟩ := x
      have hd1 := (HNX.out.cell (p := ⟨b, o + k * 2, none⟩) hbG).trans hc1
      have hd2 := (HNX.out.cell (p := ⟨b, o + k * 2 + 1, none⟩) hbG).trans hc2
      clear hc1 hc2 hkl hb
      by_cases h1 : x2 < x1
      · have HT : Hid (down (l.take (k + 1)) = down (l.take k) ++ [(x1, x2)]) := by show _ = _; rw [hts]; exact W.down_snoc_yes _ _ h1
        have hb1 : decide (x2 < x1) = true := by simpa using h1
        clear h1 hts
        go_wp2_with fail
        go_quiet (fail)
        have hq := below_dn (Below.refl G wr) nq
        have HOq := Lib.hid (own_below HO.out (below_dn (Below.refl wr.heap.size wr) nq) (fun g e => (HO.out.lt g e).2))
        have HNq := Lib.hid (HNX.out.trans hq)
        have hsq : G ≤ (wr.drewN nq).heap.size := by simpa using hsz
        have hd3 := (below_dn (Below.refl (b + 1) wr) nq).cell (p := ⟨b, o + k * 2, none⟩) (Nat.lt_succ_self _)
        clear hq
        go_wp2_with (at_builtin; refine wpList_appG edgesOf (.tmp 36) (.tmp 41) rfl rfl (base := G) (W0 := w0) rfl HOq.out HNq.out (arr := #[.int .i64 x1, .int .i64 x2]) (m := 1) rfl rfl rfl (by intro u hu; simp at hu; rcases hu with rfl | rfl <;> rfl) (by omega) (by omega) (by omega) (by omega) ?_; intro g2 cap2 w2 hown2 hbel2 hg2 hg3 hc2)
        have hown3 : w2.ownsRow G 24 2 (.slice (some ⟨g2, 0, none⟩) (m + 1) cap2) (m + 1) (ecells (down (l.take (k + 1)))) := by rw [HT.out, ecells_append]; exact hown2
        go_roundw
        case rel => exact ⟨k + 1, m + 1, cap2, _, by omega, by go_num, rfl, Lib.hid (by rw [HT.out, List.length_append, ← HM.out]; rfl), by omega, hown3, hbel2⟩
        case measure => simp [intOf]; omega
      · have HT : Hid (down (l.take (k + 1)) = down (l.take k)) := by show _ = _; rw [hts]; exact W.down_snoc_no _ _ h1
        have hb1 : decide (x2 < x1) = false := by simpa using h1
        clear h1 hts
        go_wp2_with fail
        go_quiet (fail)
        have hq := below_dn (Below.refl G wr) nq
        have hOq := own_below HO.out (below_dn (Below.refl wr.heap.size wr) nq) (fun g e => (HO.out.lt g e).2)
        have HOq : Hid ((wr.drewN nq).ownsRow G 24 2 (.slice bo m cb) m (ecells (down (l.take (k + 1))))) := by rw [HT.out]; exact Lib.hid hOq
        have HNq := Lib.hid (HNX.out.trans hq)
        clear hq hOq
        go_wp2
        go_roundw
        case rel => exact ⟨k + 1, m, cb, bo, by omega, by go_num, rfl, Lib.hid (by rw [HT.out]; exact HM.out), by omega, HOq.out, HNq.out⟩
        case measure => simp [intOf]; omega
    · obtain rfl : n = k := by omega
      have hall : l.take n = l := List.take_of_length_le (Nat.le_of_eq HL.out)
      have HML : Hid ((down l).length = m) := by have := HM.out; rw [hall] at this; exact Lib.hid this.symm
      have HR : Hid (Reads 2 wr (.slice bo m cb) m (ecells (down l))) := by have := Reads.of_own HO.out; rw [hall] at this; exact Lib.hid this
      have HE := Lib.hid (HE0.out.below' HNX.out hgG)
      have HB := Lib.hid (HBW.out.trans (HNX.out.mono (by omega)))
      have hgr : g < wr.heap.size := by omega
      clear HO HM hall HNX HE0 HBW HS0 HV0
      obtain ⟨wo, rfl⟩ : ∃ wo : World, wo = wr := ⟨_, rfl⟩
      go_wp2_with fail
      go_loopw [7] (fun i wr => ∃ (k : Nat), k ≤ m ∧ i = .int .i64 k ∧ Below wo.heap.size wo wr) (fun i _ => m - (intOf i).toNat)
      case atStart => exact ⟨0, Nat.zero_le _, rfl, Below.refl _ _⟩
      case round =>
        clear hlt
        obtain ⟨k, hk, rfl, hnx⟩ := hrel
        by_cases hlt : k < m
        · have hkl : k < (down l).length := by rw [HML.out]; exact hlt
          obtain ⟨b, o, c', e, hb, _, hc1, hc2⟩ := Edges.at HR.out k hlt (down l)[k] (List.getElem?_eq_getElem hkl)
          injection e with e1 e2 e3
          subst e1 e3
          generalize (down l)[k] = x at *
          obtain ⟨x1, x2⟩ := x
          have hd1 := (hnx.cell (p := ⟨b, o + k * 2, none⟩) hb).trans hc1
          clear hc1 hc2 hkl
          go_wp2_with fail
          refine (victim_any (down l) _ m HML.out (by omega) x1 _ (HR.out.below hnx (Nat.le_refl _))).mono ?_
          rintro e w3 ⟨v3, ok3, rfl, hv3, hb3⟩
          obtain rfl := W.down_vic hv3
          have hnx3 := hnx.trans (hb3.mono hnx.size)
          clear hv3 hb3
          go_wp2
          go_roundw
          case rel => exact ⟨k + 1, by omega, by go_num, hnx3⟩
          case measure => simp [intOf]; omega
        · obtain rfl : m = k := by omega
          have HR1 := Lib.hid (HR.out.below hnx (Nat.le_refl _))
          have HE1 := Lib.hid (HE.out.below hnx (Nat.le_refl _))
          have HB1 := Lib.hid (HB.out.trans (hnx.mono HB.out.size))
          have hgr1 : g < wr.heap.size := Nat.lt_of_lt_of_le hgr hnx.size
          clear hnx HR HE HB
          go_wp2_with fail
          refine (free_any (down l) _ m HML.out (by omega) wr HR1.out).mono ?_
          rintro e w2 ⟨f2, v2, rfl, hf2, hr2, hb2⟩
          obtain rfl := W.down_free hf2
          obtain ⟨ao2, c2, rfl⟩ := Reads.shape hr2
          rw [HML.out]
          have HR2 := Lib.hid (HR1.out.below hb2 (Nat.le_refl _))
          have HE2 := Lib.hid (HE1.out.below hb2 (Nat.le_refl _))
          have HB2 := Lib.hid (HB1.out.trans (hb2.mono HB1.out.size))
          have hgr2 : g < w2.heap.size := Nat.lt_of_lt_of_le hgr1 hb2.size
          clear hf2 hr2 hb2 HR1 HE1 HB1 hgr1
          have ce0 := HE2.out.cell 0 _ rfl
          have ce1 := HE2.out.cell 1 _ rfl
          have cef := HE2.out.free
          have hmm : ((m : Int) != (m : Int)) = false := by simp
          by_cases hpq : q ≤ p
          · have hb1 : decide (q ≤ p) = true := by simpa using hpq
            go_wp2_with fail
            refine (free_any (down l) _ m HML.out (by omega) w2 HR2.out).mono ?_
            rintro e w3 ⟨f3, v3, rfl, hf3, hr3, hb3⟩
            obtain rfl := W.down_free hf3
            obtain ⟨ao3, c3, rfl⟩ := Reads.shape hr3
            rw [HML.out]
            have HB3 := Lib.hid (HB2.out.trans (hb3.mono HB2.out.size))
            have hmm2 : ((m : Int) == (m : Int)) = true := by simp
            clear hf3 hr3 hb3 HR2 HE2 HB2 ce0 ce1 cef
            go_wp2_with (go_at_call 7; refine (awake_any _).mono ?_; rintro e wz ⟨rfl, hb⟩)
            go_ret
            exact ⟨rfl, HB3.out.trans (hb.mono HB3.out.size)⟩
          · have hb1 : decide (q ≤ p) = false := by simpa using hpq
            have hpq' : p < q := by omega
            have HPQ := Lib.hid hpq'
            clear hpq hpq'
            go_wp2_with fail
            clear ce0 ce1 cef
            obtain ⟨w6, hw6⟩ : ∃ w6, w6 = w2 := ⟨_, rfl⟩
            rw [← hw6]
            have HRM : Hid (Reads 2 w6 (.slice bo m cb) m (ecells (down l))) := by rw [hw6]; exact HR2
            have be : Box w6 g [.int .i64 p, .int .i64 q] := by rw [hw6]; exact HE2.out
            have hB : Below w.heap.size w w6 := by rw [hw6]; exact HB2.out
            have hgr6 : g < w6.heap.size := by rw [hw6]; exact hgr2
            have hG6 : w6.heap.size ≤ w6.heap.size := Nat.le_refl _
            have HB0x := Lib.hid hB
            have HBX6 := Lib.hid be
            clear hw6 HR2 HE2 HB2 hgr2
            obtain ⟨G6, hG6e⟩ : ∃ G6, w6.heap.size = G6 := ⟨_, rfl⟩
            have hG6l : G6 ≤ w6.heap.size := Nat.le_of_eq hG6e.symm
            have hgG6 : g < G6 := by rw [← hG6e]; exact hgr6
            have HGE := Lib.hid hG6e
            clear hG6e hG6
            refine wp_region_partsDC (WPa17 G6 g m cb bo (down l) p q) 5 [[], [], [0, 1], [], [3]] [some 82, some 83, some 84, some 85, some 86, some 87, some 10] (by kernel_rfl) (by kernel_rfl) rfl (PPa17 G6 g m cb bo (down l) p q) (PPa17_stable G6 g m cb bo (down l) p q ) ?pPa17 ?_
            case pPa17 =>
              intro i hi o ho vs lo hx_ w' hg hp
              match i, hi with
              | 0, _ =>
                obtain rfl := Option.some.inj ho
                clear ho
                simp only [actsD, List.getD_cons_zero, List.getD_cons_succ, List.foldl_cons, List.foldl_nil, Act.put, List.setIfInBounds_toArray, List.set_cons_succ, List.set_cons_zero]
                have hsz := hg.size
                have hgB : Below w6.heap.size w6 w' := hg.below (fun k hk => ⟨hk, fun o => by rintro ⟨j, _, _, _, hw⟩; exact False.elim hw⟩)
                have ho := World.ownsRow_lit (size := 2) (e := 24) (base := G6) w' #[] 0 (by omega) (by unfold maxLen; omega) rfl
                go_wp2
                exact ⟨_, rfl, GrowC.of_grow ((Grow.refl _).alloc _), rfl, ho⟩
              | 1, _ =>
                obtain rfl := Option.some.inj ho
                clear ho
                simp only [actsD, List.getD_cons_zero, List.getD_cons_succ, List.foldl_cons, List.foldl_nil, Act.put, List.setIfInBounds_toArray, List.set_cons_succ, List.set_cons_zero]
                have hsz := hg.size
                have hgB : Below w6.heap.size w6 w' := hg.below (fun k hk => ⟨hk, fun o => by rintro ⟨j, _, _, _, hw⟩; exact False.elim hw⟩)
                go_wp2
                exact ⟨_, rfl, GrowC.refl _, rfl⟩
              | 2, _ =>
                obtain rfl := Option.some.inj ho
                clear ho
                simp only [actsD, List.getD_cons_zero, List.getD_cons_succ, List.foldl_cons, List.foldl_nil, Act.put, List.setIfInBounds_toArray, List.set_cons_succ, List.set_cons_zero]
                obtain ⟨_, _, _, h0⟩ := hp 0 (by simp)
                simp only [PPa17] at h0
                obtain ⟨_, _, _, h1⟩ := hp 1 (by simp)
                simp only [PPa17] at h1
                have hsz := hg.size
                have hgB : Below w6.heap.size w6 w' := hg.below (fun k hk => ⟨hk, fun o => by rintro ⟨j, _, _, _, hw⟩; exact False.elim hw⟩)
                rw [h1]
                obtain ⟨e0, ho⟩ := h0
                rw [e0]
                go_wp2_with (at_builtin; refine wpList_append_lit2 edgesOf (.tmp 82) (.tmp 83) rfl rfl rfl ho rfl (HRM.out.below hgB (Nat.le_refl _)) (ecells_one _) (by omega) (by omega) (by omega) ?_; intro aoq cq wz hgz hown)
                exact ⟨_, rfl, GrowC.of_grow hgz, aoq, cq, rfl, hown⟩
              | 3, _ =>
                obtain rfl := Option.some.inj ho
                clear ho
                simp only [actsD, List.getD_cons_zero, List.getD_cons_succ, List.foldl_cons, List.foldl_nil, Act.put, List.setIfInBounds_toArray, List.set_cons_succ, List.set_cons_zero]
                have hsz := hg.size
                have hgB : Below w6.heap.size w6 w' := hg.below (fun k hk => ⟨hk, fun o => by rintro ⟨j, _, _, _, hw⟩; exact False.elim hw⟩)
                have e0 := (hg.cell (g) 0 be.lt (by rintro ⟨j, _, hne, hb, hw⟩; exact False.elim hw)).trans (be.cell 0 _ rfl)
                have e1 := (hg.cell (g) 1 be.lt (by rintro ⟨j, _, hne, hb, hw⟩; exact False.elim hw)).trans (be.cell 1 _ rfl)
                go_wp2
                exact ⟨_, rfl, GrowC.refl _, rfl⟩
              | 4, _ =>
                obtain rfl := Option.some.inj ho
                clear ho
                simp only [actsD, List.getD_cons_zero, List.getD_cons_succ, List.foldl_cons, List.foldl_nil, Act.put, List.setIfInBounds_toArray, List.set_cons_succ, List.set_cons_zero]
                obtain ⟨_, _, _, h3⟩ := hp 3 (by simp)
                simp only [PPa17] at h3
                have hsz := hg.size
                have hgB : Below w6.heap.size w6 w' := hg.below (fun k hk => ⟨hk, fun o => by rintro ⟨j, _, _, _, hw⟩; exact False.elim hw⟩)
                rw [h3]
                have hbx := Box.new w' #[.int .i64 p, .int .i64 q] 24 rfl
                go_wp2
                exact ⟨_, rfl, GrowC.of_grow ((Grow.refl _).alloc _), rfl, by simp, hbx.cell 0 _ rfl, hbx.cell 1 _ rfl⟩
              | (q + 5), hq => exact absurd hq (by omega)
            intro vS lo hi w7 hg hp hd
            obtain ⟨_, _, _, h0⟩ := hp 0 (by decide)
            obtain ⟨_, _, _, h1⟩ := hp 1 (by decide)
            obtain ⟨_, _, _, h2⟩ := hp 2 (by decide)
            obtain ⟨_, _, _, h3⟩ := hp 3 (by decide)
            obtain ⟨_, _, _, h4⟩ := hp 4 (by decide)
            simp only [PPa17] at h0 h1 h2 h3 h4
            clear hp hd
            have hsz := hg.size
            replace be := be.grow hg (by intro i _; rintro ⟨j, _, hw⟩; exact False.elim hw)
            replace hB := hB.trans (hg.below (fun k hk => ⟨by omega, fun o => by rintro ⟨j, _, hw⟩; exact False.elim hw⟩))
            have hr : List.range 5 = [0, 1, 2, 3, 4] := rfl
            rw [hr]
            clear hr
            simp only [List.drop_succ_cons, List.drop_zero, List.drop_nil, actsD, List.getD_cons_zero, List.getD_cons_succ, List.foldl_cons, List.foldl_nil, Act.put, List.setIfInBounds_toArray, List.set_cons_succ, List.set_cons_zero, h1, h3]
            clear h1 h3
            obtain ⟨ao7, c7, e2, ho7⟩ := h2
            obtain ⟨e4, hlt4, hc41, hc42⟩ := h4
            simp only [e2, e4]
            have hg6 : Grow w6 w7 := hg.below (B := w6.heap.size) (fun k hk => ⟨hk, fun o => by rintro ⟨j, _, hw⟩; exact False.elim hw⟩)
            have hb6 : Below G6 w6 w7 := Below.mono hg6 hG6l
            have hsz6 := hg6.size
            have hB6x := HB0x
            clear hg e2 e4 h0 be hB
            go_wp2_with (at_builtin; refine wpList_append_row edgesOf (.tmp 84) (.tmp 86) rfl rfl (base := G6) (W0 := w6) rfl ho7 hb6 rfl rfl (news := [.int .i64 p, .int .i64 q]) (by intro j u hu; rw [Addr.add_lit]; match j, hu with | 0, hu => (simp at hu; subst hu; exact hc41) | 1, hu => (simp at hu; subst hu; exact hc42) | (q + 2), hu => (simp at hu)) (by intro u hu; simp at hu; rcases hu with rfl | rfl <;> rfl) (by omega) (by omega) (by omega) (by omega) ?_; intro g8 cap8 w8 hown8 hbel8 hg8 hlt8 hle8; (have bew8 := HBX6.out.below' hbel8 hgG6); (have ce0 := bew8.cell 0 _ rfl); (have ce1 := bew8.cell 1 _ rfl); (have cef := bew8.free); (have HO8 := Lib.hid hown8); (have HE8 := Lib.hid bew8); (have HB8 := Lib.hid (hB6x.out.trans (hbel8.mono (by omega)))); clear hown8 hbel8 bew8)
            have HBL : Hid ((backL l p q).length = m + 1) := Lib.hid (by simp [backL, HML.out])
            have HR8 : Hid (Reads 2 w8 (.slice (some ⟨g8, 0, none⟩) (m + 1) cap8) (m + 1) (ecells (backL l p q))) := by
              have := Reads.of_own HO8.out
              refine Lib.hid ?_
              rw [backL, ecells_append]
              exact this
            have hgr8 : g < w8.heap.size := by omega
            clear HO8 hg8 hle8
            go_wp2_with fail
            refine (cycle_any (backL l p q) _ (m + 1) HBL.out (by omega) p w8 HR8.out).mono ?_
            rintro e w9 ⟨c9, ao9, n9, cap9, rfl, hcl9, hcyc9, hi9, hb9⟩
            have hi9' : Reads 1 w9 (.slice ao9 n9 cap9) n9 (c9.map (Value.int .i64)) := by have := hi9; unfold Ints at this; rwa [hcl9] at this
            have HE9 := Lib.hid (HE8.out.below hb9 (Nat.le_refl _))
            have hgr9 : g < w9.heap.size := Nat.lt_of_lt_of_le hgr8 hb9.size
            have HB9 := Lib.hid (HB8.out.trans (hb9.mono HB8.out.size))
            have HR9 := Lib.hid (HR8.out.below hb9 (Nat.le_refl _))
            have hle9 : n9 ≤ m + 1 := by rw [← hcl9, ← HBL.out]; exact hcyc9.length
            have HI9 := Lib.hid hi9'
            have HC9 := Lib.hid hcyc9
            have HL9 := Lib.hid hcl9
            clear hi9 hi9' hb9 hcyc9 hcl9 HE8 HB8 HR8 ce0 ce1 cef
            have ce0 := HE9.out.cell 0 _ rfl
            have ce1 := HE9.out.cell 1 _ rfl
            have cef := HE9.out.free
            go_wp2_with fail
            refine (victim_any (backL l p q) _ (m + 1) HBL.out (by omega) q w9 HR9.out).mono ?_
            rintro e w10 ⟨v10, ok10, rfl, hv10, hb10⟩
            have HE10 := Lib.hid (HE9.out.below hb10 (Nat.le_refl _))
            have hgr10 : g < w10.heap.size := Nat.lt_of_lt_of_le hgr9 hb10.size
            have HB10 := Lib.hid (HB9.out.trans (hb10.mono HB9.out.size))
            have HR10 := Lib.hid (HR9.out.below hb10 (Nat.le_refl _))
            have HI10 := Lib.hid (HI9.out.below hb10 (Nat.le_refl _))
            have HV10 := Lib.hid hv10
            clear hv10 hb10 HE9 HB9 HR9 HI9 ce0 ce1 cef
            cases ok10 with
            | false =>
              obtain rfl := W.back_cyc_no HPQ.out HV10.out HC9.out
              have hn9 : n9 = 0 := HL9.out.symm
              subst hn9
              go_wp2_with fail
              refine (free_any (backL l p q) _ (m + 1) HBL.out (by omega) w10 HR10.out).mono ?_
              rintro e w11 ⟨f11, v11, rfl, hf11, hr11, hb11⟩
              obtain rfl := W.back_free HPQ.out HV10.out hf11
              obtain ⟨ao11, c11, rfl⟩ := Reads.shape hr11
              rw [HBL.out]
              have HB11 := Lib.hid (HB10.out.trans (hb11.mono HB10.out.size))
              have hmm2 : ((m : Int) + 1 == (m : Int) + 1) = true := by simp
              have hmm3 : (((m + 1 : Nat) : Int) == ((m + 1 : Nat) : Int)) = true := by simp
              clear hf11 hr11 hb11 HE10 HB10 HR10 HI10
              go_wp2_with (go_at_call 7; refine (awake_any _).mono ?_; rintro e wz ⟨rfl, hb⟩)
              go_ret
              exact ⟨rfl, HB11.out.trans (hb.mono HB11.out.size)⟩
            | true =>
              obtain ⟨rfl, hrr⟩ := W.back_yes HPQ.out HV10.out
              obtain ⟨hc1, hc0, hcb⟩ := W.back_cyc HPQ.out hrr HC9.out
              have hgt : 1 < n9 := by rw [← HL9.out]; exact hc1
              have HC0 := Lib.hid hc0
              have HCB := Lib.hid hcb
              clear hrr hc1 hc0 hcb
              go_wp2_with fail
              go_loopw [14] (fun i wr => ∃ (k : Nat), k ≤ n9 ∧ i = .int .i64 k ∧ Below w10.heap.size w10 wr) (fun i _ => n9 - (intOf i).toNat)
              case atStart => exact ⟨0, Nat.zero_le _, rfl, Below.refl _ _⟩
              case round =>
                clear hlt
                obtain ⟨k, hk, rfl, hnx⟩ := hrel
                have be := HE10.out.below hnx (Nat.le_refl _)
                have ce0 := be.cell 0 _ rfl
                have ce1 := be.cell 1 _ rfl
                have cef := be.free
                by_cases hlt : k < n9
                · have hkl : k < c9.length := by rw [HL9.out]; exact hlt
                  have hu : (c9.map (Value.int .i64))[k]? = some (.int .i64 c9[k]) := by rw [List.getElem?_map, List.getElem?_eq_getElem hkl]; rfl
                  obtain ⟨b, o, c', e, hb, _, hc1⟩ := Reads.at HI10.out k hlt _ hu
                  have hbd := HCB.out c9[k] (List.getElem_mem hkl)
                  injection e with e1 e2 e3
                  subst e1 e3
                  generalize c9[k] = x at *
                  have hd1 := (hnx.cell (p := ⟨b, o + k, none⟩) hb).trans hc1
                  have hx1 : decide (x < p) = false := by simp; omega
                  have hx2 : decide (v10 < x) = false := by simp; omega
                  clear hc1 hkl hu
                  go_wp2_with fail
                  go_quiet (fail)
                  go_wp2
                  have hq := below_dn (Below.refl wr.heap.size wr) nq
                  go_roundw
                  case rel => exact ⟨k + 1, by omega, by go_num, hnx.trans (hq.mono hnx.size)⟩
                  case measure => simp [intOf]; omega
                · obtain rfl : n9 = k := by omega
                  obtain ⟨b, o, c', e, hb, _, hc1⟩ := Reads.at HI10.out 0 (by omega) (.int .i64 p) (by rw [List.getElem?_map, HC0.out]; rfl)
                  injection e with e1 e2 e3
                  subst e1 e3
                  have hd1 := (hnx.cell (p := ⟨b, o + 0, none⟩) hb).trans hc1
                  simp only [Nat.add_zero] at hd1
                  have hbr : b < wr.heap.size := Nat.lt_of_lt_of_le hb hnx.size
                  have hB := HB10.out.trans (hnx.mono HB10.out.size)
                  have hgrr : g < wr.heap.size := Nat.lt_of_lt_of_le hgr10 hnx.size
                  clear hc1 hb hnx ce0 ce1 cef
                  go_wp2_with fail
                  refine wp_region_partsDC (WPa27 g n9 cap9 b o p v10) 18 [[], [], [1], [0, 1, 2], [0, 1, 2, 3], [0, 1, 2, 3, 4], [0, 1, 2, 3, 4, 5], [0, 1, 2, 3, 4, 5, 6], [0, 1, 2, 3, 4, 5, 6, 7], [0, 1, 2, 3, 4, 5, 6, 7, 8], [0, 1, 2, 3, 4, 5, 6, 7, 8, 9], [0, 1, 2, 3, 4, 5, 6, 7, 8, 9, 10], [0, 1, 2, 3, 4, 5, 6, 7, 8, 9, 10, 11], [0, 1, 2, 3, 4, 5, 6, 7, 8, 9], [0, 1, 2, 3, 4, 5, 6, 7, 8, 9, 13], [0, 1, 2, 3, 4, 5, 6, 7, 8, 9, 10, 11, 12, 13, 14], [0, 1, 2, 3, 4, 5, 6, 7, 8, 9, 10, 11, 12, 13, 14, 15], [0, 1, 2, 3, 4, 5, 6, 7, 8, 9, 10, 11, 12, 13, 14, 15, 16]] [some 137, some 138, some 139, some 140, some 141, some 142, some 143, some 144, some 145, some 146, some 147, some 148, some 149, some 150, some 151, some 152, some 153, some 154, some 155, some 156, some 4] (by kernel_rfl) (by kernel_rfl) rfl (PPa27 g n9 cap9 b o p v10) (PPa27_stable g n9 cap9 b o p v10 ) ?pPa27 ?_
                  case pPa27 =>
                    intro i hi o ho vs lo hx_ w' hg hp
                    match i, hi with
                    | 0, _ =>
                      obtain rfl := Option.some.inj ho
                      clear ho
                      simp only [actsD, List.getD_cons_zero, List.getD_cons_succ, List.foldl_cons, List.foldl_nil, Act.put, List.setIfInBounds_toArray, List.set_cons_succ, List.set_cons_zero]
                      have hsz := hg.size
                      have hgB : Below wr.heap.size wr w' := hg.below (fun k hk => ⟨hk, fun o => by rintro ⟨j, _, _, _, hw⟩; exact False.elim hw⟩)
                      go_wp2
                      exact ⟨_, rfl, GrowC.refl _, rfl⟩
                    | 1, _ =>
                      obtain rfl := Option.some.inj ho
                      clear ho
                      simp only [actsD, List.getD_cons_zero, List.getD_cons_succ, List.foldl_cons, List.foldl_nil, Act.put, List.setIfInBounds_toArray, List.set_cons_succ, List.set_cons_zero]
                      have hsz := hg.size
                      have hgB : Below wr.heap.size wr w' := hg.below (fun k hk => ⟨hk, fun o => by rintro ⟨j, _, _, _, hw⟩; exact False.elim hw⟩)
                      go_wp2
                      exact ⟨_, rfl, GrowC.refl _, rfl⟩
                    | 2, _ =>
                      obtain rfl := Option.some.inj ho
                      clear ho
                      simp only [actsD, List.getD_cons_zero, List.getD_cons_succ, List.foldl_cons, List.foldl_nil, Act.put, List.setIfInBounds_toArray, List.set_cons_succ, List.set_cons_zero]
                      obtain ⟨_, _, _, h1⟩ := hp 1 (by simp)
                      simp only [PPa27] at h1
                      have hsz := hg.size
                      have hgB : Below wr.heap.size wr w' := hg.below (fun k hk => ⟨hk, fun o => by rintro ⟨j, _, _, _, hw⟩; exact False.elim hw⟩)
                      rw [h1]
                      have e0 := (hg.cell (g) 1 be.lt (by rintro ⟨j, _, hne, hb, hw⟩; exact False.elim hw)).trans (be.cell 1 _ rfl)
                      go_wp2
                      exact ⟨_, rfl, GrowC.refl _, rfl⟩
                    | 3, _ =>
                      obtain rfl := Option.some.inj ho
                      clear ho
                      simp only [actsD, List.getD_cons_zero, List.getD_cons_succ, List.foldl_cons, List.foldl_nil, Act.put, List.setIfInBounds_toArray, List.set_cons_succ, List.set_cons_zero]
                      obtain ⟨_, _, _, h0⟩ := hp 0 (by simp)
                      simp only [PPa27] at h0
                      obtain ⟨_, _, _, h2⟩ := hp 2 (by simp)
                      simp only [PPa27] at h2
                      have hsz := hg.size
                      have hgB : Below wr.heap.size wr w' := hg.below (fun k hk => ⟨hk, fun o => by rintro ⟨j, _, _, _, hw⟩; exact False.elim hw⟩)
                      rw [h0, h2]
                      have hb1 : (v10 == v10) = true := by simp
                      go_wp2
                      exact ⟨_, rfl, GrowC.refl _, rfl⟩
                    | 4, _ =>
                      obtain rfl := Option.some.inj ho
                      clear ho
                      simp only [actsD, List.getD_cons_zero, List.getD_cons_succ, List.foldl_cons, List.foldl_nil, Act.put, List.setIfInBounds_toArray, List.set_cons_succ, List.set_cons_zero]
                      obtain ⟨_, _, _, h3⟩ := hp 3 (by simp)
                      simp only [PPa27] at h3
                      have hsz := hg.size
                      have hgB : Below wr.heap.size wr w' := hg.below (fun k hk => ⟨hk, fun o => by rintro ⟨j, _, _, _, hw⟩; exact False.elim hw⟩)
                      rw [h3]
                      go_wp2
                      exact ⟨_, rfl, GrowC.refl _, rfl⟩
                    | 5, _ =>
                      obtain rfl := Option.some.inj ho
                      clear ho
                      simp only [actsD, List.getD_cons_zero, List.getD_cons_succ, List.foldl_cons, List.foldl_nil, Act.put, List.setIfInBounds_toArray, List.set_cons_succ, List.set_cons_zero]
                      obtain ⟨_, _, _, h4⟩ := hp 4 (by simp)
                      simp only [PPa27] at h4
                      have hsz := hg.size
                      have hgB : Below wr.heap.size wr w' := hg.below (fun k hk => ⟨hk, fun o => by rintro ⟨j, _, _, _, hw⟩; exact False.elim hw⟩)
                      rw [h4]
                      go_wp2
                      exact ⟨_, rfl, GrowC.refl _, rfl⟩
                    | 6, _ =>
                      obtain rfl := Option.some.inj ho
                      clear ho
                      simp only [actsD, List.getD_cons_zero, List.getD_cons_succ, List.foldl_cons, List.foldl_nil, Act.put, List.setIfInBounds_toArray, List.set_cons_succ, List.set_cons_zero]
                      obtain ⟨_, _, _, h4⟩ := hp 4 (by simp)
                      simp only [PPa27] at h4
                      obtain ⟨_, _, _, h5⟩ := hp 5 (by simp)
                      simp only [PPa27] at h5
                      have hsz := hg.size
                      have hgB : Below wr.heap.size wr w' := hg.below (fun k hk => ⟨hk, fun o => by rintro ⟨j, _, _, _, hw⟩; exact False.elim hw⟩)
                      rw [h4, h5]
                      go_wp2
                      exact ⟨_, rfl, GrowC.refl _, rfl⟩
                    | 7, _ =>
                      obtain rfl := Option.some.inj ho
                      clear ho
                      simp only [actsD, List.getD_cons_zero, List.getD_cons_succ, List.foldl_cons, List.foldl_nil, Act.put, List.setIfInBounds_toArray, List.set_cons_succ, List.set_cons_zero]
                      obtain ⟨_, _, _, h4⟩ := hp 4 (by simp)
                      simp only [PPa27] at h4
                      obtain ⟨_, _, _, h6⟩ := hp 6 (by simp)
                      simp only [PPa27] at h6
                      have hsz := hg.size
                      have hgB : Below wr.heap.size wr w' := hg.below (fun k hk => ⟨hk, fun o => by rintro ⟨j, _, _, _, hw⟩; exact False.elim hw⟩)
                      rw [h4, h6]
                      have hb1 : decide (1 < (n9 : Int)) = true := by simp; omega
                      go_wp2
                      exact ⟨_, rfl, GrowC.refl _, rfl⟩
                    | 8, _ =>
                      obtain rfl := Option.some.inj ho
                      clear ho
                      simp only [actsD, List.getD_cons_zero, List.getD_cons_succ, List.foldl_cons, List.foldl_nil, Act.put, List.setIfInBounds_toArray, List.set_cons_succ, List.set_cons_zero]
                      obtain ⟨_, _, _, h4⟩ := hp 4 (by simp)
                      simp only [PPa27] at h4
                      obtain ⟨_, _, _, h7⟩ := hp 7 (by simp)
                      simp only [PPa27] at h7
                      have hsz := hg.size
                      have hgB : Below wr.heap.size wr w' := hg.below (fun k hk => ⟨hk, fun o => by rintro ⟨j, _, _, _, hw⟩; exact False.elim hw⟩)
                      rw [h4, h7]
                      go_wp2
                      exact ⟨_, rfl, GrowC.refl _, rfl⟩
                    | 9, _ =>
                      obtain rfl := Option.some.inj ho
                      clear ho
                      simp only [actsD, List.getD_cons_zero, List.getD_cons_succ, List.foldl_cons, List.foldl_nil, Act.put, List.setIfInBounds_toArray, List.set_cons_succ, List.set_cons_zero]
                      obtain ⟨_, _, _, h8⟩ := hp 8 (by simp)
                      simp only [PPa27] at h8
                      have hsz := hg.size
                      have hgB : Below wr.heap.size wr w' := hg.below (fun k hk => ⟨hk, fun o => by rintro ⟨j, _, _, _, hw⟩; exact False.elim hw⟩)
                      rw [h8]
                      go_wp2
                      exact ⟨_, rfl, GrowC.refl _, rfl⟩
                    | 10, _ =>
                      obtain rfl := Option.some.inj ho
                      clear ho
                      simp only [actsD, List.getD_cons_zero, List.getD_cons_succ, List.foldl_cons, List.foldl_nil, Act.put, List.setIfInBounds_toArray, List.set_cons_succ, List.set_cons_zero]
                      obtain ⟨_, _, _, h9⟩ := hp 9 (by simp)
                      simp only [PPa27] at h9
                      have hsz := hg.size
                      have hgB : Below wr.heap.size wr w' := hg.below (fun k hk => ⟨hk, fun o => by rintro ⟨j, _, _, _, hw⟩; exact False.elim hw⟩)
                      rw [h9]
                      go_wp2
                      exact ⟨_, rfl, GrowC.refl _, rfl⟩
                    | 11, _ =>
                      obtain rfl := Option.some.inj ho
                      clear ho
                      simp only [actsD, List.getD_cons_zero, List.getD_cons_succ, List.foldl_cons, List.foldl_nil, Act.put, List.setIfInBounds_toArray, List.set_cons_succ, List.set_cons_zero]
                      obtain ⟨_, _, _, h9⟩ := hp 9 (by simp)
                      simp only [PPa27] at h9
                      obtain ⟨_, _, _, h10⟩ := hp 10 (by simp)
                      simp only [PPa27] at h10
                      have hsz := hg.size
                      have hgB : Below wr.heap.size wr w' := hg.below (fun k hk => ⟨hk, fun o => by rintro ⟨j, _, _, _, hw⟩; exact False.elim hw⟩)
                      rw [h9, h10]
                      go_wp2
                      exact ⟨_, rfl, GrowC.refl _, rfl⟩
                    | 12, _ =>
                      obtain rfl := Option.some.inj ho
                      clear ho
                      simp only [actsD, List.getD_cons_zero, List.getD_cons_succ, List.foldl_cons, List.foldl_nil, Act.put, List.setIfInBounds_toArray, List.set_cons_succ, List.set_cons_zero]
                      obtain ⟨_, _, _, h9⟩ := hp 9 (by simp)
                      simp only [PPa27] at h9
                      obtain ⟨_, _, _, h11⟩ := hp 11 (by simp)
                      simp only [PPa27] at h11
                      have hsz := hg.size
                      have hgB : Below wr.heap.size wr w' := hg.below (fun k hk => ⟨hk, fun o => by rintro ⟨j, _, _, _, hw⟩; exact False.elim hw⟩)
                      rw [h9, h11]
                      have e0 := (hgB.cell (p := ⟨b, o, none⟩) hbr).trans hd1
                      go_wp2
                      exact ⟨_, rfl, GrowC.refl _, rfl⟩
                    | 13, _ =>
                      obtain rfl := Option.some.inj ho
                      clear ho
                      simp only [actsD, List.getD_cons_zero, List.getD_cons_succ, List.foldl_cons, List.foldl_nil, Act.put, List.setIfInBounds_toArray, List.set_cons_succ, List.set_cons_zero]
                      obtain ⟨_, _, _, h9⟩ := hp 9 (by simp)
                      simp only [PPa27] at h9
                      have hsz := hg.size
                      have hgB : Below wr.heap.size wr w' := hg.below (fun k hk => ⟨hk, fun o => by rintro ⟨j, _, _, _, hw⟩; exact False.elim hw⟩)
                      rw [h9]
                      go_wp2
                      exact ⟨_, rfl, GrowC.refl _, rfl⟩
                    | 14, _ =>
                      obtain rfl := Option.some.inj ho
                      clear ho
                      simp only [actsD, List.getD_cons_zero, List.getD_cons_succ, List.foldl_cons, List.foldl_nil, Act.put, List.setIfInBounds_toArray, List.set_cons_succ, List.set_cons_zero]
                      obtain ⟨_, _, _, h9⟩ := hp 9 (by simp)
                      simp only [PPa27] at h9
                      obtain ⟨_, _, _, h13⟩ := hp 13 (by simp)
                      simp only [PPa27] at h13
                      have hsz := hg.size
                      have hgB : Below wr.heap.size wr w' := hg.below (fun k hk => ⟨hk, fun o => by rintro ⟨j, _, _, _, hw⟩; exact False.elim hw⟩)
                      rw [h9, h13]
                      have e0 := (hg.cell (g) 0 be.lt (by rintro ⟨j, _, hne, hb, hw⟩; exact False.elim hw)).trans (be.cell 0 _ rfl)
                      go_wp2
                      exact ⟨_, rfl, GrowC.refl _, rfl⟩
                    | 15, _ =>
                      obtain rfl := Option.some.inj ho
                      clear ho
                      simp only [actsD, List.getD_cons_zero, List.getD_cons_succ, List.foldl_cons, List.foldl_nil, Act.put, List.setIfInBounds_toArray, List.set_cons_succ, List.set_cons_zero]
                      obtain ⟨_, _, _, h9⟩ := hp 9 (by simp)
                      simp only [PPa27] at h9
                      obtain ⟨_, _, _, h12⟩ := hp 12 (by simp)
                      simp only [PPa27] at h12
                      obtain ⟨_, _, _, h14⟩ := hp 14 (by simp)
                      simp only [PPa27] at h14
                      have hsz := hg.size
                      have hgB : Below wr.heap.size wr w' := hg.below (fun k hk => ⟨hk, fun o => by rintro ⟨j, _, _, _, hw⟩; exact False.elim hw⟩)
                      rw [h9, h12, h14]
                      have hb1 : (p == p) = true := by simp
                      go_wp2
                      exact ⟨_, rfl, GrowC.refl _, rfl⟩
                    | 16, _ =>
                      obtain rfl := Option.some.inj ho
                      clear ho
                      simp only [actsD, List.getD_cons_zero, List.getD_cons_succ, List.foldl_cons, List.foldl_nil, Act.put, List.setIfInBounds_toArray, List.set_cons_succ, List.set_cons_zero]
                      obtain ⟨_, _, _, h9⟩ := hp 9 (by simp)
                      simp only [PPa27] at h9
                      obtain ⟨_, _, _, h15⟩ := hp 15 (by simp)
                      simp only [PPa27] at h15
                      have hsz := hg.size
                      have hgB : Below wr.heap.size wr w' := hg.below (fun k hk => ⟨hk, fun o => by rintro ⟨j, _, _, _, hw⟩; exact False.elim hw⟩)
                      rw [h9, h15]
                      go_wp2
                      exact ⟨_, rfl, GrowC.refl _, rfl⟩
                    | 17, _ =>
                      obtain rfl := Option.some.inj ho
                      clear ho
                      simp only [actsD, List.getD_cons_zero, List.getD_cons_succ, List.foldl_cons, List.foldl_nil, Act.put, List.setIfInBounds_toArray, List.set_cons_succ, List.set_cons_zero]
                      obtain ⟨_, _, _, h16⟩ := hp 16 (by simp)
                      simp only [PPa27] at h16
                      have hsz := hg.size
                      have hgB : Below wr.heap.size wr w' := hg.below (fun k hk => ⟨hk, fun o => by rintro ⟨j, _, _, _, hw⟩; exact False.elim hw⟩)
                      rw [h16]
                      go_wp2
                      exact ⟨_, rfl, GrowC.refl _, rfl⟩
                    | (q + 18), hq => exact absurd hq (by omega)
                  intro vS lo hi w9 hg hp
                  generalize hLL : List.drop 18 _ = LL
                  simp only [List.drop_succ_cons, List.drop_zero, List.drop_nil] at hLL
                  intro hd
                  obtain ⟨_, _, _, h0⟩ := hp 0 (by decide)
                  obtain ⟨_, _, _, h1⟩ := hp 1 (by decide)
                  obtain ⟨_, _, _, h2⟩ := hp 2 (by decide)
                  obtain ⟨_, _, _, h3⟩ := hp 3 (by decide)
                  obtain ⟨_, _, _, h4⟩ := hp 4 (by decide)
                  obtain ⟨_, _, _, h5⟩ := hp 5 (by decide)
                  obtain ⟨_, _, _, h6⟩ := hp 6 (by decide)
                  obtain ⟨_, _, _, h7⟩ := hp 7 (by decide)
                  obtain ⟨_, _, _, h8⟩ := hp 8 (by decide)
                  obtain ⟨_, _, _, h9⟩ := hp 9 (by decide)
                  obtain ⟨_, _, _, h10⟩ := hp 10 (by decide)
                  obtain ⟨_, _, _, h11⟩ := hp 11 (by decide)
                  obtain ⟨_, _, _, h12⟩ := hp 12 (by decide)
                  obtain ⟨_, _, _, h13⟩ := hp 13 (by decide)
                  obtain ⟨_, _, _, h14⟩ := hp 14 (by decide)
                  obtain ⟨_, _, _, h15⟩ := hp 15 (by decide)
                  obtain ⟨_, _, _, h16⟩ := hp 16 (by decide)
                  obtain ⟨_, _, _, h17⟩ := hp 17 (by decide)
                  simp only [PPa27] at h0 h1 h2 h3 h4 h5 h6 h7 h8 h9 h10 h11 h12 h13 h14 h15 h16 h17
                  clear hp hd
                  have hsz := hg.size
                  replace be := be.grow hg (by intro i _; rintro ⟨j, _, hw⟩; exact False.elim hw)
                  replace hB := hB.trans (hg.below (fun k hk => ⟨by omega, fun o => by rintro ⟨j, _, hw⟩; exact False.elim hw⟩))
                  subst hLL
                  have hr : List.range 18 = [0, 1, 2, 3, 4, 5, 6, 7, 8, 9, 10, 11, 12, 13, 14, 15, 16, 17] := rfl
                  rw [hr]
                  clear hr
                  simp only [List.drop_succ_cons, List.drop_zero, List.drop_nil, actsD, List.getD_cons_zero, List.getD_cons_succ, List.foldl_cons, List.foldl_nil, Act.put, List.setIfInBounds_toArray, List.set_cons_succ, List.set_cons_zero, h0, h1, h2, h3, h4, h5, h6, h7, h8, h9, h10, h11, h12, h13, h14, h15, h16, h17]
                  clear h0 h1 h2 h3 h4 h5 h6 h7 h8 h9 h10 h11 h12 h13 h14 h15 h16 h17
                  go_wp2_with (go_at_call 7; refine (awake_any _).mono ?_; rintro e wz ⟨rfl, hb⟩)
                  go_ret
                  exact ⟨rfl, hB.trans (hb.mono hB.size)⟩
end Go.Proofs.Ytjakekfalooebaa

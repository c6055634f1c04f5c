/- The pool: free (a frame that holds nothing, or one that the hand takes). Conditions: none. -/
import Derived.Test.YtdnjjdpenfhpeaaPlClean
namespace Go.Proofs.Ytdnjjdpenfhpeaa
set_option linter.unusedSimpArgs false
set_option linter.unusedVariables false
open Go.RowKit

def sweep (n : Nat) : Nat → List Fm → Nat → List Fm × Nat × Nat
  | 0, F, h => (F, h, h)
  | m + 1, F, h => if (F.getD h Fm.free).marked then sweep n m (F.set h { F.getD h Fm.free with marked := false }) ((h + 1) % n) else (F, (h + 1) % n, h)
def Pl.swept (p : Pl) : List Fm × Nat × Nat := sweep p.F.length (p.F.length + 1) p.F p.hand
def Pl.freed {St : Type} (r : Nat) (c : Int × Pl × St) : Int × Nat × Pl × St :=
  if c.1 = 0 then (0, r, { c.2.1 with F := c.2.1.F.set r Fm.free }, c.2.2) else (c.1, 0, c.2.1, c.2.2)
def Pl.free {St : Type} (step : St → Int → Int × St) (p : Pl) (s : St) : Int × Nat × Pl × St :=
  match freeL p.F with
  | some i => (0, i, p, s)
  | none => Pl.freed p.swept.2.2 (Pl.clean step { p with F := p.swept.1, hand := p.swept.2.1 } s p.swept.2.2)
theorem least {P : Nat → Prop} (h : ∃ k, P k) : ∃ k, P k ∧ ∀ j, P j → k ≤ j := by
  obtain ⟨k, hk⟩ := h
  induction k using Nat.strongRecOn with
  | _ k ih =>
    by_cases hj : ∃ j, j < k ∧ P j
    · obtain ⟨j, h1, h2⟩ := hj
      exact ih j h1 h2
    · exact ⟨k, hk, fun j hp => by apply Classical.byContradiction; intro hc; exact hj ⟨j, by omega, hp⟩⟩
open Classical in
/-- a scope whose label is jumped back to, with a number that falls -/
theorem wp_scope_down {P : Program} {a : Act} {w : World} {Q : Exit → Act → World → Prop} {r1 r2 R : Code} (l : Nat) (J : Nat → Act → World → Prop)
    (hf : findLabel (r1.seq (r2.seq ((Code.label l).seq R))) l = some (Code.skip.seq R))
    (first : r1.wp P (Exit.then (fun a w => r2.wp P (Exit.then (fun a w => ∃ k, J k a w) (fun _ _ _ => False)) a w) (fun _ _ _ => False)) a w)
    (pass : ∀ k a w, J k a w → R.wp P (Exit.jump l (fun a' w' => ∃ k', k' < k ∧ J k' a' w') Q) a w) :
    (Code.scope (r1.seq (r2.seq ((Code.label l).seq R)))).wp P Q a w := by
  refine wp_scope_loop l (fun a w => ∃ k, J k a w) (fun a w => if h : ∃ k, J k a w then (least h).choose else 0) hf first ?_
  intro a w hJ
  obtain ⟨h1, h2⟩ := (least hJ).choose_spec
  refine wp_mono (pass _ a w h1) ?_
  intro e a' w' h
  cases e with
  | goto l' =>
    obtain ⟨e1, k', hk', hj'⟩ := h
    refine ⟨e1, ⟨k', hj'⟩, ?_⟩
    have hJ' : ∃ k, J k a' w' := ⟨k', hj'⟩
    rw [dif_pos hJ', dif_pos hJ]
    exact Nat.lt_of_le_of_lt ((least hJ').choose_spec.2 k' hj') hk'
  | _ => exact h
def marks (F : List Fm) : Nat := (F.filter (·.marked)).length
theorem marks_set (F : List Fm) (i : Nat) (x : Fm) (h : F[i]? = some x) (hm : x.marked = true) : marks (F.set i { x with marked := false }) + 1 = marks F := by
  induction F generalizing i with
  | nil => simp at h
  | cons y r ih =>
    cases i with
    | zero =>
      simp at h
      subst h
      simp only [marks, List.set_cons_zero, List.filter_cons, hm]
      simp
    | succ i =>
      have := ih i (by simpa using h)
      simp only [List.set_cons_succ, marks, List.filter_cons] at *
      cases hy : y.marked <;> simp [hy] <;> omega
theorem marks_le (F : List Fm) : marks F ≤ F.length := List.length_filter_le _ _
def FreeJ (W0 : World) (g lb n f pg fn : Nat) (caps : Array Value) (K : Nat → Prop) (p : Pl) (w : World) (k : Nat) (a : Act) (wr : World) : Prop :=
  ∃ (E : List Fe) (hd m : Nat) (u4 u5 u6 u7 u8 u9 u10 u11 u12 u13 u14 u15 u16 u17 u18 u19 u20 u21 u22 u23 u24 u25 u26 u27 u28 u29 u30 u31 u32 u33 u34 u35 u36 u37 u38 u39 u40 u41 u42 u43 u44 u45 u46 u47 u48 u49 u50 u51 u52 u53 u54 u55 u56 u57 u58 u59 u60 : Value), a = { tmps := #[.pointer (some ⟨g, 0, none⟩), undef, .int .i64 0, .int .i64 0, u4, u5, u6, u7, u8, u9, u10, u11, u12, u13, u14, u15, u16, u17, u18, u19, u20, u21, u22, u23, u24, u25, u26, u27, u28, u29, u30, u31, u32, u33, u34, u35, u36, u37, u38, u39, u40, u41, u42, u43, u44, u45, u46, u47, u48, u49, u50, u51, u52, u53, u54, u55, u56, u57, u58, u59, u60], defers := [] } ∧ k = marks (E.map (·.1)) ∧ k < m ∧ p.swept = sweep n m (E.map (·.1)) hd ∧ hd < n ∧ (∀ x ∈ E.map (·.1), Fm.ok pg x) ∧ PoolAt wr W0.heap.size g lb n f (.func (.func fn) #[] caps) E hd p.wr K ∧ GrowX (own3 g lb K) w wr
def WFr5 (g lb n f hd fn : Nat) (caps : Array Value) (wrv : Value) (j b o : Nat) : Prop := False
def PFr5 (g lb n f hd fn : Nat) (caps : Array Value) (wrv : Value) (i : Nat) (v : Value) (lo hi : Nat) (w : World) : Prop :=
  match i with
  | 0 => v = .pointer (some ⟨g, 0, none⟩)
  | 1 => v = .pointer (some ⟨g, 0, none⟩)
  | 2 => v = .pointer (some ⟨g, 0, none⟩)
  | 3 => v = .pointer (some ⟨g, 3, none⟩)
  | 4 => v = .int .i64 ((hd : Nat) : Int)
  | 5 => v = .int .i64 ((hd + 1 : Nat) : Int)
  | 6 => v = .pointer (some ⟨g, 0, none⟩)
  | 7 => v = .pointer (some ⟨g, 0, none⟩)
  | 8 => v = .pointer (some ⟨g, 1, none⟩)
  | 9 => v = .slice (some ⟨lb, 0, none⟩) n n
  | 10 => v = .int .i64 ((n : Nat) : Int)
  | 11 => v = .int .i64 (((hd + 1) % n : Nat) : Int)
  | 12 => v = .pointer (some ⟨g, 0, none⟩)
  | 13 => v = .pointer (some ⟨g, 3, none⟩)
  | _ => True
theorem PFr5_stable (g lb n f hd fn : Nat) (caps : Array Value) (wrv : Value)  : ∀ i j, i < 14 → j < 14 → j ≠ i → j ∉ ([[], [], [1], [1, 2], [1, 2, 3], [1, 2, 3, 4], [], [6], [6, 7], [6, 7, 8], [6, 7, 8, 9], [1, 2, 3, 4, 5, 6, 7, 8, 9, 10], [0, 1, 2, 3, 4, 5, 6, 7, 8, 9, 10, 11], [0, 1, 2, 3, 4, 5, 6, 7, 8, 9, 10, 11, 12]] : List (List Nat)).getD i [] → ∀ v lo hi w w', PFr5 g lb n f hd fn caps wrv i v lo hi w → GrowC (WFr5 g lb n f hd fn caps wrv j) w w' → PFr5 g lb n f hd fn caps wrv i v lo hi w' := by
  intro i j hi hj hne hbs v lo hj2 w w' h hg
  match i, hi with
  | 0, _ =>
    simp only [PFr5] at h ⊢
    exact h
  | 1, _ =>
    simp only [PFr5] at h ⊢
    exact h
  | 2, _ =>
    simp only [PFr5] at h ⊢
    exact h
  | 3, _ =>
    simp only [PFr5] at h ⊢
    exact h
  | 4, _ =>
    simp only [PFr5] at h ⊢
    exact h
  | 5, _ =>
    simp only [PFr5] at h ⊢
    exact h
  | 6, _ =>
    simp only [PFr5] at h ⊢
    exact h
  | 7, _ =>
    simp only [PFr5] at h ⊢
    exact h
  | 8, _ =>
    simp only [PFr5] at h ⊢
    exact h
  | 9, _ =>
    simp only [PFr5] at h ⊢
    exact h
  | 10, _ =>
    simp only [PFr5] at h ⊢
    exact h
  | 11, _ =>
    simp only [PFr5] at h ⊢
    exact h
  | 12, _ =>
    simp only [PFr5] at h ⊢
    exact h
  | 13, _ =>
    simp only [PFr5] at h ⊢
    exact h
  | (q + 14), hq => exact absurd hq (by omega)
section
variable {W0 : World} {g n f d fr pg : Nat} {St : Type} {FI : St → (Nat → Prop) → World → Prop} {p : Pl} {s : St} {S : Nat → Prop} {w : World} {fn : Nat} {caps : Array Value} {step : St → Int → Int × St} {okS : St → Prop}
set_option maxRecDepth 100000 in
set_option maxHeartbeats 3200000 in
theorem free_pv (hF : ForceOf W0 fn caps FI step okS) (h : PV W0 g n f d fr pg (.func (.func fn) #[] caps) FI p s S w) (hwr : p.wr + 1 ≤ 1000000000) (hs : okS s) :
    Calls Try.prog 36 #[.pointer (some ⟨g, 0, none⟩)] w fun e w' => ∃ S', e = .returned (.tuple #[.int .i64 ((p.free step s).2.1 : Nat), .int .i64 (p.free step s).1]) ∧ PV W0 g n f d fr pg (.func (.func fn) #[] caps) FI (p.free step s).2.2.1 (p.free step s).2.2.2 S' w' ∧ Foot S S' w w' := by
  have h0 := h
  obtain ⟨lb, E, K, S1, S2, h1, h2, h3, h4, h5, h6, h7, h8, h9, rfl⟩ := h
  have eg : ∀ args w, (callFunc 49 args).run Try.prog w = .ok (.enter 49 args) w := enters_of Try.func49 (by kernel_rfl) rfl
  have hcall := idxF_any E n lb 49 #[] (fun e => isE e.1) (fun W => True) eg (fun W x _ => eclos_any x W) (fun _ _ _ _ => trivial) h1.len (by have := h6.n64; omega) (by have := h6.n1; omega) w trivial (Reads.of_own h1.row)
  rw [atI_map, h5] at hcall
  have c1 := h1.box.cell 1 _ rfl
  have hlg := h1.box.lt
  cases hfl : freeL p.F with
  | some i =>
    rw [show p.F.findIdx? isE = some i from hfl] at hcall
    have HC := Lib.hid hcall
    have H0 := Lib.hid h0
    have HF := Lib.hid hF
    have HFL : Hid (p.free step s = (0, i, p, s)) := Lib.hid (by unfold Pl.free; rw [hfl])
    have hb : decide ((i : Int) ≥ 0) = true := by simp
    clear h0 h1 h2 h3 h4 h5 h6 h7 h8 h9 hcall hF hfl eg
    simp only [atI] at HC
    go_enter Try.func36, Try.ntmps36
    go_wp2_with fail
    refine wp_scope_fwd 0 rfl ?_
    go_wp2_with fail
    refine HC.out.mono ?_
    rintro e w2 ⟨rfl, hbl⟩
    have HB := Lib.hid hbl
    clear hbl
    go_wp2_with fail
    simp only [Exit.jump]
    go_ret2
    rw [HFL.out]
    exact ⟨_, rfl, H0.out.below HF.out HB.out, Foot.same (B := fun _ => False) (grow_below HB.out) (fun _ h => h.elim)⟩
  | none =>
    rw [show p.F.findIdx? isE = none from hfl] at hcall
    have HC := Lib.hid hcall
    have H0 := Lib.hid h0
    have HF := Lib.hid hF
    have H1 := Lib.hid h1
    have H2G := Lib.hid h2
    have H3 := Lib.hid h3
    have H4 := Lib.hid h4
    have H5 := Lib.hid h5
    have H6 := Lib.hid h6
    have H7 := Lib.hid h7
    have H8 := Lib.hid h8
    have H9 := Lib.hid h9
    have HLT := Lib.hid (h0.lt hF)
    have HFL : Hid (p.free step s = Pl.freed p.swept.2.2 (Pl.clean step { p with F := p.swept.1, hand := p.swept.2.1 } s p.swept.2.2)) := Lib.hid (by unfold Pl.free; rw [hfl])
    have hn1 := h6.n1
    have hn64 := h6.n64
    clear h0 h1 h2 h3 h4 h5 h6 h7 h8 h9 hcall hF hfl eg
    simp only [atI] at HC
    go_enter Try.func36, Try.ntmps36
    go_wp2_with fail
    refine wp_scope_down 0 (FreeJ W0 g lb n f pg fn caps K p w) rfl ?_ ?_
    · go_wp2_with fail
      refine HC.out.mono ?_
      rintro e w2 ⟨rfl, hbl⟩
      have HB := Lib.hid hbl
      clear hbl
      go_wp2_with fail
      refine ⟨_, E, p.hand, p.F.length + 1, _, _, _, _, _, _, _, _, _, _, _, _, _, _, _, _, _, _, _, _, _, _, _, _, _, _, _, _, _, _, _, _, _, _, _, _, _, _, _, _, _, _, _, _, _, _, _, _, _, _, _, _, _, _, _, _, _, rfl, rfl, ?_, ?_, H6.out.hand, ?_, H1.out.grow (X := fun _ => False) (grow_below HB.out) (fun h => h) (fun h => h) (fun _ _ h => h), (grow_below HB.out)⟩
      · rw [H5.out]; have := marks_le p.F; omega
      · rw [H5.out, Pl.swept, H6.out.len]
      · rw [H5.out]; exact H6.out.fr
    rintro k a wr ⟨E, hd, m, u4, u5, u6, u7, u8, u9, u10, u11, u12, u13, u14, u15, u16, u17, u18, u19, u20, u21, u22, u23, u24, u25, u26, u27, u28, u29, u30, u31, u32, u33, u34, u35, u36, u37, u38, u39, u40, u41, u42, u43, u44, u45, u46, u47, u48, u49, u50, u51, u52, u53, u54, u55, u56, u57, u58, u59, u60, rfl, hk, hm, hsw, hdn, hokx, hat, hgw⟩
    subst hk
    have hen := hat.len
    have hiE : hd < E.length := by omega
    obtain ⟨e0, he0⟩ : ∃ e, E[hd]? = some e := ⟨_, List.getElem?_eq_getElem hiE⟩
    have hxF : (E.map (·.1))[hd]? = some e0.1 := by rw [List.getElem?_map, he0]; rfl
    have hcell := hat.cell hd e0 he0
    have htx := hat.txt e0 (List.mem_of_getElem? he0)
    obtain ⟨⟨pgx, bx, di, ma, rc, ls⟩, vb⟩ := e0
    have k3 := hcell 3 _ rfl
    have bg := hat.box
    have hll := hat.ll.2
    have hlr := bg.lt
    have lfz := hat.fzl
    have g3 := bg.cell 3 _ rfl
    have g1 := bg.cell 1 _ rfl
    have HAT := Lib.hid hat
    have HGW := Lib.hid hgw
    have HSW := Lib.hid hsw
    have HOK := Lib.hid hokx
    have HM := Lib.hid hm
    have HE := Lib.hid he0
    have HXF := Lib.hid hxF
    have HTX := Lib.hid htx
    have HDN := Lib.hid hdn
    obtain ⟨wrv, hwv⟩ : ∃ x, Value.int .i64 (p.wr : Nat) = x := ⟨_, rfl⟩
    rw [hwv] at bg
    have HWV := Lib.hid hwv
    simp only at k3
    have hd64 : hd < 64 := by omega
    clear hat hgw hsw hokx hm he0 hxF htx hcell hdn hwv
    go_upto_region 5 with (fail)
    clear g3 g1
    have hB : Below wr.heap.size wr wr := Below.refl _ _
    refine wp_region_partsDC (WFr5 g lb n f hd fn caps wrv) 14 [[], [], [1], [1, 2], [1, 2, 3], [1, 2, 3, 4], [], [6], [6, 7], [6, 7, 8], [6, 7, 8, 9], [1, 2, 3, 4, 5, 6, 7, 8, 9, 10], [0, 1, 2, 3, 4, 5, 6, 7, 8, 9, 10, 11], [0, 1, 2, 3, 4, 5, 6, 7, 8, 9, 10, 11, 12]] [some 18, some 19, some 20, some 21, some 22, some 23, some 24, some 25, some 26, some 27, some 28, some 29, some 30, some 31, none] (by kernel_rfl) (by kernel_rfl) rfl (PFr5 g lb n f hd fn caps wrv) (PFr5_stable g lb n f hd fn caps wrv ) ?pFr5 ?_
    case pFr5 =>
      intro i hi o ho vs lo hx_ w' hg hp
      match i, hi with
      | 0, _ =>
        obtain rfl := Option.some.inj ho
        clear ho
        simp only [actsD, List.getD_cons_zero, List.getD_cons_succ, List.foldl_cons, List.foldl_nil, Act.put, List.setIfInBounds_toArray, List.set_cons_succ, List.set_cons_zero]
        have hsz := hg.size
        have hgB : Below wr.heap.size wr w' := hg.below (fun k hk => ⟨hk, fun o => by rintro ⟨j, _, _, _, hw⟩; exact False.elim hw⟩)
        go_wp2
        exact ⟨_, rfl, GrowC.refl _, rfl⟩
      | 1, _ =>
        obtain rfl := Option.some.inj ho
        clear ho
        simp only [actsD, List.getD_cons_zero, List.getD_cons_succ, List.foldl_cons, List.foldl_nil, Act.put, List.setIfInBounds_toArray, List.set_cons_succ, List.set_cons_zero]
        have hsz := hg.size
        have hgB : Below wr.heap.size wr w' := hg.below (fun k hk => ⟨hk, fun o => by rintro ⟨j, _, _, _, hw⟩; exact False.elim hw⟩)
        go_wp2
        exact ⟨_, rfl, GrowC.refl _, rfl⟩
      | 2, _ =>
        obtain rfl := Option.some.inj ho
        clear ho
        simp only [actsD, List.getD_cons_zero, List.getD_cons_succ, List.foldl_cons, List.foldl_nil, Act.put, List.setIfInBounds_toArray, List.set_cons_succ, List.set_cons_zero]
        obtain ⟨_, _, _, h1⟩ := hp 1 (by simp)
        simp only [PFr5] at h1
        have hsz := hg.size
        have hgB : Below wr.heap.size wr w' := hg.below (fun k hk => ⟨hk, fun o => by rintro ⟨j, _, _, _, hw⟩; exact False.elim hw⟩)
        rw [h1]
        go_wp2
        exact ⟨_, rfl, GrowC.refl _, rfl⟩
      | 3, _ =>
        obtain rfl := Option.some.inj ho
        clear ho
        simp only [actsD, List.getD_cons_zero, List.getD_cons_succ, List.foldl_cons, List.foldl_nil, Act.put, List.setIfInBounds_toArray, List.set_cons_succ, List.set_cons_zero]
        obtain ⟨_, _, _, h2⟩ := hp 2 (by simp)
        simp only [PFr5] at h2
        have hsz := hg.size
        have hgB : Below wr.heap.size wr w' := hg.below (fun k hk => ⟨hk, fun o => by rintro ⟨j, _, _, _, hw⟩; exact False.elim hw⟩)
        rw [h2]
        go_wp2
        exact ⟨_, rfl, GrowC.refl _, rfl⟩
      | 4, _ =>
        obtain rfl := Option.some.inj ho
        clear ho
        simp only [actsD, List.getD_cons_zero, List.getD_cons_succ, List.foldl_cons, List.foldl_nil, Act.put, List.setIfInBounds_toArray, List.set_cons_succ, List.set_cons_zero]
        obtain ⟨_, _, _, h3⟩ := hp 3 (by simp)
        simp only [PFr5] at h3
        have hsz := hg.size
        have hgB : Below wr.heap.size wr w' := hg.below (fun k hk => ⟨hk, fun o => by rintro ⟨j, _, _, _, hw⟩; exact False.elim hw⟩)
        rw [h3]
        have e0 := (hg.cell (g) 3 bg.lt (by rintro ⟨j, _, hne, hb, hw⟩; exact False.elim hw)).trans (bg.cell 3 _ rfl)
        go_wp2
        exact ⟨_, rfl, GrowC.refl _, rfl⟩
      | 5, _ =>
        obtain rfl := Option.some.inj ho
        clear ho
        simp only [actsD, List.getD_cons_zero, List.getD_cons_succ, List.foldl_cons, List.foldl_nil, Act.put, List.setIfInBounds_toArray, List.set_cons_succ, List.set_cons_zero]
        obtain ⟨_, _, _, h4⟩ := hp 4 (by simp)
        simp only [PFr5] at h4
        have hsz := hg.size
        have hgB : Below wr.heap.size wr w' := hg.below (fun k hk => ⟨hk, fun o => by rintro ⟨j, _, _, _, hw⟩; exact False.elim hw⟩)
        rw [h4]
        go_wp2
        refine ⟨_, rfl, GrowC.refl _, ?_⟩
        simp only [PFr5]
        congr 1
      | 6, _ =>
        obtain rfl := Option.some.inj ho
        clear ho
        simp only [actsD, List.getD_cons_zero, List.getD_cons_succ, List.foldl_cons, List.foldl_nil, Act.put, List.setIfInBounds_toArray, List.set_cons_succ, List.set_cons_zero]
        have hsz := hg.size
        have hgB : Below wr.heap.size wr w' := hg.below (fun k hk => ⟨hk, fun o => by rintro ⟨j, _, _, _, hw⟩; exact False.elim hw⟩)
        go_wp2
        exact ⟨_, rfl, GrowC.refl _, rfl⟩
      | 7, _ =>
        obtain rfl := Option.some.inj ho
        clear ho
        simp only [actsD, List.getD_cons_zero, List.getD_cons_succ, List.foldl_cons, List.foldl_nil, Act.put, List.setIfInBounds_toArray, List.set_cons_succ, List.set_cons_zero]
        obtain ⟨_, _, _, h6⟩ := hp 6 (by simp)
        simp only [PFr5] at h6
        have hsz := hg.size
        have hgB : Below wr.heap.size wr w' := hg.below (fun k hk => ⟨hk, fun o => by rintro ⟨j, _, _, _, hw⟩; exact False.elim hw⟩)
        rw [h6]
        go_wp2
        exact ⟨_, rfl, GrowC.refl _, rfl⟩
      | 8, _ =>
        obtain rfl := Option.some.inj ho
        clear ho
        simp only [actsD, List.getD_cons_zero, List.getD_cons_succ, List.foldl_cons, List.foldl_nil, Act.put, List.setIfInBounds_toArray, List.set_cons_succ, List.set_cons_zero]
        obtain ⟨_, _, _, h7⟩ := hp 7 (by simp)
        simp only [PFr5] at h7
        have hsz := hg.size
        have hgB : Below wr.heap.size wr w' := hg.below (fun k hk => ⟨hk, fun o => by rintro ⟨j, _, _, _, hw⟩; exact False.elim hw⟩)
        rw [h7]
        go_wp2
        exact ⟨_, rfl, GrowC.refl _, rfl⟩
      | 9, _ =>
        obtain rfl := Option.some.inj ho
        clear ho
        simp only [actsD, List.getD_cons_zero, List.getD_cons_succ, List.foldl_cons, List.foldl_nil, Act.put, List.setIfInBounds_toArray, List.set_cons_succ, List.set_cons_zero]
        obtain ⟨_, _, _, h8⟩ := hp 8 (by simp)
        simp only [PFr5] at h8
        have hsz := hg.size
        have hgB : Below wr.heap.size wr w' := hg.below (fun k hk => ⟨hk, fun o => by rintro ⟨j, _, _, _, hw⟩; exact False.elim hw⟩)
        rw [h8]
        have e0 := (hg.cell (g) 1 bg.lt (by rintro ⟨j, _, hne, hb, hw⟩; exact False.elim hw)).trans (bg.cell 1 _ rfl)
        go_wp2
        exact ⟨_, rfl, GrowC.refl _, rfl⟩
      | 10, _ =>
        obtain rfl := Option.some.inj ho
        clear ho
        simp only [actsD, List.getD_cons_zero, List.getD_cons_succ, List.foldl_cons, List.foldl_nil, Act.put, List.setIfInBounds_toArray, List.set_cons_succ, List.set_cons_zero]
        obtain ⟨_, _, _, h9⟩ := hp 9 (by simp)
        simp only [PFr5] at h9
        have hsz := hg.size
        have hgB : Below wr.heap.size wr w' := hg.below (fun k hk => ⟨hk, fun o => by rintro ⟨j, _, _, _, hw⟩; exact False.elim hw⟩)
        rw [h9]
        go_wp2
        exact ⟨_, rfl, GrowC.refl _, rfl⟩
      | 11, _ =>
        obtain rfl := Option.some.inj ho
        clear ho
        simp only [actsD, List.getD_cons_zero, List.getD_cons_succ, List.foldl_cons, List.foldl_nil, Act.put, List.setIfInBounds_toArray, List.set_cons_succ, List.set_cons_zero]
        obtain ⟨_, _, _, h5⟩ := hp 5 (by simp)
        simp only [PFr5] at h5
        obtain ⟨_, _, _, h10⟩ := hp 10 (by simp)
        simp only [PFr5] at h10
        have hsz := hg.size
        have hgB : Below wr.heap.size wr w' := hg.below (fun k hk => ⟨hk, fun o => by rintro ⟨j, _, _, _, hw⟩; exact False.elim hw⟩)
        rw [h5, h10]
        have hn0 : ¬ (n : Int) = 0 := by omega
        have hn1 : decide ((n : Int) = 0) = false := by simpa using hn0
        go_wp2
        refine ⟨_, rfl, GrowC.refl _, ?_⟩
        simp only [PFr5]
        congr 1
      | 12, _ =>
        obtain rfl := Option.some.inj ho
        clear ho
        simp only [actsD, List.getD_cons_zero, List.getD_cons_succ, List.foldl_cons, List.foldl_nil, Act.put, List.setIfInBounds_toArray, List.set_cons_succ, List.set_cons_zero]
        obtain ⟨_, _, _, h0⟩ := hp 0 (by simp)
        simp only [PFr5] at h0
        have hsz := hg.size
        have hgB : Below wr.heap.size wr w' := hg.below (fun k hk => ⟨hk, fun o => by rintro ⟨j, _, _, _, hw⟩; exact False.elim hw⟩)
        rw [h0]
        go_wp2
        exact ⟨_, rfl, GrowC.refl _, rfl⟩
      | 13, _ =>
        obtain rfl := Option.some.inj ho
        clear ho
        simp only [actsD, List.getD_cons_zero, List.getD_cons_succ, List.foldl_cons, List.foldl_nil, Act.put, List.setIfInBounds_toArray, List.set_cons_succ, List.set_cons_zero]
        obtain ⟨_, _, _, h12⟩ := hp 12 (by simp)
        simp only [PFr5] at h12
        have hsz := hg.size
        have hgB : Below wr.heap.size wr w' := hg.below (fun k hk => ⟨hk, fun o => by rintro ⟨j, _, _, _, hw⟩; exact False.elim hw⟩)
        rw [h12]
        go_wp2
        exact ⟨_, rfl, GrowC.refl _, rfl⟩
      | (q + 14), hq => exact absurd hq (by omega)
    intro vS lo hi w5 hg hp hd
    obtain ⟨_, _, _, h0⟩ := hp 0 (by decide)
    obtain ⟨_, _, _, h1⟩ := hp 1 (by decide)
    obtain ⟨_, _, _, h2⟩ := hp 2 (by decide)
    obtain ⟨_, _, _, h3⟩ := hp 3 (by decide)
    obtain ⟨_, _, _, h4⟩ := hp 4 (by decide)
    obtain ⟨_, _, _, h5⟩ := hp 5 (by decide)
    obtain ⟨_, _, _, h6⟩ := hp 6 (by decide)
    obtain ⟨_, _, _, h7⟩ := hp 7 (by decide)
    obtain ⟨_, _, _, h8⟩ := hp 8 (by decide)
    obtain ⟨_, _, _, h9⟩ := hp 9 (by decide)
    obtain ⟨_, _, _, h10⟩ := hp 10 (by decide)
    obtain ⟨_, _, _, h11⟩ := hp 11 (by decide)
    obtain ⟨_, _, _, h12⟩ := hp 12 (by decide)
    obtain ⟨_, _, _, h13⟩ := hp 13 (by decide)
    simp only [PFr5] at h0 h1 h2 h3 h4 h5 h6 h7 h8 h9 h10 h11 h12 h13
    clear hp hd
    have hsz := hg.size
    replace bg := bg.grow hg (by intro i _; rintro ⟨j, _, hw⟩; exact False.elim hw)
    replace hB := hB.trans (hg.below (fun k hk => ⟨by omega, fun o => by rintro ⟨j, _, hw⟩; exact False.elim hw⟩))
    have hr : List.range 14 = [0, 1, 2, 3, 4, 5, 6, 7, 8, 9, 10, 11, 12, 13] := rfl
    rw [hr]
    clear hr
    simp only [List.drop_succ_cons, List.drop_zero, List.drop_nil, actsD, List.getD_cons_zero, List.getD_cons_succ, List.foldl_cons, List.foldl_nil, Act.put, List.setIfInBounds_toArray, List.set_cons_succ, List.set_cons_zero, h0, h1, h2, h3, h4, h5, h6, h7, h8, h9, h10, h11, h12, h13]
    clear h0 h1 h2 h3 h4 h5 h6 h7 h8 h9 h10 h11 h12 h13
    have hgr5 : GrowX (fun _ => False) wr w5 := grow_below hB
    have HAT5 : Hid (PoolAt w5 W0.heap.size g lb n f (.func (.func fn) #[] caps) E hd p.wr K) := Lib.hid (HAT.out.grow hgr5 (fun h => h) (fun h => h) (fun _ _ h => h))
    have HG5 : Hid (GrowX (own3 g lb K) w w5) := Lib.hid (HGW.out.step hgr5 (fun _ _ h => h.elim))
    obtain ⟨hd', hhd'⟩ : ∃ x, (hd + 1) % n = x := ⟨_, rfl⟩
    have hd'n : hd' < n := by rw [← hhd']; exact Nat.mod_lt _ (by omega)
    rw [hhd']
    have HHD' := Lib.hid hhd'
    obtain ⟨a1, a2⟩ := HAT5.out.setHand hd'
    have HA1 := Lib.hid a1
    have HG6 : Hid (GrowX (own3 g lb K) w (w5.setCell ⟨g, 3, none⟩ (.int .i64 (hd' : Nat)))) := Lib.hid (HG5.out.step a2 (fun k _ e => .inl e))
    have HTX5 : Hid (SecAt (w5.setCell ⟨g, 3, none⟩ (.int .i64 (hd' : Nat))) K bx vb) := Lib.hid (a1.txt _ (List.mem_of_getElem? HE.out))
    have g1 := HAT5.out.box.cell 1 _ rfl
    have g3 := HAT5.out.box.cell 3 _ rfl
    have gfz := HAT5.out.box.free
    have glt := HAT5.out.box.lt
    have k3 := HAT5.out.cell hd _ HE.out 3 _ rfl
    have lfz := HAT5.out.fzl
    have llt := HAT5.out.ll.2
    have hgl := HAT5.out.gl
    simp only at k3
    clear hgr5 hB bg hg hsz hhd' a1 a2
    cases ma with
    | true =>
      go_wp2_with fail
      go_step3
      refine ⟨rfl, ?_⟩
      obtain ⟨b1, b2⟩ := HA1.out.setF hd _ (⟨pgx, bx, di, false, rc, ls⟩, vb) HE.out 3 (by omega) (.bool false) rfl HTX5.out
      have hmk := marks_set _ hd _ HXF.out rfl
      have hmE : (E.set hd (⟨pgx, bx, di, false, rc, ls⟩, vb)).map (·.1) = (E.map (·.1)).set hd ⟨pgx, bx, di, false, rc, ls⟩ := map_set_fst _ _ _ _
      obtain ⟨m', hm'⟩ : ∃ m', m = m' + 1 := ⟨m - 1, by have := HM.out; omega⟩
      refine ⟨_, ?_, ⟨_, hd', m', _, _, _, _, _, _, _, _, _, _, _, _, _, _, _, _, _, _, _, _, _, _, _, _, _, _, _, _, _, _, _, _, _, _, _, _, _, _, _, _, _, _, _, _, _, _, _, _, _, _, _, _, _, _, _, _, _, rfl, rfl, ?_, ?_, hd'n, ?_, b1, HG6.out.step b2 (fun k _ e => .inr (.inl e))⟩⟩
      · rw [hmE]; simp only at hmk; omega
      · rw [hmE]; simp only at hmk; have := HM.out; omega
      · rw [HSW.out, hm', sweep, List.getD_eq_getElem?_getD, HXF.out, hmE]
        simp only [Option.getD_some, if_true, HHD'.out]
      · rw [hmE]
        intro y hy
        rcases List.mem_or_eq_of_mem_set hy with hy | rfl
        · exact HOK.out y hy
        · exact HOK.out (⟨pgx, bx, di, true, rc, ls⟩ : Fm) (List.mem_of_getElem? HXF.out)
    | false =>
      have HSWE : Hid (p.swept = (E.map (·.1), hd', hd)) := Lib.hid (by
        rw [HSW.out]
        obtain ⟨m', rfl⟩ : ∃ m', m = m' + 1 := ⟨m - 1, by have := HM.out; omega⟩
        rw [sweep, List.getD_eq_getElem?_getD, HXF.out]
        simp only [Option.getD_some]
        rw [if_neg (by simp), HHD'.out])
      have hb6 : Below W0.heap.size W0 (w5.setCell ⟨g, 3, none⟩ (.int .i64 (hd' : Nat))) := H3.out.bel.trans (HG6.out.below (fun k hk => ⟨Nat.lt_of_lt_of_le hk H3.out.bel.size, fun e => by have := (HLT.out k (.inl e)).1; omega⟩))
      have HPV : Hid (PV W0 g n f d fr pg (.func (.func fn) #[] caps) FI { p with F := E.map (·.1), hand := hd' } s (fun k => own3 g lb K k ∨ S1 k ∨ S2 k) (w5.setCell ⟨g, 3, none⟩ (.int .i64 (hd' : Nat)))) := Lib.hid
        ⟨lb, E, K, S1, S2, HA1.out, H2G.out, H3.out.grow HG6.out H7.out.symm hb6, HF.out.grow _ _ _ _ _ H4.out HG6.out H8.out.symm hb6, rfl, ⟨by rw [List.length_map]; exact hen, hn1, hn64, hd'n, HOK.out, H6.out.wr⟩, H7.out, H8.out, H9.out, rfl⟩
      clear hb6
      have hcl := clean_pv HF.out HPV.out hd HDN.out hwr hs
      obtain ⟨c, hc⟩ : ∃ c, Pl.clean step { p with F := E.map (·.1), hand := hd' } s hd = c := ⟨_, rfl⟩
      rw [hc] at hcl
      have HCL := Lib.hid hcl
      have HFR : Hid (p.free step s = Pl.freed hd c) := Lib.hid (by rw [HFL.out, HSWE.out, ← hc])
      have HG6F : Hid (Foot (fun k => own3 g lb K k ∨ S1 k ∨ S2 k) (fun k => own3 g lb K k ∨ S1 k ∨ S2 k) w (w5.setCell ⟨g, 3, none⟩ (.int .i64 (hd' : Nat)))) := Lib.hid (Foot.same HG6.out (fun k e => .inl e))
      obtain ⟨c1, c2, c3⟩ := c
      clear hcl hc
      by_cases hce : c1 = 0
      case neg =>
        have hq1 : (c1 != 0) = true := by simpa using hce
        go_wp2_with fail
        refine HCL.out.mono ?_
        rintro e w7 ⟨S', rfl, hpv, hft⟩
        have HP7 := Lib.hid hpv
        have HF7 := Lib.hid (HG6F.out.trans hft)
        clear hpv hft
        go_wp2_with fail
        simp only [Exit.jump]
        go_ret2
        rw [HFR.out, Pl.freed, if_neg hce]
        exact ⟨S', rfl, HP7.out, HF7.out⟩
      subst hce
      go_wp2_with fail
      refine HCL.out.mono ?_
      rintro e w7 ⟨S', rfl, hpv, hft⟩
      have HP7 := Lib.hid hpv
      have HF7 := Lib.hid (HG6F.out.trans hft)
      obtain ⟨lb7, E7, K7, S17, S27, i1, i2, i3, i4, i5, i6, i7, i8, i9, rfl⟩ := hpv
      have hiE7 : hd < E7.length := by have := i1.len; have := HDN.out; omega
      obtain ⟨e7, he7⟩ : ∃ e, E7[hd]? = some e := ⟨_, List.getElem?_eq_getElem hiE7⟩
      have ge1 := i1.box.cell 1 _ rfl
      have gefz := i1.box.free
      have gelt := i1.box.lt
      have lefz := i1.fzl
      have lelt := i1.ll.2
      have hcell7 := i1.cell hd e7 he7
      have x0 := hcell7 0 _ rfl
      have x1 := hcell7 1 _ rfl
      have x2 := hcell7 2 _ rfl
      have x3 := hcell7 3 _ rfl
      have x4 := hcell7 4 _ rfl
      have x5 := hcell7 5 _ rfl
      rw [Nat.add_zero] at x0
      have I1 := Lib.hid i1
      have I2 := Lib.hid i2
      have I3 := Lib.hid i3
      have I4 := Lib.hid i4
      have I5 := Lib.hid i5
      have I6 := Lib.hid i6
      have I7 := Lib.hid i7
      have I8 := Lib.hid i8
      have I9 := Lib.hid i9
      have HE7 := Lib.hid he7
      have hdn := HDN.out
      clear hft hcell7 i1 i2 i3 i4 i5 i6 i7 i8 i9 he7
      go_wp2_with fail
      simp only [Exit.jump]
      go_ret2
      rw [HFR.out, Pl.freed, if_pos rfl]
      obtain ⟨b1, b2⟩ := I1.out.put6 hd e7 HE7.out (-1) [] (.slice none 0 0) false false 0 0 SecAt.nil
      have hgg := b2.mono (Y := own3 g lb7 K7) (fun k e => .inr (.inl e))
      have hbz := I3.out.bel.trans (hgg.below (fun k hk => ⟨Nat.lt_of_lt_of_le hk I3.out.bel.size, fun e => e.elim (fun e => by have := I2.out; omega) (fun e => e.elim (fun e => by have := I1.out.ll.1; omega) (fun e => by have := (I1.out.kin k e).1; omega))⟩))
      refine ⟨_, rfl, ⟨lb7, _, K7, S17, S27, b1, I2.out, I3.out.grow hgg I7.out.symm hbz, HF.out.grow _ _ _ _ _ I4.out hgg I8.out.symm hbz, ?_, ?_, I7.out, I8.out, I9.out, rfl⟩, HF7.out.trans (Foot.same hgg (fun k hk => .inl hk))⟩
      · rw [map_set_fst, I5.out]; rfl
      · exact ⟨by rw [List.length_set]; exact I6.out.len, I6.out.n1, I6.out.n64, I6.out.hand, I6.out.set hd _ ⟨fun h => absurd h (by decide), fun h => by cases h⟩, I6.out.wr⟩
end
end Go.Proofs.Ytdnjjdpenfhpeaa

/- slices.DeleteFunc at locks that are owned, whatever the predicate. Conditions: at most 2^40 locks. -/
import Derived.Test.YtoghmllkaafckaaLkAsk
namespace Go.Proofs.Ytoghmllkaafckaa
set_option linter.unusedSimpArgs false
set_option linter.unusedVariables false
open Go.RowKit

theorem growX_setRow (w : World) (g : Nat) (cs : Array Value) : GrowX (fun k => k = g) w (w.setRow g cs) :=
  ⟨rfl, rfl, rfl, by simp [World.setRow], fun k hk hx => setRow_other w g k cs hx⟩
theorem growX_setCell (w : World) (g i : Nat) (v : Value) : GrowX (fun k => k = g) w (w.setCell ⟨g, i, none⟩ v) :=
  ⟨rfl, rfl, rfl, by simp [World.setCell], fun k hk hx => Below.heap_setCell _ _ _ _ (fun e => hx e)⟩
theorem growX_drew {X : Nat → Prop} (w : World) (n : Nat) : GrowX X w (w.drewN n) := ⟨rfl, rfl, rfl, Nat.le_refl _, fun _ _ _ => rfl⟩

/-- clear of the end of a row that is owned -/
theorem wpList_clear_tail {P : Program} {w : World} {ops : Array Oper} {rest : List Oper} {o : Oper} {a : Act} {Q : Exit → Act → World → Prop}
    {t e : TypeId} {z : Value} {size bytes : Nat} (T : SliceOf P t e z size bytes) (s : Operand) (hgd : o.guard = none) (ho : o.op = .call { callee := .builtin .clear, args := #[s], argTypes := #[t] })
    {base g m k c n cap : Nat} {xs : List Value} (hs : a.eval s = .slice (some ⟨g, m * size, none⟩) k c) (hown : w.ownsRow base e size (.slice (some ⟨g, 0, none⟩) n cap) n xs) (hmk : m + k = n) (hk : 0 < k) (hz1 : ∀ v ∈ z.cells.toList, v.oneCell' = true)
    (h : ∀ w', w'.ownsRow base e size (.slice (some ⟨g, 0, none⟩) m cap) m (xs.take (m * size)) → GrowX (fun k => k = g) w w' → wpList P ops Q rest (a.put o.dst (.tuple #[])) w') : wpList P ops Q (o :: rest) a w := by
  obtain ⟨i, hi, hz0, hz, hz2⟩ := info_parts T.info
  obtain ⟨hl, hown⟩ := hown
  rcases hown with ⟨h0, _⟩ | ⟨g', cap', cur, e0, hb, hg, hn, hc, hcs, ht⟩
  · simp at h0
  injection e0 with e1 e2 e3
  injection e1 with e1
  injection e1 with e1
  subst e1 e3
  have hpos := T.pos
  have hzs := T.cells
  have hmul : m * size + k * size = n * size := by rw [← Nat.add_mul, hmk]
  have hcap : n * size ≤ cap * size := Nat.mul_le_mul_right _ hn
  have hzl : (Builtin.zeroCells z.cells k).toList.length = k * size := by simp [Builtin.zeroCells, hzs]
  have hone : ∀ v ∈ (Builtin.zeroCells z.cells k).toList, v.oneCell' = true := by
    intro v hv
    simp only [Builtin.zeroCells, Array.toList_map, List.mem_map] at hv
    obtain ⟨j, _, rfl⟩ := hv
    have hj : j % z.cells.size < z.cells.size := Nat.mod_lt _ (by omega)
    rw [getElem!_pos z.cells _ hj]
    exact hz1 _ (by simp)
  have hst := run_storeCells_at P g (m * size) e (Builtin.zeroCells z.cells k).toList 0 cur w hg (by rw [hzl, hcs]; omega) hone
  simp only [Nat.add_zero] at hst
  rw [hzl] at hst
  have hrun : (Builtin.clear_ #[t] o.type #[.slice (some ⟨g, m * size, none⟩) k c]).run P w = .ok (.tuple #[]) (w.setRow g (cur.toList.take (m * size) ++ (Builtin.zeroCells z.cells k).toList ++ cur.toList.drop (m * size + k * size)).toArray) := by
    obtain ⟨k', rfl⟩ : ∃ k', k = k' + 1 := ⟨k - 1, by omega⟩
    simp [Builtin.clear_, run_underlying T.und, zeroValue, typeInfo, hi, hz0, Result.andThen]
    simp at hst
    rw [hst]
  refine wpList_plain hgd fun K hK => ?_
  unfold Oper.wp
  simp [execOp, ho, resolve, invoke, builtin, hs, hrun, Result.andThen]
  have hcl : cur.toList.length = cap * size := by simpa using hcs
  have hg2 := setRow_heap w g cur (cur.toList.take (m * size) ++ (Builtin.zeroCells z.cells k).toList ++ cur.toList.drop (m * size + k * size)).toArray e (0, 0) hg
  have := h _ ⟨by rw [List.length_take, hl]; omega, .inr ⟨g, cap, _, rfl, hb, hg2, by omega, hc, by simp [hzl]; omega, ?_⟩⟩ (growX_setRow w g _)
  · simp only [List.append_assoc] at this
    exact hK _ _ this
  · rw [← ht, List.take_take, Nat.min_eq_left (by omega)]
    simp only [List.append_assoc]
    rw [List.take_append_of_le_length (by rw [List.length_take]; omega), List.take_take, Nat.min_self]

theorem hd_zero_one : ∀ v ∈ (Value.agg #[.int .i64 0, .string ByteArray.empty, .int .i64 0]).cells.toList, v.oneCell' = true := by
  intro v hv; simp [Value.cells] at hv; rcases hv with rfl | rfl | rfl <;> rfl
theorem hcells_set (M : List Hd) (k : Nat) (x : Hd) (hk : k < M.length) : (((hcells M).set (k * 3) (.int .i64 x.1)).set (k * 3 + 1) (.string x.2.1)).set (k * 3 + 2) (.int .i64 x.2.2) = hcells (M.set k x) := by
  induction M generalizing k with
  | nil => simp at hk
  | cons y r ih =>
    cases k with
    | zero => simp [hcells]
    | succ k =>
      have e1 : (k + 1) * 3 = k * 3 + 1 + 1 + 1 := by omega
      have e2 : (k + 1) * 3 + 1 = k * 3 + 1 + 1 + 1 + 1 := by omega
      have e3 : (k + 1) * 3 + 2 = k * 3 + 2 + 1 + 1 + 1 := by omega
      rw [e2, e3, e1]
      have := ih k (by simpa using hk)
      simp only [hcells, List.flatMap_cons, List.cons_append, List.nil_append, List.set_cons_succ] at *
      rw [this]
theorem hcells_take (M : List Hd) (k : Nat) : (hcells M).take (k * 3) = hcells (M.take k) := by
  induction M generalizing k with
  | nil => simp [hcells]
  | cons y r ih =>
    cases k with
    | zero => simp [hcells]
    | succ k =>
      have e1 : (k + 1) * 3 = k * 3 + 1 + 1 + 1 := by omega
      rw [e1]
      have := ih k
      simp only [hcells, List.flatMap_cons, List.cons_append, List.nil_append, List.take_succ_cons] at *
      rw [this]
def encHd (x : Hd) : List Value := [.int .i64 x.1, .string x.2.1, .int .i64 x.2.2]

/-- what a predicate's closure has to keep: facts that stand while the row g is written and memory grows -/
structure PredOf (fn : Nat) (lb : Array Value) (p : Hd → Bool) (g : Option Nat) (F : World → Prop) : Prop where
  stab : ∀ W W', F W → GrowX (fun k => some k = g) W W' → F W'
  ans : ∀ W (x : Hd), F W → Calls Try.prog fn (#[.agg #[.int .i64 x.1, .string x.2.1, .int .i64 x.2.2]] ++ lb) W fun e w' => e = .returned (.bool (p x)) ∧ Below W.heap.size W w'
theorem PredOf.yes {fn : Nat} {lb : Array Value} {p : Hd → Bool} {g : Option Nat} {F : World → Prop} (h : PredOf fn lb p g F) (W : World) (x : Hd) (hF : F W) (hp : p x = true) : Calls Try.prog fn (#[.agg #[.int .i64 x.1, .string x.2.1, .int .i64 x.2.2]] ++ lb) W fun e w' => e = .returned (.bool true) ∧ Below W.heap.size W w' :=
  (h.ans W x hF).mono fun _ _ ⟨h1, h2⟩ => ⟨by rw [h1, hp], h2⟩
theorem PredOf.no {fn : Nat} {lb : Array Value} {p : Hd → Bool} {g : Option Nat} {F : World → Prop} (h : PredOf fn lb p g F) (W : World) (x : Hd) (hF : F W) (hp : p x = false) : Calls Try.prog fn (#[.agg #[.int .i64 x.1, .string x.2.1, .int .i64 x.2.2]] ++ lb) W fun e w' => e = .returned (.bool false) ∧ Below W.heap.size W w' :=
  (h.ans W x hF).mono fun _ _ ⟨h1, h2⟩ => ⟨by rw [h1, hp], h2⟩

theorem grow_below {X : Nat → Prop} {w w' : World} (h : Below w.heap.size w w') : GrowX X w w' := ⟨h.os, h.tape, h.output, h.size, fun k hk _ => h.block k hk⟩

theorem idxH_any (L : List Hd) (n c g : Nat) (fn : Nat) (lb : Array Value) (p : Hd → Bool) (F : World → Prop) (eg : ∀ args w, (callFunc fn args).run Try.prog w = .ok (.enter fn args) w) (hP : PredOf fn lb p (some g) F) (hl : L.length = n) (hn : n ≤ 1099511627776) (hpos : 0 < n) (w : World) (hF : F w) (hv : Reads 3 w (.slice (some ⟨g, 0, none⟩) n c) n (hcells L)) :
    Calls Try.prog 43 #[.slice (some ⟨g, 0, none⟩) n c, .func (.func fn) #[] lb] w fun e w' => e = .returned (.int .i64 (atI (L.findIdx? p))) ∧ Below w.heap.size w w' := by
  obtain ⟨_, _, b, o, e1, hbl, hc⟩ := hv.some_addr hpos
  injection e1 with e1
  injection e1 with e1 e2
  subst e1 e2
  have := AnyQ.slices_IndexFunc (α := Hd) Try.idxHd 3 aggHd sizeHd encHd (fun _ => rfl) p fn lb eg g 0 n c L w
    (fun W x hW => (hP.ans W x (hP.stab w W hF (grow_below hW))).mono fun _ _ ⟨h1, h2⟩ => ⟨h1, hW.trans (h2.mono hW.size)⟩) (Nat.le_of_eq hl.symm) (by omega) hbl
    (fun j hj i v hi => by rw [Nat.add_assoc]; exact hc _ _ (flat_at encHd 3 (fun _ => rfl) L j hj i v hi))
  rw [List.take_of_length_le (Nat.le_of_eq hl), idx_findIdx] at this
  exact this

set_option maxRecDepth 100000 in
set_option maxHeartbeats 6400000 in
theorem del_any (L : List Hd) (n c G g : Nat) (fn : Nat) (lb : Array Value) (p : Hd → Bool) (F : World → Prop) (eg : ∀ args w, (callFunc fn args).run Try.prog w = .ok (.enter fn args) w) (hP : PredOf fn lb p (some g) F) (hl : L.length = n) (hn : n ≤ 1099511627776) (hpos : 0 < n) (w : World) (hF : F w) (hown : w.ownsRow G 62 3 (.slice (some ⟨g, 0, none⟩) n c) n (hcells L)) :
    Calls Try.prog 31 #[.slice (some ⟨g, 0, none⟩) n c, .func (.func fn) #[] lb] w fun e w' => ∃ m, e = .returned (.slice (some ⟨g, 0, none⟩) m c) ∧ (L.filter fun x => !p x).length = m ∧ m ≤ n ∧ w'.ownsRow G 62 3 (.slice (some ⟨g, 0, none⟩) m c) m (hcells (L.filter fun x => !p x)) ∧ GrowX (fun k => k = g) w w' := by
  have HO := Lib.hid hown
  have HL := Lib.hid hl
  have HP := Lib.hid hP
  have HF := Lib.hid hF
  have hnc : n ≤ c := by obtain ⟨_, _, h, _, h2, _⟩ := Reads.of_own hown; injection h with _ _ h3; omega
  clear hown hl hP hF
  cases hf : L.findIdx? p with
  | none =>
    have hno := List.findIdx?_eq_none_iff.1 hf
    have HFL : Hid (L.filter (fun x => !p x) = L) := Lib.hid (List.filter_eq_self.2 (fun a ha => by rw [hno a ha]; rfl))
    have HFI := Lib.hid hf
    clear hf hno
    go_enter Try.func31, Try.ntmps31
    go_wp2_with fail
    refine (idxH_any L n c g fn lb p F eg HP.out HL.out hn hpos w HF.out (Reads.of_own HO.out)).mono ?_
    rintro e w1 ⟨rfl, hb1⟩
    rw [HFI.out]
    have HO1 := Lib.hid (own_below HO.out hb1 (fun q e => (HO.out.lt q e).2))
    have HB1 := Lib.hid hb1
    clear hb1 eg
    show _
    simp only [atI]
    go_wp2_with fail
    go_ret
    exact ⟨n, rfl, by rw [HFL.out]; exact HL.out, Nat.le_refl _, by rw [HFL.out]; exact HO1.out, grow_below HB1.out⟩
  | some i0 =>
    obtain ⟨hil, hpi, hbef⟩ := List.findIdx?_eq_some_iff_getElem.1 hf
    have HPRE : Hid ((L.take (i0 + 1)).filter (fun x => !p x) = L.take i0) := Lib.hid (by
      rw [List.take_succ_eq_append_getElem hil, List.filter_append]
      have e1 : List.filter (fun x => !p x) [L[i0]] = [] := by simp [hpi]
      rw [e1, List.append_nil]
      refine List.filter_eq_self.2 (fun a ha => ?_)
      obtain ⟨j, hj, rfl⟩ := List.getElem_of_mem ha
      have hj' : j < i0 := by simp at hj; omega
      have := hbef j hj'
      simpa using this)
    have HFI := Lib.hid hf
    rw [HL.out] at hil
    clear hf hpi hbef
    go_enter Try.func31, Try.ntmps31
    go_wp2_with fail
    refine (idxH_any L n c g fn lb p F eg HP.out HL.out hn hpos w HF.out (Reads.of_own HO.out)).mono ?_
    rintro e w1 ⟨rfl, hb1⟩
    rw [HFI.out]
    have HO1 := Lib.hid (own_below HO.out hb1 (fun q e => (HO.out.lt q e).2))
    have HG1 := Lib.hid (grow_below (X := fun k => k = g) hb1)
    clear hb1 HO HFI
    simp only [atI]
    have hne : ((i0 : Int) == -1) = false := by simp
    go_wp2_with fail
    go_loopw [5, 6] (fun si sj wr => ∃ (i j : Nat) (M : List Hd), j ≤ n ∧ i < j ∧ si = .int .i64 i ∧ sj = .int .i64 j ∧ Hid (M.length = n ∧ M.take i = (L.take j).filter (fun x => !p x) ∧ M.drop j = L.drop j ∧ ((L.take j).filter (fun x => !p x)).length = i) ∧
      wr.ownsRow G 62 3 (.slice (some ⟨g, 0, none⟩) n c) n (hcells M) ∧ GrowX (fun k => k = g) w wr) (fun _ sj _ => n - (intOf sj).toNat)
    case atStart => exact ⟨i0, i0 + 1, L, by omega, by omega, rfl, by go_num, Lib.hid ⟨HL.out, by rw [HPRE.out], rfl, by rw [HPRE.out, List.length_take, HL.out]; omega⟩, HO1.out, HG1.out⟩
    case round =>
      obtain ⟨i, j, M, hj, hij, rfl, rfl, HM, hown, hgr⟩ := hrel
      have HO := Lib.hid hown
      have HG := Lib.hid hgr
      have HFW : Hid (F wr) := Lib.hid (HP.out.stab w wr HF.out ⟨hgr.os, hgr.tape, hgr.output, hgr.size, fun k hk hx => hgr.block k hk (fun e => hx (by rw [e]))⟩)
      clear hown hgr
      by_cases hlt : j < n
      · have hjL : j < L.length := by rw [HL.out]; exact hlt
        have hts : L.take (j + 1) = L.take j ++ [L[j]] := List.take_succ_eq_append_getElem hjL
        have hMj : M[j]? = some L[j] := by
          have h1 := congrArg (fun l => l[0]?) HM.out.2.2.1
          simp only [List.getElem?_drop, Nat.add_zero] at h1
          rw [h1, List.getElem?_eq_getElem hjL]
        have HD : Hid (M.drop (j + 1) = L.drop (j + 1)) := Lib.hid (by
          have h1 := congrArg (List.drop 1) HM.out.2.2.1
          rwa [List.drop_drop, List.drop_drop] at h1)
        obtain ⟨b, o, c', e, hb, _, hc1, hc2, hc3⟩ := Hds.at (Reads.of_own HO.out) j hlt L[j] hMj
        injection e with e1 e2 e3
        injection e1 with e1
        injection e1 with e1 e4
        subst e1 e3 e4
        have HTS := Lib.hid hts
        generalize L[j] = x at *
        obtain ⟨x1, x2, x3⟩ := x
        simp only [Nat.zero_add] at hc1 hc2 hc3
        clear hMj hts hjL e2
        obtain ⟨gx, hgx⟩ : ∃ q, wr.heap.size = q := ⟨_, rfl⟩
        have HGX := Lib.hid hgx
        have BX := Lib.hid (Box.new wr #[.int .i64 x1, .string x2, .int .i64 x3] 62 hgx.symm)
        have hggx : g < gx := by omega
        have hal : Below gx wr (wr.alloc (.cells #[.int .i64 x1, .string x2, .int .i64 x3] 62)) := (Below.refl gx wr).alloc (by omega) _
        have HO2 : Hid ((wr.alloc (.cells #[.int .i64 x1, .string x2, .int .i64 x3] 62)).ownsRow G 62 3 (.slice (some ⟨g, 0, none⟩) n c) n (hcells M)) := Lib.hid (HO.out.alloc _)
        have hgal : GrowX (fun k => k = g) wr (wr.alloc (.cells #[.int .i64 x1, .string x2, .int .i64 x3] 62)) := grow_below (by rw [hgx]; exact hal)
        have HG2 := Lib.hid (HG.out.trans hgal)
        have HF2 : Hid (F (wr.alloc (.cells #[.int .i64 x1, .string x2, .int .i64 x3] 62))) := Lib.hid (HP.out.stab _ _ HFW.out ⟨hgal.os, hgal.tape, hgal.output, hgal.size, fun k hk hx => hgal.block k hk (fun e => hx (by rw [e]))⟩)
        clear hgx hal hgal
        cases hpx : p (x1, x2, x3) with
        | true =>
          have HPX := Lib.hid hpx
          have HTK : Hid ((L.take (j + 1)).filter (fun x => !p x) = (L.take j).filter (fun x => !p x)) := Lib.hid (by rw [HTS.out, List.filter_append]; simp [hpx])
          clear hpx
          go_wp2_with fail
          refine (HP.out.yes _ (x1, x2, x3) HF2.out HPX.out).mono ?_
          rintro e w2 ⟨rfl, hb2⟩
          have HO3 := Lib.hid (own_below HO2.out hb2 (fun q e => (HO2.out.lt q e).2))
          have HG3 := Lib.hid (HG2.out.trans (grow_below hb2))
          clear hb2
          go_wp2_with fail
          go_roundw
          case rel => exact ⟨i, j + 1, M, by omega, by omega, rfl, by go_num, Lib.hid ⟨HM.out.1, by rw [HTK.out]; exact HM.out.2.1, HD.out, by rw [HTK.out]; exact HM.out.2.2.2⟩, HO3.out, HG3.out⟩
          case measure => simp [intOf]; omega
        | false =>
          have HPX := Lib.hid hpx
          have HTK : Hid ((L.take (j + 1)).filter (fun x => !p x) = (L.take j).filter (fun x => !p x) ++ [(x1, x2, x3)]) := Lib.hid (by rw [HTS.out, List.filter_append]; simp [hpx])
          clear hpx
          go_wp2_with fail
          refine (HP.out.no _ (x1, x2, x3) HF2.out HPX.out).mono ?_
          rintro e w2 ⟨rfl, hb2⟩
          have HO3 := Lib.hid (own_below HO2.out hb2 (fun q e => (HO2.out.lt q e).2))
          have HG3 := Lib.hid (HG2.out.trans (grow_below hb2))
          have BX3 := Lib.hid (BX.out.below hb2 (Nat.le_refl _))
          clear hb2
          rw [HGX.out]
          have cx0 := BX3.out.cell 0 _ rfl
          have cx1 := BX3.out.cell 1 _ rfl
          have cx2 := BX3.out.cell 2 _ rfl
          have fz : ∀ o, w2.frozen? ⟨g, o, none⟩ = false := fun o => own_free HO3.out rfl o
          have HIM : Hid (∃ y, M[i]? = some y) := Lib.hid ⟨_, List.getElem?_eq_getElem (by rw [HM.out.1]; omega)⟩
          obtain ⟨y, hy⟩ := HIM.out
          obtain ⟨b, o, c', e, hb, _, hs1, hs2, hs3⟩ := Hds.at (Reads.of_own HO3.out) i (by omega) y hy
          injection e with e1 e2 e3
          injection e1 with e1
          injection e1 with e1 e4
          subst e1 e3 e4
          simp only [Nat.zero_add] at hs1 hs2 hs3
          clear hy e2
          go_wp2_with fail
          have hown4 := own_set (own_set (own_set HO3.out rfl (i * 3) (by omega) (.int .i64 x1)) rfl (i * 3 + 1) (by omega) (.string x2)) rfl (i * 3 + 2) (by omega) (.int .i64 x3)
          rw [hcells_set M i (x1, x2, x3) (by rw [HM.out.1]; omega)] at hown4
          have hgr4 := HG3.out.trans (((growX_setCell w2 g (i * 3) (.int .i64 x1)).trans (growX_setCell _ g (i * 3 + 1) (.string x2))).trans (growX_setCell _ g (i * 3 + 2) (.int .i64 x3)))
          go_roundw
          case rel => exact ⟨i + 1, j + 1, M.set i (x1, x2, x3), by omega, by omega, by go_num, by go_num, Lib.hid ⟨by rw [List.length_set]; exact HM.out.1, by rw [HTK.out, ← HM.out.2.1, List.take_succ_eq_append_getElem (by rw [List.length_set, HM.out.1]; omega), List.take_set_of_le (Nat.le_refl _), List.getElem_set_self], by rw [List.drop_set_of_lt (by omega)]; exact HD.out, by rw [HTK.out, List.length_append, HM.out.2.2.2]; rfl⟩, hown4, hgr4⟩
          case measure => simp [intOf]; omega
      · obtain rfl : n = j := by omega
        have hall : L.take n = L := List.take_of_length_le (Nat.le_of_eq HL.out)
        have HMT : Hid (M.take i = L.filter (fun x => !p x) ∧ (L.filter (fun x => !p x)).length = i) := Lib.hid ⟨by rw [HM.out.2.1, hall], by rw [← hall]; exact HM.out.2.2.2⟩
        have hci : ¬ c = i := by omega
        clear hall eg
        go_wp2_with (with_reducible refine wpList_clear_tail hdsOf (.tmp 38) rfl rfl (m := i) (k := n - i) (n := n) (cap := c) rfl HO.out (by omega) (by omega) hd_zero_one ?_; intro w2 hown2 hgr2)
        go_ret
        rw [hcells_take, HMT.out.1] at hown2
        exact ⟨i, rfl, HMT.out.2, by omega, hown2, HG.out.trans hgr2⟩
end Go.Proofs.Ytoghmllkaafckaa

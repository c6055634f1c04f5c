/- What slices.Delete answers at a row of the call's own, for one element. Conditions: short lists. -/
import Derived.Test.YtfbblgcdggpehaaNIns
namespace Go.Proofs.Ytfbblgcdggpehaa
set_option linter.unusedSimpArgs false
set_option linter.unusedVariables false
open Go.RowKit

theorem growX_setRow (w : World) (g : Nat) (cs : Array Value) : GrowX (fun k => k = g) w (w.setRow g cs) :=
  ⟨rfl, rfl, rfl, by simp [World.setRow], fun k hk hx => setRow_other w g k cs hx⟩

/-- append where there is room, the row told whole, as one step of a region that draws -/
theorem step_append_row {P : Program} {ops : Array Oper} {o : Oper} {a : Act} {w : World} {K : Act → World → Prop} {Q : Exit → Act → World → Prop} {E : Prop}
    {t e : TypeId} {z : Value} {bytes : Nat} (T : SliceOf P t e z 1 bytes) (hgd : o.guard = none) (s x : Operand) (ho : o.op = .call { callee := .builtin .append, args := #[s, x], argTypes := #[t, t] })
    {g n cap : Nat} {cur : Array Value} (hs : a.eval s = .slice (some ⟨g, 0, none⟩) n cap) (hg : w.heap[g]? = some (.cells cur e (0, 0)))
    {ad : Addr} {m c : Nat} {news : List Value} (hx : a.eval x = .slice (some ad) m c) (hl : news.length = m) (hnews : ∀ j u, news[j]? = some u → w.cell? (ad.add j) = some u) (h1 : ∀ u ∈ news, u.oneCell' = true)
    (hroom : n + m ≤ cap) (hfit : n + news.length ≤ cur.size)
    (h : ∀ w', Hid (w'.heap[g]? = some (.cells (cur.toList.take n ++ news ++ cur.toList.drop (n + news.length)).toArray e (0, 0))) → GrowX (fun k => k = g) w w' → K (a.put o.dst (.slice (some ⟨g, 0, none⟩) (n + m) cap)) w') :
    if Region.wanted o (yielded ops a.tmps) = true then Oper.wp P o a w K Q else E := by
  have hw : Region.wanted o (yielded ops a.tmps) = true := by simp [Region.wanted, hgd]
  rw [if_pos hw]
  obtain ⟨i, hi, hz0, hz1, hz2⟩ := info_parts T.info
  have hrun := run_append_room (P := P) w t o.type e i T.und hi g n cap cur hg ad m c news (by rw [hz1, Nat.mul_one]; exact hl) hnews h1 hroom (by rw [hz1, Nat.mul_one]; exact hfit)
  rw [hz1, Nat.mul_one] at hrun
  unfold Oper.wp
  simp [execOp, ho, resolve, invoke, builtin, hs, hx, hrun, Result.andThen]
  have h2 := h _ (Lib.hid (setRow_heap w g cur _ e (0, 0) hg)) (growX_setRow w g _)
  rw [List.append_assoc] at h2
  exact h2

/-- clear of a part of a row -/
theorem wpList_clear_row {P : Program} {w : World} {ops : Array Oper} {rest : List Oper} {o : Oper} {a : Act} {Q : Exit → Act → World → Prop}
    {t e : TypeId} {z : Value} {bytes : Nat} (T : SliceOf P t e z 1 bytes) (s : Operand) (hgd : o.guard = none) (ho : o.op = .call { callee := .builtin .clear, args := #[s], argTypes := #[t] })
    {g off k c : Nat} {cur : List Value} (hs : a.eval s = .slice (some ⟨g, off, none⟩) k c) (hg : w.heap[g]? = some (.cells cur.toArray e (0, 0))) (hk : 0 < k) (hfit : off + k ≤ cur.length) (hz1 : z.oneCell' = true) (hzc : z.cells = #[z])
    (h : ∀ w', Hid (w'.heap[g]? = some (.cells (splice cur off (List.replicate k z)).toArray e (0, 0))) → GrowX (fun k => k = g) w w' → wpList P ops Q rest (a.put o.dst (.tuple #[])) w') : wpList P ops Q (o :: rest) a w := by
  obtain ⟨i, hi, hz0, hz, hz2⟩ := info_parts T.info
  have hzl : (Builtin.zeroCells z.cells k).toList = List.replicate k z := by
    rw [hzc]
    apply List.ext_getElem
    · simp [Builtin.zeroCells]
    · intro j h1 h2
      simp [Builtin.zeroCells, Nat.mod_one]
  have hst := run_storeCells_at P g off e (List.replicate k z) 0 cur.toArray w hg (by simpa using hfit) (fun v hv => by rw [List.eq_of_mem_replicate hv]; exact hz1)
  simp only [Nat.add_zero] at hst
  have hrun : (Builtin.clear_ #[t] o.type #[.slice (some ⟨g, off, none⟩) k c]).run P w = .ok (.tuple #[]) (w.setRow g (cur.take off ++ List.replicate k z ++ cur.drop (off + k)).toArray) := by
    simp only [List.length_replicate] at hst
    obtain ⟨k', rfl⟩ : ∃ k', k = k' + 1 := ⟨k - 1, by omega⟩
    simp [Builtin.clear_, run_underlying T.und, zeroValue, typeInfo, hi, hz0, hzl, Result.andThen]
    rw [hst]
    simp
  refine wpList_plain hgd fun K hK => ?_
  unfold Oper.wp
  simp [execOp, ho, resolve, invoke, builtin, hs, hrun, Result.andThen]
  refine hK _ _ (h _ ?_ (growX_setRow w g _))
  have := setRow_heap w g cur.toArray (cur.take off ++ List.replicate k z ++ cur.drop (off + k)).toArray e (0, 0) hg
  exact Lib.hid (by simpa [splice] using this)

set_option maxRecDepth 100000 in
set_option maxHeartbeats 3200000 in
theorem delete_any (G : Nat) (xs : List Value) (g n cap i : Nat) (j : Int) (w : World) (hown : w.ownsRow G 28 1 (.slice (some ⟨g, 0, none⟩) n cap) n xs) (h1 : ∀ v ∈ xs, v.oneCell' = true) (hi : i < n) (hj : j = (i : Int) + 1) (hn : n ≤ 1048577) :
    Calls Try.prog 42 #[.slice (some ⟨g, 0, none⟩) n n, .int .i64 i, .int .i64 j] w fun e w' => e = .returned (.slice (some ⟨g, 0, none⟩) (n - 1) n) ∧
      w'.ownsRow G 28 1 (.slice (some ⟨g, 0, none⟩) (n - 1) cap) (n - 1) (xs.eraseIdx i) ∧ GrowX (fun k => k = g) w w' := by
  subst hj
  have hxl : xs.length = n := by simpa using hown.1
  rcases hown.2 with ⟨h, _⟩ | ⟨g', cap', cur, he, hG, hg, hnc, hcm, hcs, ht⟩
  · cases h
  injection he with e1 _ e3
  injection e1 with e1
  injection e1 with e1
  subst e1 e3
  rw [Nat.mul_one] at hcs ht
  have hgl : g < w.heap.size := (Array.getElem?_eq_some_iff.1 hg).1
  have hcell : ∀ k v, xs[k]? = some v → w.cell? ⟨g, 0 + k, none⟩ = some v := by
    intro k v hv
    have hkn : k < n := by rw [← hxl]; exact (List.getElem?_eq_some_iff.1 hv).1
    rw [← ht, List.getElem?_take, if_pos hkn] at hv
    simp only [World.cell?, hg, Nat.zero_add]
    simpa using hv
  -- the source of the append
  obtain ⟨sp, hsp, hsrc⟩ : ∃ sp : Addr, (if n = i + 1 then (⟨g, 0, none⟩ : Addr) else ⟨g, i + 1, none⟩) = sp ∧ ∀ k v, (xs.drop (i + 1))[k]? = some v → w.drew.cell? (sp.add k) = some v := by
    refine ⟨_, rfl, fun k v hv => ?_⟩
    rw [List.getElem?_drop] at hv
    have hkn : i + 1 + k < n := by rw [← hxl]; exact (List.getElem?_eq_some_iff.1 hv).1
    rw [if_neg (by omega), Addr.add_lit]
    have := hcell _ _ hv
    rw [Nat.zero_add] at this
    exact this
  have HSRC := Lib.hid hsrc
  have N2 := Lib.hid (show (xs.drop (i + 1)).length = n - (i + 1) by rw [List.length_drop, hxl])
  have O2 := Lib.hid (show ∀ v ∈ xs.drop (i + 1), v.oneCell' = true from fun v hv => h1 v (List.mem_of_mem_drop hv))
  have F2 := Lib.hid (show i + (xs.drop (i + 1)).length ≤ cur.size by rw [List.length_drop, hxl, hcs]; omega)
  have HG := Lib.hid hg
  have HT := Lib.hid ht
  have HCS := Lib.hid hcs
  have HXL := Lib.hid hxl
  have d1 : ((i : Int) == (i : Int) + 1) = false := by simp only [beq_eq_false_iff_ne]; omega
  have q0 : IntKind.i64.wrap ((i : Int) + 1) = (i : Int) + 1 := by rw [IntKind.wrap_i64]; omega
  have q1 : 0 ≤ (i : Int) + 1 := by omega
  have q2 : ((i : Int) + 1).toNat = i + 1 := by omega
  have q4 : (i : Int) + 1 ≤ (n : Int) := by omega
  have q6 : (i : Int) ≤ (n : Int) := by omega
  clear hown h1 hsrc hcell hg ht hcs hxl
  have q7 : i + (n - (i + 1)) = n - 1 := by omega
  have Q7 := Lib.hid q7
  clear q7
  by_cases hlast : n = i + 1
  · rw [if_pos hlast] at hsp
    subst hsp hlast
    have q6' : (i : Int) ≤ (i : Int) + 1 := by omega
    have N3 := Lib.hid (show (([] : List Value)).length = 0 from rfl)
    have hnil : xs.drop (i + 1) = [] := List.eq_nil_of_length_eq_zero (by rw [N2.out]; omega)
    have FC := Lib.hid (show i + ([] : List Value).length ≤ cur.size by rw [HCS.out]; simp; omega)
    have SRC := Lib.hid (show ∀ k v, ([] : List Value)[k]? = some v → w.drew.cell? ((⟨g, 0, none⟩ : Addr).add k) = some v from fun k v h => by cases h)
    have O3 := Lib.hid (show ∀ v ∈ ([] : List Value), v.oneCell' = true from fun v h => by cases h)
    have HNIL := Lib.hid hnil
    clear N2 O2 F2 HSRC hnil
    go_enter Try.func42, Try.ntmps42
    go_wp2_with fail
    go_region_law (refine step_append_row (P := Try.prog) sl_texts rfl (.tmp 22) (.tmp 25) rfl (g := g) (n := i) (cap := i + 1) (cur := cur) (by simp [Act.eval, Act.put]) HG.out (ad := ⟨g, 0, none⟩) (m := 0) (c := 0) (news := []) (by simp [Act.eval, Act.put]) N3.out SRC.out O3.out (by omega) FC.out ?_; intro w1 hg1 hgr1)
    have q8 : ¬ (i + 1 = i) := by omega
    have hl1 : (cur.toList.take i ++ [] ++ cur.toList.drop (i + ([] : List Value).length)).length = cap := by
      have e1 : cur.toList.length = cap := by simpa using HCS.out
      simp only [List.length_append, List.length_take, List.length_drop, e1, List.length_nil]
      omega
    have ht1 : (cur.toList.take i ++ [] ++ cur.toList.drop (i + ([] : List Value).length)).take i = xs.eraseIdx i := by
      have e1 : cur.toList.take i = xs.take i := by rw [← HT.out, List.take_take, Nat.min_eq_left (by omega)]
      have e2 : (xs.take i).length = i := by simp [HXL.out]
      rw [List.append_nil, e1, List.take_append_of_le_length (by omega), List.take_of_length_le (by omega), List.eraseIdx_eq_take_drop_succ, HNIL.out, List.append_nil]
    have HL1 := Lib.hid hl1
    have HT1 := Lib.hid ht1
    clear hl1 ht1
    generalize cur.toList.take i ++ [] ++ cur.toList.drop (i + ([] : List Value).length) = C at *
    go_wp2_with (with_reducible refine wpList_clear_row sl_texts (.tmp 31) rfl rfl (g := g) (off := i) (cur := C) rfl hg1.out (by omega) (by rw [HL1.out]; omega) rfl rfl ?_; intro w2 hg2 hgr2)
    go_ret
    have hls := length_splice C i (List.replicate 1 (Value.slice none 0 0)) (by rw [HL1.out, List.length_replicate]; omega)
    refine ⟨rfl, ⟨by rw [Nat.mul_one, List.length_eraseIdx, HXL.out, if_pos hi], .inr ⟨g, cap, _, rfl, hG, hg2.out, by omega, hcm, by simpa [HL1.out] using hls, ?_⟩⟩, (show GrowX _ w w.drew from ⟨rfl, rfl, rfl, Nat.le_refl _, fun _ _ _ => rfl⟩).trans (hgr1.trans hgr2)⟩
    rw [Nat.mul_one, Nat.add_sub_cancel]
    show (splice C i _).take i = _
    unfold splice
    have e3 : (C.take i).length = i := by rw [List.length_take, HL1.out]; omega
    rw [List.take_append_of_le_length (by omega), List.take_of_length_le (by omega)]
    exact HT1.out
  · rw [if_neg hlast] at hsp
    subst hsp
    have q3 : ¬ (n = i + 1) := hlast
    go_enter Try.func42, Try.ntmps42
    go_wp2_with fail
    go_region_law (refine step_append_row (P := Try.prog) sl_texts rfl (.tmp 22) (.tmp 25) rfl (g := g) (n := i) (cap := n) (cur := cur) (by simp [Act.eval, Act.put]) HG.out (ad := ⟨g, i + 1, none⟩) (m := n - (i + 1)) (c := n - (i + 1)) (news := xs.drop (i + 1)) (by simp [Act.eval, Act.put]) N2.out HSRC.out O2.out (by omega) F2.out ?_; intro w1 hg1 hgr1)
    have hgrow : Hid (Grow w w) := Lib.hid (Grow.refl _)
    simp only [Q7.out]
    have q8 : ¬ (n = n - 1) := by omega
    have q9 : ((n - 1 : Nat) : Int) ≤ (n : Int) := by omega
    have hl1 : (cur.toList.take i ++ xs.drop (i + 1) ++ cur.toList.drop (i + (xs.drop (i + 1)).length)).length = cap := by
      have e1 : cur.toList.length = cap := by simpa using HCS.out
      have e2 := N2.out
      simp only [List.length_append, List.length_take, List.length_drop, e1, HXL.out]
      omega
    have ht1 : (cur.toList.take i ++ xs.drop (i + 1) ++ cur.toList.drop (i + (xs.drop (i + 1)).length)).take (n - 1) = xs.eraseIdx i := by
      have e1 : cur.toList.take i = xs.take i := by rw [← HT.out, List.take_take, Nat.min_eq_left (by omega)]
      have e2 : (xs.take i ++ xs.drop (i + 1)).length = n - 1 := by simp [HXL.out]; omega
      rw [e1, ← e2, List.take_left, List.eraseIdx_eq_take_drop_succ]
    have HL1 := Lib.hid hl1
    have HT1 := Lib.hid ht1
    clear hl1 ht1
    generalize cur.toList.take i ++ xs.drop (i + 1) ++ cur.toList.drop (i + (xs.drop (i + 1)).length) = C at *
    go_wp2_with (with_reducible refine wpList_clear_row sl_texts (.tmp 31) rfl rfl (g := g) (off := n - 1) (cur := C) rfl hg1.out (by omega) (by rw [HL1.out]; omega) rfl rfl ?_; intro w2 hg2 hgr2)
    go_ret
    have hls := length_splice C (n - 1) (List.replicate (n - (n - 1)) (Value.slice none 0 0)) (by rw [HL1.out, List.length_replicate]; omega)
    refine ⟨rfl, ⟨by rw [Nat.mul_one, List.length_eraseIdx, HXL.out, if_pos hi], .inr ⟨g, cap, _, rfl, hG, hg2.out, by omega, hcm, by simpa [HL1.out] using hls, ?_⟩⟩, (show GrowX _ w w.drew from ⟨rfl, rfl, rfl, Nat.le_refl _, fun _ _ _ => rfl⟩).trans (hgr1.trans hgr2)⟩
    rw [Nat.mul_one]
    show (splice C (n - 1) _).take (n - 1) = _
    unfold splice
    have e3 : (C.take (n - 1)).length = n - 1 := by rw [List.length_take, HL1.out]; omega
    rw [List.take_append_of_le_length (by omega), List.take_of_length_le (by omega)]
    exact HT1.out

end Go.Proofs.Ytfbblgcdggpehaa

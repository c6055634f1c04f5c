/- What slices.Insert answers at a slice with no spare room, for one element. Conditions: short lists. -/
import Derived.Test.YtfbblgcdggpehaaNFind
import Derived.Laws.CopyOwn
import Derived.Lib.AppendZerosOnto
namespace Go.Proofs.Ytfbblgcdggpehaa
set_option linter.unusedSimpArgs false
set_option linter.unusedVariables false
open Go.RowKit

/-- append(s[:i], make(T, k)...) where there is no room -/
theorem wpList_append_make {P : Program} {w : World} {ops : Array Oper} {rest : List Oper} {o : Oper} {a : Act} {Q : Exit → Act → World → Prop}
    {t tn e : TypeId} {z : Value} {bytes : Nat} (T : SliceOf P t e z 1 bytes) (htn : P.underlying tn = some (.int .i64)) (s x : Operand) (hgd : o.guard = none)
    (ho : o.op = .call { callee := .builtin .append, args := #[s, x], argTypes := #[t, tn] })
    {ad : Addr} {i c : Nat} {olds : List Value} (hs : a.eval s = .slice (some ad) i c) (hl : olds.length = i) (hold : ∀ j v, olds[j]? = some v → w.cell? (ad.add j) = some v)
    {k : Nat} {ki : Int} (hx : a.eval x = .int .i64 ki) (hk : ki = k) (hpos : 0 < k) (hfull : c < i + k) (hmax : i + k ≤ 1099511627776) (hb : (i + k) * bytes ≤ 70368744177664)
    (h : ∀ (cap : Nat) (Z : List Value) (w' : World), Hid (w'.heap[w.heap.size]? = some (.cells Z.toArray e (0, 0))) → Hid (Z.take i = olds) → Hid (Z.length = cap) → i + k ≤ cap → cap ≤ maxLen → Grow w w' → w.heap.size < w'.heap.size →
      wpList P ops Q rest (a.put o.dst (.slice (some ⟨w.heap.size, 0, none⟩) (i + k) cap)) w') : wpList P ops Q (o :: rest) a w := by
  obtain ⟨ti, hi, hz0, hz1, hz2⟩ := info_parts T.info
  subst hk
  have hfc := run_firstCells_some (P := P) w.drew ti.size i ad i c olds (by rw [hz1, Nat.mul_one]; exact hl) (fun j u hu => (hold j u hu : w.cell? _ = some u))
  have hrun := Lib.run_append_grow_zeros (P := P) (ty := o.type) w t tn e ti z .i64 .i64 T.und htn hi hz0 (some ad) i c olds hfc k hpos (by omega) hfull (by omega) (by rw [hz2]; have : k * bytes ≤ (i + k) * bytes := Nat.mul_le_mul_right _ (by omega); omega) (by rw [hz2]; exact growslice_fits (by omega) (by omega))
  have hge := grownCap_ge w (i + k) c e
  have hcm := grownCap_le_maxLen w (i + k) c e (by unfold maxLen; omega)
  refine wpList_plain hgd fun K hK => ?_
  unfold Oper.wp
  simp [execOp, ho, resolve, invoke, builtin, hs, hx, hrun, Result.andThen]
  have hzs := T.cells
  refine hK _ _ (h (grownCap w (i + k) c e) (olds ++ (Builtin.zeroCells z.cells k).toList ++ (Builtin.zeroCells z.cells (grownCap w (i + k) c e - (i + k))).toList) _ ?_ ?_ ?_ hge hcm ?_ ?_)
  · have := heap_alloc_new w.drew (.cells (olds.toArray ++ Builtin.zeroCells z.cells k ++ Builtin.zeroCells z.cells (grownCap w (i + k) c e - (i + k))) e)
    rw [Array.append_assoc] at this
    have h2 : (olds ++ (Builtin.zeroCells z.cells k).toList ++ (Builtin.zeroCells z.cells (grownCap w (i + k) c e - (i + k))).toList).toArray = olds.toArray ++ (Builtin.zeroCells z.cells k ++ Builtin.zeroCells z.cells (grownCap w (i + k) c e - (i + k))) := by
      apply Array.toList_inj.1
      simp
    rw [h2]
    exact Lib.hid this
  · exact Lib.hid (by rw [List.append_assoc, ← hl, List.take_left])
  · exact Lib.hid (by
      simp only [List.length_append, Array.length_toList, size_zeroCells, hzs, hl]
      omega)
  · exact Grow.alloc (w := w.drew) (show Grow w w.drew from ⟨rfl, rfl, rfl, Nat.le_refl _, fun k hk => rfl⟩) _
  · simp

theorem splice_ins {xs Z : List Value} {u : Value} {i n cap : Nat} (hZl : Z.length = cap) (hcap : n + 1 ≤ cap) (hZt : Z.take i = xs.take i) (hxl : xs.length = n) (hi : i < n) :
    (splice (splice Z i [u]) (i + 1) (xs.drop i)).take (n + 1) = xs.take i ++ u :: xs.drop i := by
  have h1 : splice Z i [u] = xs.take i ++ (u :: Z.drop (i + 1)) := by simp [splice, hZt]
  have h2 : (xs.take i ++ (u :: Z.drop (i + 1))).take (i + 1) = xs.take i ++ [u] := by
    rw [show xs.take i ++ (u :: Z.drop (i + 1)) = (xs.take i ++ [u]) ++ Z.drop (i + 1) by simp]
    have : (xs.take i ++ [u]).length = i + 1 := by simp; omega
    rw [← this, List.take_left]
  rw [h1, splice, h2, ← List.append_assoc]
  have h3 : (xs.take i ++ [u] ++ xs.drop i).length = n + 1 := by simp; omega
  rw [← h3, List.take_left]
  simp

set_option maxRecDepth 100000 in
set_option maxHeartbeats 3200000 in
theorem insert_any (xs : List Value) (u : Value) (ao : Option Addr) (n i vb : Nat) (w : World) (hr : Reads 1 w (.slice ao n n) n xs) (h1 : ∀ v ∈ xs, v.oneCell' = true) (hu : u.oneCell' = true)
    (hv : w.cell? ⟨vb, 0, none⟩ = some u) (hvl : vb < w.heap.size) (hi : i ≤ n) (hmax : n ≤ 1048577) :
    Calls Try.prog 43 #[.slice ao n n, .int .i64 i, .slice (some ⟨vb, 0, none⟩) 1 1] w fun e w' => ∃ g c, e = .returned (.slice (some ⟨g, 0, none⟩) (n + 1) c) ∧ Grow w w' ∧
      w'.ownsRow w.heap.size 28 1 (.slice (some ⟨g, 0, none⟩) (n + 1) c) (n + 1) (xs.take i ++ u :: xs.drop i) := by
  have hxl : xs.length = n := by obtain ⟨_, _, _, h, _⟩ := hr; simpa using h
  by_cases hin : i = n
  · subst hin
    have hrk := hr.kept (X := fun _ => False) (fun k hk h => h)
    have hru : Reads 1 w (.slice (some ⟨vb, 0, none⟩) 1 1) 1 [u] := ⟨_, _, rfl, rfl, Nat.le_refl _, fun _ => ⟨vb, 0, rfl, hvl, fun j v hj => by
      cases j with
      | zero => obtain rfl := Option.some.inj hj; exact hv
      | succ j => cases hj⟩⟩
    have HRK := Lib.hid hrk
    have HRU := Lib.hid hru
    have HXL := Lib.hid hxl
    clear hr hrk hru hv hxl h1
    go_enter Try.func43, Try.ntmps43
    go_wp2_with (first
      | (at_builtin; refine wpList_append_full sl_texts (.tmp 23) (.tmp 24) rfl rfl rfl HRK.out (fun _ h => h.elim) rfl HRU.out (by intro v hv; rw [List.mem_singleton.1 hv]; exact hu) (by omega) (by omega) ?_; intro ao' c' w' hle hgr hk hown; obtain ⟨g, rfl, hg, hown⟩ := hown (by omega)))
    all_goals
      go_ret
      refine ⟨g, c', rfl, hgr, ?_⟩
      rw [List.take_of_length_le (by rw [HXL.out]; exact Nat.le_refl _), List.drop_eq_nil_of_le (by rw [HXL.out]; exact Nat.le_refl _)]
      exact hown
  · have hlt : i < n := by omega
    obtain ⟨_, hl2, b, off, rfl, hb, hcell⟩ := hr.some_addr (by omega)
    have HC := Lib.hid hcell
    have HXL := Lib.hid hxl
    have H1 := Lib.hid h1
    have hin2 : ((i : Int) == (n : Int)) = false := by simp; omega
    have hin3 : ((i : Int) = (n : Int)) = False := by simp; omega
    clear hr hl2 hcell hxl h1
    go_enter Try.func43, Try.ntmps43
    go_wp2_with (first
      | (at_builtin; refine wpList_append_make (k := n + 1 - i) (olds := xs.take i) sl_texts Try.underlying3 (.tmp 34) (.tmp 39) rfl rfl rfl (by rw [List.length_take, HXL.out]; omega) ?c1 rfl ?c2 (by omega) (by omega) (by omega) (by omega) ?_))
    case c1 =>
      intro j v hj
      rw [Addr.add_lit]
      rw [List.getElem?_take] at hj
      split at hj
      · exact HC.out j v hj
      · cases hj
    case c2 => omega
    intro cap Z w1 hg1 hZt hZl hcap hcm hgr hlt1
    have e1 : i + (n + 1 - i) = n + 1 := by omega
    simp only [e1] at hcap ⊢
    have hvc1 := (hgr.cell (p := ⟨vb, 0, none⟩) hvl).trans hv
    have HGR := Lib.hid hgr
    obtain ⟨g1, hg1e⟩ : ∃ g1, w.heap.size = g1 := ⟨_, rfl⟩
    rw [hg1e] at hg1 hlt1 hb hvl ⊢
    have HG1 := Lib.hid hg1e
    clear hgr hg1e e1 hv
    go_wp2_with (with_reducible refine wpList_copy_splice rfl (.tmp 43) (.tmp 44) 22 22 rfl 28 Try.underlying22 (by kernel_rfl) _ _ _ _ _ _ rfl rfl g1 i Z 28 hg1.out [u] ?n1 ?p1 ?f1 ?o1 g1 w ?b1 (Nat.le_refl _) ?_)
    case n1 => simp [Nat.min_def]; omega
    case p1 =>
      intro j v hj
      cases j with
      | zero =>
        obtain rfl := Option.some.inj hj
        exact hvc1
      | succ j => cases hj
    case f1 => rw [hZl.out]; simp; omega
    case o1 => intro v hv; rw [List.mem_singleton.1 hv]; exact hu
    case b1 => rw [← HG1.out]; exact HGR.out
    intro w2 hg2 hb2
    have hlen2 : Hid ((splice Z i [u]).length = cap) := Lib.hid (by rw [length_splice _ _ _ (by rw [hZl.out]; simp; omega)]; exact hZl.out)
    have HS := Lib.hid (splice_ins (u := u) hZl.out hcap hZt.out HXL.out hlt)
    clear hg1 hvc1
    generalize splice Z i [u] = Z2 at *
    have q0 : IntKind.i64.wrap ((i : Int) + 1) = (i : Int) + 1 := by rw [IntKind.wrap_i64]; omega
    have q1 : 0 ≤ (i : Int) + 1 := by omega
    have q2 : ((i : Int) + 1).toNat = i + 1 := by omega
    have q3 : ¬ (cap = i + 1) := by omega
    have q4 : (i : Int) + 1 ≤ (n : Int) + 1 := by omega
    have q5 : ¬ (n = i) := by omega
    have q6 : (i : Int) ≤ (n : Int) := by omega
    have q7 : (i : Int) ≤ (n : Int) + 1 := by omega
    have N2 : (xs.drop i).length = Nat.min (n - i) (n + 1 - (i + 1)) := by rw [List.length_drop, HXL.out]; simp only [Nat.min_def]; split <;> omega
    have P2 : 0 < (xs.drop i).length → (some ⟨g1, i + 1, none⟩ : Option Addr) = some ⟨g1, i + 1, none⟩ ∧ ∃ ad, (some ⟨b, off + i, none⟩ : Option Addr) = some ad ∧ ∀ j v, (xs.drop i)[j]? = some v → w2.drew.cell? (ad.add j) = some v := by
      intro _
      refine ⟨rfl, _, rfl, fun j v hj => ?_⟩
      rw [Addr.add_lit, Nat.add_assoc]
      rw [List.getElem?_drop] at hj
      exact (hb2.cell (p := ⟨b, off + (i + j), none⟩) hb).trans (HC.out (i + j) v hj)
    have F2 : i + 1 + (xs.drop i).length ≤ Z2.length := by rw [List.length_drop, HXL.out, hlen2.out]; omega
    have O2 : ∀ v ∈ xs.drop i, v.oneCell' = true := fun v hv => H1.out v (List.mem_of_mem_drop hv)
    have L3 := length_splice Z2 (i + 1) (xs.drop i) F2
    rw [hlen2.out] at L3
    have HN2 := Lib.hid N2
    have HP2 := Lib.hid P2
    have HF2 := Lib.hid F2
    have HO2 := Lib.hid O2
    have HL3 := Lib.hid L3
    have HB2 := Lib.hid hb2
    clear N2 P2 F2 O2 L3 hb2
    go_wp2_with fail
    have HSZ : (Try.prog.info? 28).map (·.size) = some 1 := by kernel_rfl
    go_region_law (refine step_copy_splice (P := Try.prog) rfl (.tmp 50) (.tmp 53) 22 22 rfl 28 Try.underlying22 HSZ (some ⟨g1, i + 1, none⟩) (some ⟨b, off + i, none⟩) (n + 1 - (i + 1)) (cap - (i + 1)) (n - i) (n - i) (by simp [Act.eval, Act.put]) (by simp [Act.eval, Act.put]) g1 (i + 1) Z2 28 hg2.out (xs.drop i) HN2.out (fun h => ⟨rfl, (HP2.out h).2⟩) HF2.out HO2.out g1 w HB2.out.drew (Nat.le_refl _) ?_; intro w3 hg3 hb3)
    go_wp2
    go_ret
    rw [HG1.out]
    refine ⟨g1, cap, rfl, by rw [← HG1.out] at hb3; exact hb3, ?_⟩
    refine ⟨by simp [HXL.out]; omega, .inr ⟨g1, cap, _, rfl, Nat.le_refl _, hg3.out, hcap, hcm, by simpa using HL3.out, ?_⟩⟩
    rw [Nat.mul_one]
    exact HS.out

end Go.Proofs.Ytfbblgcdggpehaa

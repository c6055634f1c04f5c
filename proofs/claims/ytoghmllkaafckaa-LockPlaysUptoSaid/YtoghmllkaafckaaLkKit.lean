/- Locks and wants as cells; ints; the modes of layer 14. Conditions: none. -/
import Derived.Test.YtoghmllkaafckaaRows
import Derived.Test.YtoghmllkaafckaaBox
import Derived.Test.YtoghmllkaafckaaLkPlain
import Derived.Deep.WholeRow
namespace Go.Proofs.Ytoghmllkaafckaa
set_option linter.unusedSimpArgs false
set_option linter.unusedVariables false
open Go.RowKit

theorem Reads.at {w : World} {v : Value} {n : Nat} {xs : List Value} (h : Reads 1 w v n xs) (k : Nat) (hk : k < n) (u : Value) (hu : xs[k]? = some u) :
    ∃ b o c, v = .slice (some ⟨b, o, none⟩) n c ∧ b < w.heap.size ∧ n ≤ c ∧ w.cell? ⟨b, o + k, none⟩ = some u := by
  obtain ⟨ao, c, rfl, hl, hc, hr⟩ := h
  obtain ⟨b, o, rfl, hb, hcell⟩ := hr (by omega)
  exact ⟨b, o, c, rfl, hb, hc, hcell k u hu⟩

theorem Reads.shape {K : Nat} {w : World} {v : Value} {n : Nat} {xs : List Value} (h : Reads K w v n xs) : ∃ a c, v = .slice a n c := by
  obtain ⟨a, c, e, _⟩ := h; exact ⟨a, c, e⟩

def hcells (l : List Hd) : List Value := l.flatMap fun h => [.int .i64 h.1, .string h.2.1, .int .i64 h.2.2]
def wcells (l : List Wn) : List Value := l.flatMap fun h => [.string h.1, .int .i64 h.2]

theorem hcells_length (l : List Hd) : (hcells l).length = l.length * 3 := by
  induction l with
  | nil => rfl
  | cons x r ih => simp only [hcells, List.flatMap_cons, List.length_append, List.length_cons, List.length_nil] at *; omega
theorem wcells_length (l : List Wn) : (wcells l).length = l.length * 2 := by
  induction l with
  | nil => rfl
  | cons x r ih => simp only [wcells, List.flatMap_cons, List.length_append, List.length_cons, List.length_nil] at *; omega
theorem hcells_append (l m : List Hd) : hcells (l ++ m) = hcells l ++ hcells m := by simp [hcells]
theorem wcells_append (l m : List Wn) : wcells (l ++ m) = wcells l ++ wcells m := by simp [wcells]
theorem hcells_at (l : List Hd) (k : Nat) (e : Hd) (h : l[k]? = some e) : (hcells l)[k * 3]? = some (.int .i64 e.1) ∧ (hcells l)[k * 3 + 1]? = some (.string e.2.1) ∧ (hcells l)[k * 3 + 2]? = some (.int .i64 e.2.2) := by
  induction l generalizing k with
  | nil => simp at h
  | cons x r ih =>
    cases k with
    | zero => simp at h; subst h; simp [hcells]
    | succ k =>
      simp only [List.getElem?_cons_succ] at h
      obtain ⟨h1, h2, h3⟩ := ih k h
      have e1 : (k + 1) * 3 = k * 3 + 1 + 1 + 1 := by omega
      rw [e1]
      simp only [hcells, List.flatMap_cons, List.cons_append, List.nil_append, List.getElem?_cons_succ] at *
      exact ⟨h1, h2, h3⟩
theorem wcells_at (l : List Wn) (k : Nat) (e : Wn) (h : l[k]? = some e) : (wcells l)[k * 2]? = some (.string e.1) ∧ (wcells l)[k * 2 + 1]? = some (.int .i64 e.2) := by
  induction l generalizing k with
  | nil => simp at h
  | cons x r ih =>
    cases k with
    | zero => simp at h; subst h; simp [wcells]
    | succ k =>
      simp only [List.getElem?_cons_succ] at h
      obtain ⟨h1, h2⟩ := ih k h
      have e1 : (k + 1) * 2 = k * 2 + 1 + 1 := by omega
      rw [e1]
      simp only [wcells, List.flatMap_cons, List.cons_append, List.nil_append, List.getElem?_cons_succ] at *
      exact ⟨h1, h2⟩
theorem hcells_one (l : List Hd) : ∀ u ∈ hcells l, u.oneCell' = true := by
  intro u hu
  simp only [hcells, List.mem_flatMap, List.mem_cons, List.not_mem_nil, or_false] at hu
  obtain ⟨e, _, h | h | h⟩ := hu <;> rw [h] <;> rfl
theorem wcells_one (l : List Wn) : ∀ u ∈ wcells l, u.oneCell' = true := by
  intro u hu
  simp only [wcells, List.mem_flatMap, List.mem_cons, List.not_mem_nil, or_false] at hu
  obtain ⟨e, _, h | h⟩ := hu <;> rw [h] <;> rfl

/-- one want's mode set -/
theorem wcells_set (l : List Wn) (k : Nat) (e : Wn) (h : l[k]? = some e) (m : Int) : (wcells l).set (k * 2 + 1) (.int .i64 m) = wcells (l.set k (e.1, m)) := by
  induction l generalizing k with
  | nil => simp at h
  | cons x r ih =>
    cases k with
    | zero => simp at h; subst h; simp [wcells]
    | succ k =>
      simp only [List.getElem?_cons_succ] at h
      have e1 : (k + 1) * 2 + 1 = k * 2 + 1 + 1 + 1 := by omega
      rw [e1]
      simp only [wcells, List.flatMap_cons, List.cons_append, List.nil_append, List.set_cons_succ]
      exact congrArg (fun z => Value.string x.1 :: Value.int .i64 x.2 :: z) (ih k h)

theorem Hds.at {w : World} {v : Value} {n : Nat} {l : List Hd} (h : Reads 3 w v n (hcells l)) (k : Nat) (hk : k < n) (e : Hd) (hu : l[k]? = some e) :
    ∃ b o c, v = .slice (some ⟨b, o, none⟩) n c ∧ b < w.heap.size ∧ n ≤ c ∧ w.cell? ⟨b, o + k * 3, none⟩ = some (.int .i64 e.1) ∧ w.cell? ⟨b, o + k * 3 + 1, none⟩ = some (.string e.2.1) ∧ w.cell? ⟨b, o + k * 3 + 2, none⟩ = some (.int .i64 e.2.2) := by
  obtain ⟨ao, c, rfl, hl, hc, hr⟩ := h
  obtain ⟨b, o, rfl, hb, hcell⟩ := hr (by omega)
  obtain ⟨h1, h2, h3⟩ := hcells_at l k e hu
  exact ⟨b, o, c, rfl, hb, hc, hcell _ _ h1, hcell _ _ h2, hcell _ _ h3⟩
theorem Wns.at {w : World} {v : Value} {n : Nat} {l : List Wn} (h : Reads 2 w v n (wcells l)) (k : Nat) (hk : k < n) (e : Wn) (hu : l[k]? = some e) :
    ∃ b o c, v = .slice (some ⟨b, o, none⟩) n c ∧ b < w.heap.size ∧ n ≤ c ∧ w.cell? ⟨b, o + k * 2, none⟩ = some (.string e.1) ∧ w.cell? ⟨b, o + k * 2 + 1, none⟩ = some (.int .i64 e.2) := by
  obtain ⟨ao, c, rfl, hl, hc, hr⟩ := h
  obtain ⟨b, o, rfl, hb, hcell⟩ := hr (by omega)
  obtain ⟨h1, h2⟩ := wcells_at l k e hu
  exact ⟨b, o, c, rfl, hb, hc, hcell _ _ h1, hcell _ _ h2⟩

theorem ints_map_one (l : List Int) : ∀ u ∈ l.map (Value.int .i64), u.oneCell' = true := by
  intro u hu; obtain ⟨c, _, rfl⟩ := List.mem_map.1 hu; rfl

theorem hdsOf : SliceOf Try.prog 57 62 (.agg #[.int .i64 0, .string ByteArray.empty, .int .i64 0]) 3 32 := ⟨Try.underlying57, by kernel_rfl, rfl, by decide⟩
theorem wnsOf : SliceOf Try.prog 30 40 (.agg #[.string ByteArray.empty, .int .i64 0]) 2 24 := ⟨Try.underlying30, by kernel_rfl, rfl, by decide⟩
theorem intsOf : SliceOf Try.prog 29 3 (.int .i64 0) 1 8 := ⟨Try.underlying29, by kernel_rfl, rfl, by decide⟩

theorem is_any (m : Int) (w : World) : Calls Try.prog 27 #[.int .i64 m] w fun e w' => e = .returned (.bool (isM m)) ∧ w' = w := by
  by_cases h1 : 1 ≤ m
  · go_enter Try.func27, Try.ntmps27
    go_wp2
    go_ret
    refine ⟨?_, rfl⟩
    simp [isM, h1]
    try omega
  · go_enter Try.func27, Try.ntmps27
    go_wp2
    go_ret
    refine ⟨?_, rfl⟩
    simp [isM, h1]
    try omega
theorem rmode_any (m : Int) (w : World) : Calls Try.prog 29 #[.int .i64 m] w fun e w' => e = .returned (.bool (isM m)) ∧ w' = w := by
  by_cases h1 : 1 ≤ m
  · go_enter Try.func29, Try.ntmps29
    go_wp2
    go_ret
    refine ⟨?_, rfl⟩
    simp [isM, h1]
    try omega
  · go_enter Try.func29, Try.ntmps29
    go_wp2
    go_ret
    refine ⟨?_, rfl⟩
    simp [isM, h1]
    try omega
/-- a whole array into the block made last -/
theorem wpList_store_new {P : Program} {ops : Array Oper} {rest : List Oper} {o : Oper} {a : Act} {w : World} {Q : Exit → Act → World → Prop} (hgd : o.guard = none) (ty : TypeId) (x y : Operand) (ho : o.op = .store ty x y)
    (cells old : Array Value) (hx : a.eval x = .pointer (some ⟨w.heap.size, 0, none⟩)) (hy : a.eval y = .agg cells)
    (hi : (P.info? ty).map (·.size) = some cells.size) (hold : old.size = cells.size) (h1 : cells.all (·.oneCell') = true)
    (h : wpList P ops Q rest (a.put o.dst undef) (w.alloc (.cells cells ty))) : wpList P ops Q (o :: rest) a (w.alloc (.cells old ty)) := by
  refine wpList_store_row hgd ty x y ho w.heap.size cells hx hy ty old (heap_alloc_new w _) hi hold h1 ?_
  rw [World.setRow_alloc_new]
  exact h

theorem is_yes (m : Int) (h : isM m = true) (w : World) : Calls Try.prog 27 #[.int .i64 m] w fun e w' => e = .returned (.bool true) ∧ w' = w := (is_any m w).mono fun _ _ ⟨h1, h2⟩ => ⟨by rw [h1, h], h2⟩
theorem is_no (m : Int) (h : isM m = false) (w : World) : Calls Try.prog 27 #[.int .i64 m] w fun e w' => e = .returned (.bool false) ∧ w' = w := (is_any m w).mono fun _ _ ⟨h1, h2⟩ => ⟨by rw [h1, h], h2⟩
theorem rmode_yes (m : Int) (h : isM m = true) (w : World) : Calls Try.prog 29 #[.int .i64 m] w fun e w' => e = .returned (.bool true) ∧ w' = w := (rmode_any m w).mono fun _ _ ⟨h1, h2⟩ => ⟨by rw [h1, h], h2⟩
theorem rmode_no (m : Int) (h : isM m = false) (w : World) : Calls Try.prog 29 #[.int .i64 m] w fun e w' => e = .returned (.bool false) ∧ w' = w := (rmode_any m w).mono fun _ _ ⟨h1, h2⟩ => ⟨by rw [h1, h], h2⟩
/-- a value put together, its run known -/
theorem wpList_build {P : Program} {ops : Array Oper} {rest : List Oper} {o : Oper} {a : Act} {w : World} {Q : Exit → Act → World → Prop} (hgd : o.guard = none) (T : TypeId) (parts : Array (Nat × Operand)) (ho : o.op = .build T parts)
    {ps : Array (Nat × Value)} {v : Value} (hp : parts.map (fun x => (x.1, a.eval x.2)) = ps) (hrun : (Instr.build T ps).run P w = .ok v w)
    (h : wpList P ops Q rest (a.put o.dst v) w) : wpList P ops Q (o :: rest) a w := by
  refine wpList_plain hgd fun K hK => ?_
  unfold Oper.wp
  simp [execOp, ho, hp, hrun, Result.andThen]
  exact hK _ _ h

def fitA : Array Value := #[.int .i64 0, .int .i64 0, .int .i64 0, .int .i64 0, .int .i64 0, .int .i64 0, .int .i64 0, .int .i64 1, .int .i64 1, .int .i64 1, .int .i64 1, .int .i64 0, .int .i64 0, .int .i64 1, .int .i64 1, .int .i64 0, .int .i64 0, .int .i64 0, .int .i64 0, .int .i64 1, .int .i64 0, .int .i64 1, .int .i64 0, .int .i64 0, .int .i64 0, .int .i64 1, .int .i64 0, .int .i64 0, .int .i64 0, .int .i64 0, .int .i64 0, .int .i64 0, .int .i64 0, .int .i64 0, .int .i64 0, .int .i64 0]
theorem fit_build (w : World) : (Instr.build 55 #[(0, .agg #[.int .i64 0, .int .i64 0, .int .i64 0, .int .i64 0, .int .i64 0, .int .i64 0]), (1, .agg #[.int .i64 0, .int .i64 1, .int .i64 1, .int .i64 1, .int .i64 1, .int .i64 0]), (2, .agg #[.int .i64 0, .int .i64 1, .int .i64 1, .int .i64 0, .int .i64 0, .int .i64 0]), (3, .agg #[.int .i64 0, .int .i64 1, .int .i64 0, .int .i64 1, .int .i64 0, .int .i64 0]), (4, .agg #[.int .i64 0, .int .i64 1, .int .i64 0, .int .i64 0, .int .i64 0, .int .i64 0]), (5, .agg #[.int .i64 0, .int .i64 0, .int .i64 0, .int .i64 0, .int .i64 0, .int .i64 0])]).run Try.prog w = .ok (.agg fitA) w := by kernel_rfl
theorem fit_size : (Try.prog.info? 55).map (·.size) = some fitA.size := by kernel_rfl
theorem fit_one : fitA.all (·.oneCell') = true := by kernel_rfl
set_option maxRecDepth 100000 in
theorem fit_any (w : World) : Calls Try.prog 28 #[] w fun e w' => e = .returned (.agg fitA) ∧ Below w.heap.size w w' := by
  go_enter Try.func28, Try.ntmps28
  go_wp2_with (first | (refine wpList_build rfl 55 #[(0, .tmp 1), (1, .tmp 2), (2, .tmp 3), (3, .tmp 4), (4, .tmp 5), (5, .tmp 6)] rfl (ps := #[(0, .agg #[.int .i64 0, .int .i64 0, .int .i64 0, .int .i64 0, .int .i64 0, .int .i64 0]), (1, .agg #[.int .i64 0, .int .i64 1, .int .i64 1, .int .i64 1, .int .i64 1, .int .i64 0]), (2, .agg #[.int .i64 0, .int .i64 1, .int .i64 1, .int .i64 0, .int .i64 0, .int .i64 0]), (3, .agg #[.int .i64 0, .int .i64 1, .int .i64 0, .int .i64 1, .int .i64 0, .int .i64 0]), (4, .agg #[.int .i64 0, .int .i64 1, .int .i64 0, .int .i64 0, .int .i64 0, .int .i64 0]), (5, .agg #[.int .i64 0, .int .i64 0, .int .i64 0, .int .i64 0, .int .i64 0, .int .i64 0])]) rfl (fit_build _) ?_) | (refine wpList_store_new rfl 55 (.tmp 0) (.tmp 7) rfl fitA _ rfl rfl fit_size rfl fit_one ?_))
  refine bodyPost_ret (results_cell_row rfl _ _ w.heap.size 55 fitA (0, 0) _ rfl (heap_alloc_new w _) Try.underlying55 rfl (by kernel_rfl)) rfl ?_
  exact ⟨rfl, (Below.refl w.heap.size w).alloc (Nat.le_refl _) _⟩
theorem fit_at {a b : Int} (ha : isM a = true) (hb : isM b = true) : ∃ (row : Array Value) (x : Int), (∀ w, (Instr.index 55 (.agg fitA) (.int .i64 a)).run Try.prog w = .ok (.agg row) w) ∧ (∀ w, (Instr.index 54 (.agg row) (.int .i64 b)).run Try.prog w = .ok (.int .i64 x) w) ∧ x = fitT.getD (a.toNat * 6 + b.toNat) 0 := by
  rcases isM_cases ha with rfl | rfl | rfl | rfl | rfl <;> rcases isM_cases hb with rfl | rfl | rfl | rfl | rfl
  · exact ⟨#[.int .i64 0, .int .i64 1, .int .i64 1, .int .i64 1, .int .i64 1, .int .i64 0], 1, fun _ => by kernel_rfl, fun _ => by kernel_rfl, by rfl⟩
  · exact ⟨#[.int .i64 0, .int .i64 1, .int .i64 1, .int .i64 1, .int .i64 1, .int .i64 0], 1, fun _ => by kernel_rfl, fun _ => by kernel_rfl, by rfl⟩
  · exact ⟨#[.int .i64 0, .int .i64 1, .int .i64 1, .int .i64 1, .int .i64 1, .int .i64 0], 1, fun _ => by kernel_rfl, fun _ => by kernel_rfl, by rfl⟩
  · exact ⟨#[.int .i64 0, .int .i64 1, .int .i64 1, .int .i64 1, .int .i64 1, .int .i64 0], 1, fun _ => by kernel_rfl, fun _ => by kernel_rfl, by rfl⟩
  · exact ⟨#[.int .i64 0, .int .i64 1, .int .i64 1, .int .i64 1, .int .i64 1, .int .i64 0], 0, fun _ => by kernel_rfl, fun _ => by kernel_rfl, by rfl⟩
  · exact ⟨#[.int .i64 0, .int .i64 1, .int .i64 1, .int .i64 0, .int .i64 0, .int .i64 0], 1, fun _ => by kernel_rfl, fun _ => by kernel_rfl, by rfl⟩
  · exact ⟨#[.int .i64 0, .int .i64 1, .int .i64 1, .int .i64 0, .int .i64 0, .int .i64 0], 1, fun _ => by kernel_rfl, fun _ => by kernel_rfl, by rfl⟩
  · exact ⟨#[.int .i64 0, .int .i64 1, .int .i64 1, .int .i64 0, .int .i64 0, .int .i64 0], 0, fun _ => by kernel_rfl, fun _ => by kernel_rfl, by rfl⟩
  · exact ⟨#[.int .i64 0, .int .i64 1, .int .i64 1, .int .i64 0, .int .i64 0, .int .i64 0], 0, fun _ => by kernel_rfl, fun _ => by kernel_rfl, by rfl⟩
  · exact ⟨#[.int .i64 0, .int .i64 1, .int .i64 1, .int .i64 0, .int .i64 0, .int .i64 0], 0, fun _ => by kernel_rfl, fun _ => by kernel_rfl, by rfl⟩
  · exact ⟨#[.int .i64 0, .int .i64 1, .int .i64 0, .int .i64 1, .int .i64 0, .int .i64 0], 1, fun _ => by kernel_rfl, fun _ => by kernel_rfl, by rfl⟩
  · exact ⟨#[.int .i64 0, .int .i64 1, .int .i64 0, .int .i64 1, .int .i64 0, .int .i64 0], 0, fun _ => by kernel_rfl, fun _ => by kernel_rfl, by rfl⟩
  · exact ⟨#[.int .i64 0, .int .i64 1, .int .i64 0, .int .i64 1, .int .i64 0, .int .i64 0], 1, fun _ => by kernel_rfl, fun _ => by kernel_rfl, by rfl⟩
  · exact ⟨#[.int .i64 0, .int .i64 1, .int .i64 0, .int .i64 1, .int .i64 0, .int .i64 0], 0, fun _ => by kernel_rfl, fun _ => by kernel_rfl, by rfl⟩
  · exact ⟨#[.int .i64 0, .int .i64 1, .int .i64 0, .int .i64 1, .int .i64 0, .int .i64 0], 0, fun _ => by kernel_rfl, fun _ => by kernel_rfl, by rfl⟩
  · exact ⟨#[.int .i64 0, .int .i64 1, .int .i64 0, .int .i64 0, .int .i64 0, .int .i64 0], 1, fun _ => by kernel_rfl, fun _ => by kernel_rfl, by rfl⟩
  · exact ⟨#[.int .i64 0, .int .i64 1, .int .i64 0, .int .i64 0, .int .i64 0, .int .i64 0], 0, fun _ => by kernel_rfl, fun _ => by kernel_rfl, by rfl⟩
  · exact ⟨#[.int .i64 0, .int .i64 1, .int .i64 0, .int .i64 0, .int .i64 0, .int .i64 0], 0, fun _ => by kernel_rfl, fun _ => by kernel_rfl, by rfl⟩
  · exact ⟨#[.int .i64 0, .int .i64 1, .int .i64 0, .int .i64 0, .int .i64 0, .int .i64 0], 0, fun _ => by kernel_rfl, fun _ => by kernel_rfl, by rfl⟩
  · exact ⟨#[.int .i64 0, .int .i64 1, .int .i64 0, .int .i64 0, .int .i64 0, .int .i64 0], 0, fun _ => by kernel_rfl, fun _ => by kernel_rfl, by rfl⟩
  · exact ⟨#[.int .i64 0, .int .i64 0, .int .i64 0, .int .i64 0, .int .i64 0, .int .i64 0], 0, fun _ => by kernel_rfl, fun _ => by kernel_rfl, by rfl⟩
  · exact ⟨#[.int .i64 0, .int .i64 0, .int .i64 0, .int .i64 0, .int .i64 0, .int .i64 0], 0, fun _ => by kernel_rfl, fun _ => by kernel_rfl, by rfl⟩
  · exact ⟨#[.int .i64 0, .int .i64 0, .int .i64 0, .int .i64 0, .int .i64 0, .int .i64 0], 0, fun _ => by kernel_rfl, fun _ => by kernel_rfl, by rfl⟩
  · exact ⟨#[.int .i64 0, .int .i64 0, .int .i64 0, .int .i64 0, .int .i64 0, .int .i64 0], 0, fun _ => by kernel_rfl, fun _ => by kernel_rfl, by rfl⟩
  · exact ⟨#[.int .i64 0, .int .i64 0, .int .i64 0, .int .i64 0, .int .i64 0, .int .i64 0], 0, fun _ => by kernel_rfl, fun _ => by kernel_rfl, by rfl⟩
def joinA : Array Value := #[.int .i64 0, .int .i64 1, .int .i64 2, .int .i64 3, .int .i64 4, .int .i64 5, .int .i64 1, .int .i64 1, .int .i64 2, .int .i64 3, .int .i64 4, .int .i64 5, .int .i64 2, .int .i64 2, .int .i64 2, .int .i64 4, .int .i64 4, .int .i64 5, .int .i64 3, .int .i64 3, .int .i64 4, .int .i64 3, .int .i64 4, .int .i64 5, .int .i64 4, .int .i64 4, .int .i64 4, .int .i64 4, .int .i64 4, .int .i64 5, .int .i64 5, .int .i64 5, .int .i64 5, .int .i64 5, .int .i64 5, .int .i64 5]
theorem joins_build (w : World) : (Instr.build 55 #[(0, .agg #[.int .i64 0, .int .i64 1, .int .i64 2, .int .i64 3, .int .i64 4, .int .i64 5]), (1, .agg #[.int .i64 1, .int .i64 1, .int .i64 2, .int .i64 3, .int .i64 4, .int .i64 5]), (2, .agg #[.int .i64 2, .int .i64 2, .int .i64 2, .int .i64 4, .int .i64 4, .int .i64 5]), (3, .agg #[.int .i64 3, .int .i64 3, .int .i64 4, .int .i64 3, .int .i64 4, .int .i64 5]), (4, .agg #[.int .i64 4, .int .i64 4, .int .i64 4, .int .i64 4, .int .i64 4, .int .i64 5]), (5, .agg #[.int .i64 5, .int .i64 5, .int .i64 5, .int .i64 5, .int .i64 5, .int .i64 5])]).run Try.prog w = .ok (.agg joinA) w := by kernel_rfl
theorem joins_size : (Try.prog.info? 55).map (·.size) = some joinA.size := by kernel_rfl
theorem joins_one : joinA.all (·.oneCell') = true := by kernel_rfl
set_option maxRecDepth 100000 in
theorem joins_any (w : World) : Calls Try.prog 30 #[] w fun e w' => e = .returned (.agg joinA) ∧ Below w.heap.size w w' := by
  go_enter Try.func30, Try.ntmps30
  go_wp2_with (first | (refine wpList_build rfl 55 #[(0, .tmp 1), (1, .tmp 2), (2, .tmp 3), (3, .tmp 4), (4, .tmp 5), (5, .tmp 6)] rfl (ps := #[(0, .agg #[.int .i64 0, .int .i64 1, .int .i64 2, .int .i64 3, .int .i64 4, .int .i64 5]), (1, .agg #[.int .i64 1, .int .i64 1, .int .i64 2, .int .i64 3, .int .i64 4, .int .i64 5]), (2, .agg #[.int .i64 2, .int .i64 2, .int .i64 2, .int .i64 4, .int .i64 4, .int .i64 5]), (3, .agg #[.int .i64 3, .int .i64 3, .int .i64 4, .int .i64 3, .int .i64 4, .int .i64 5]), (4, .agg #[.int .i64 4, .int .i64 4, .int .i64 4, .int .i64 4, .int .i64 4, .int .i64 5]), (5, .agg #[.int .i64 5, .int .i64 5, .int .i64 5, .int .i64 5, .int .i64 5, .int .i64 5])]) rfl (joins_build _) ?_) | (refine wpList_store_new rfl 55 (.tmp 0) (.tmp 7) rfl joinA _ rfl rfl joins_size rfl joins_one ?_))
  refine bodyPost_ret (results_cell_row rfl _ _ w.heap.size 55 joinA (0, 0) _ rfl (heap_alloc_new w _) Try.underlying55 rfl (by kernel_rfl)) rfl ?_
  exact ⟨rfl, (Below.refl w.heap.size w).alloc (Nat.le_refl _) _⟩
theorem joins_at {a b : Int} (ha : inM a) (hb : inM b) : ∃ (row : Array Value) (x : Int), (∀ w, (Instr.index 55 (.agg joinA) (.int .i64 a)).run Try.prog w = .ok (.agg row) w) ∧ (∀ w, (Instr.index 54 (.agg row) (.int .i64 b)).run Try.prog w = .ok (.int .i64 x) w) ∧ x = joinT.getD (a.toNat * 6 + b.toNat) 0 := by
  rcases ha with rfl | rfl | rfl | rfl | rfl | rfl <;> rcases hb with rfl | rfl | rfl | rfl | rfl | rfl
  · exact ⟨#[.int .i64 0, .int .i64 1, .int .i64 2, .int .i64 3, .int .i64 4, .int .i64 5], 0, fun _ => by kernel_rfl, fun _ => by kernel_rfl, by rfl⟩
  · exact ⟨#[.int .i64 0, .int .i64 1, .int .i64 2, .int .i64 3, .int .i64 4, .int .i64 5], 1, fun _ => by kernel_rfl, fun _ => by kernel_rfl, by rfl⟩
  · exact ⟨#[.int .i64 0, .int .i64 1, .int .i64 2, .int .i64 3, .int .i64 4, .int .i64 5], 2, fun _ => by kernel_rfl, fun _ => by kernel_rfl, by rfl⟩
  · exact ⟨#[.int .i64 0, .int .i64 1, .int .i64 2, .int .i64 3, .int .i64 4, .int .i64 5], 3, fun _ => by kernel_rfl, fun _ => by kernel_rfl, by rfl⟩
  · exact ⟨#[.int .i64 0, .int .i64 1, .int .i64 2, .int .i64 3, .int .i64 4, .int .i64 5], 4, fun _ => by kernel_rfl, fun _ => by kernel_rfl, by rfl⟩
  · exact ⟨#[.int .i64 0, .int .i64 1, .int .i64 2, .int .i64 3, .int .i64 4, .int .i64 5], 5, fun _ => by kernel_rfl, fun _ => by kernel_rfl, by rfl⟩
  · exact ⟨#[.int .i64 1, .int .i64 1, .int .i64 2, .int .i64 3, .int .i64 4, .int .i64 5], 1, fun _ => by kernel_rfl, fun _ => by kernel_rfl, by rfl⟩
  · exact ⟨#[.int .i64 1, .int .i64 1, .int .i64 2, .int .i64 3, .int .i64 4, .int .i64 5], 1, fun _ => by kernel_rfl, fun _ => by kernel_rfl, by rfl⟩
  · exact ⟨#[.int .i64 1, .int .i64 1, .int .i64 2, .int .i64 3, .int .i64 4, .int .i64 5], 2, fun _ => by kernel_rfl, fun _ => by kernel_rfl, by rfl⟩
  · exact ⟨#[.int .i64 1, .int .i64 1, .int .i64 2, .int .i64 3, .int .i64 4, .int .i64 5], 3, fun _ => by kernel_rfl, fun _ => by kernel_rfl, by rfl⟩
  · exact ⟨#[.int .i64 1, .int .i64 1, .int .i64 2, .int .i64 3, .int .i64 4, .int .i64 5], 4, fun _ => by kernel_rfl, fun _ => by kernel_rfl, by rfl⟩
  · exact ⟨#[.int .i64 1, .int .i64 1, .int .i64 2, .int .i64 3, .int .i64 4, .int .i64 5], 5, fun _ => by kernel_rfl, fun _ => by kernel_rfl, by rfl⟩
  · exact ⟨#[.int .i64 2, .int .i64 2, .int .i64 2, .int .i64 4, .int .i64 4, .int .i64 5], 2, fun _ => by kernel_rfl, fun _ => by kernel_rfl, by rfl⟩
  · exact ⟨#[.int .i64 2, .int .i64 2, .int .i64 2, .int .i64 4, .int .i64 4, .int .i64 5], 2, fun _ => by kernel_rfl, fun _ => by kernel_rfl, by rfl⟩
  · exact ⟨#[.int .i64 2, .int .i64 2, .int .i64 2, .int .i64 4, .int .i64 4, .int .i64 5], 2, fun _ => by kernel_rfl, fun _ => by kernel_rfl, by rfl⟩
  · exact ⟨#[.int .i64 2, .int .i64 2, .int .i64 2, .int .i64 4, .int .i64 4, .int .i64 5], 4, fun _ => by kernel_rfl, fun _ => by kernel_rfl, by rfl⟩
  · exact ⟨#[.int .i64 2, .int .i64 2, .int .i64 2, .int .i64 4, .int .i64 4, .int .i64 5], 4, fun _ => by kernel_rfl, fun _ => by kernel_rfl, by rfl⟩
  · exact ⟨#[.int .i64 2, .int .i64 2, .int .i64 2, .int .i64 4, .int .i64 4, .int .i64 5], 5, fun _ => by kernel_rfl, fun _ => by kernel_rfl, by rfl⟩
  · exact ⟨#[.int .i64 3, .int .i64 3, .int .i64 4, .int .i64 3, .int .i64 4, .int .i64 5], 3, fun _ => by kernel_rfl, fun _ => by kernel_rfl, by rfl⟩
  · exact ⟨#[.int .i64 3, .int .i64 3, .int .i64 4, .int .i64 3, .int .i64 4, .int .i64 5], 3, fun _ => by kernel_rfl, fun _ => by kernel_rfl, by rfl⟩
  · exact ⟨#[.int .i64 3, .int .i64 3, .int .i64 4, .int .i64 3, .int .i64 4, .int .i64 5], 4, fun _ => by kernel_rfl, fun _ => by kernel_rfl, by rfl⟩
  · exact ⟨#[.int .i64 3, .int .i64 3, .int .i64 4, .int .i64 3, .int .i64 4, .int .i64 5], 3, fun _ => by kernel_rfl, fun _ => by kernel_rfl, by rfl⟩
  · exact ⟨#[.int .i64 3, .int .i64 3, .int .i64 4, .int .i64 3, .int .i64 4, .int .i64 5], 4, fun _ => by kernel_rfl, fun _ => by kernel_rfl, by rfl⟩
  · exact ⟨#[.int .i64 3, .int .i64 3, .int .i64 4, .int .i64 3, .int .i64 4, .int .i64 5], 5, fun _ => by kernel_rfl, fun _ => by kernel_rfl, by rfl⟩
  · exact ⟨#[.int .i64 4, .int .i64 4, .int .i64 4, .int .i64 4, .int .i64 4, .int .i64 5], 4, fun _ => by kernel_rfl, fun _ => by kernel_rfl, by rfl⟩
  · exact ⟨#[.int .i64 4, .int .i64 4, .int .i64 4, .int .i64 4, .int .i64 4, .int .i64 5], 4, fun _ => by kernel_rfl, fun _ => by kernel_rfl, by rfl⟩
  · exact ⟨#[.int .i64 4, .int .i64 4, .int .i64 4, .int .i64 4, .int .i64 4, .int .i64 5], 4, fun _ => by kernel_rfl, fun _ => by kernel_rfl, by rfl⟩
  · exact ⟨#[.int .i64 4, .int .i64 4, .int .i64 4, .int .i64 4, .int .i64 4, .int .i64 5], 4, fun _ => by kernel_rfl, fun _ => by kernel_rfl, by rfl⟩
  · exact ⟨#[.int .i64 4, .int .i64 4, .int .i64 4, .int .i64 4, .int .i64 4, .int .i64 5], 4, fun _ => by kernel_rfl, fun _ => by kernel_rfl, by rfl⟩
  · exact ⟨#[.int .i64 4, .int .i64 4, .int .i64 4, .int .i64 4, .int .i64 4, .int .i64 5], 5, fun _ => by kernel_rfl, fun _ => by kernel_rfl, by rfl⟩
  · exact ⟨#[.int .i64 5, .int .i64 5, .int .i64 5, .int .i64 5, .int .i64 5, .int .i64 5], 5, fun _ => by kernel_rfl, fun _ => by kernel_rfl, by rfl⟩
  · exact ⟨#[.int .i64 5, .int .i64 5, .int .i64 5, .int .i64 5, .int .i64 5, .int .i64 5], 5, fun _ => by kernel_rfl, fun _ => by kernel_rfl, by rfl⟩
  · exact ⟨#[.int .i64 5, .int .i64 5, .int .i64 5, .int .i64 5, .int .i64 5, .int .i64 5], 5, fun _ => by kernel_rfl, fun _ => by kernel_rfl, by rfl⟩
  · exact ⟨#[.int .i64 5, .int .i64 5, .int .i64 5, .int .i64 5, .int .i64 5, .int .i64 5], 5, fun _ => by kernel_rfl, fun _ => by kernel_rfl, by rfl⟩
  · exact ⟨#[.int .i64 5, .int .i64 5, .int .i64 5, .int .i64 5, .int .i64 5, .int .i64 5], 5, fun _ => by kernel_rfl, fun _ => by kernel_rfl, by rfl⟩
  · exact ⟨#[.int .i64 5, .int .i64 5, .int .i64 5, .int .i64 5, .int .i64 5, .int .i64 5], 5, fun _ => by kernel_rfl, fun _ => by kernel_rfl, by rfl⟩

theorem fit_cell {a b : Int} (ha : isM a = true) (hb : isM b = true) : ∃ (A row : Array Value) (x : Int), (∀ w, Calls Try.prog 28 #[] w fun e w' => e = .returned (.agg A) ∧ Below w.heap.size w w') ∧ (∀ w, (Instr.index 55 (.agg A) (.int .i64 a)).run Try.prog w = .ok (.agg row) w) ∧ (∀ w, (Instr.index 54 (.agg row) (.int .i64 b)).run Try.prog w = .ok (.int .i64 x) w) ∧ x = fitT.getD (a.toNat * 6 + b.toNat) 0 := by
  obtain ⟨row, x, h1, h2, h3⟩ := fit_at ha hb
  exact ⟨fitA, row, x, fit_any, h1, h2, h3⟩
theorem joins_cell {a b : Int} (ha : inM a) (hb : inM b) : ∃ (A row : Array Value) (x : Int), (∀ w, Calls Try.prog 30 #[] w fun e w' => e = .returned (.agg A) ∧ Below w.heap.size w w') ∧ (∀ w, (Instr.index 55 (.agg A) (.int .i64 a)).run Try.prog w = .ok (.agg row) w) ∧ (∀ w, (Instr.index 54 (.agg row) (.int .i64 b)).run Try.prog w = .ok (.int .i64 x) w) ∧ x = joinT.getD (a.toNat * 6 + b.toNat) 0 := by
  obtain ⟨row, x, h1, h2, h3⟩ := joins_at ha hb
  exact ⟨joinA, row, x, joins_any, h1, h2, h3⟩
theorem fits_any (a b : Int) (w : World) : Calls Try.prog 8 #[.int .i64 a, .int .i64 b] w fun e w' => e = .returned (.bool (fitsB a b)) ∧ Below w.heap.size w w' := by
  by_cases ha : isM a = true
  · by_cases hb : isM b = true
    · obtain ⟨A, row, x, HFit, h1, h2, h3⟩ := fit_cell ha hb
      have HFIT := Lib.hid HFit
      clear HFit
      have H3 : Hid (fitsB a b = (x == 1)) := Lib.hid (by rw [h3]; simp only [fitsB, ha, hb, Bool.true_and]; rw [Bool.eq_iff_iff]; simp)
      clear h3
      go_enter Try.func8, Try.ntmps8
      go_wp2_with (first | (go_at_call 27; refine (is_any _ _).mono ?_; rintro e w' ⟨rfl, rfl⟩) | (go_at_call 28; refine (HFIT.out _).mono ?_; rintro e w1 ⟨rfl, hb1⟩))
      go_ret
      exact ⟨by rw [H3.out]; rfl, hb1⟩
    · have hb' : isM b = false := by simpa using hb
      have H3 : Hid (fitsB a b = false) := Lib.hid (by simp [fitsB, hb'])
      clear hb
      go_enter Try.func8, Try.ntmps8
      go_wp2_with (go_at_call 27; refine (is_any _ _).mono ?_; rintro e w' ⟨rfl, rfl⟩)
      go_ret
      exact ⟨by rw [H3.out]; rfl, Below.refl _ _⟩
  · have ha' : isM a = false := by simpa using ha
    have H3 : Hid (fitsB a b = false) := Lib.hid (by simp [fitsB, ha'])
    clear ha
    go_enter Try.func8, Try.ntmps8
    go_wp2_with (go_at_call 27; refine (is_any _ _).mono ?_; rintro e w' ⟨rfl, rfl⟩)
    go_ret
    exact ⟨by rw [H3.out]; rfl, Below.refl _ _⟩

theorem nm_yes {a : Int} (h : isM a = true) : nmM a = a := by simp [nmM, h]
theorem nm_no {a : Int} (h : isM a = false) : nmM a = 0 := by simp [nmM, h]
theorem join_any (a b : Int) (w : World) : Calls Try.prog 10 #[.int .i64 a, .int .i64 b] w fun e w' => e = .returned (.int .i64 (joinI a b)) ∧ Below w.heap.size w w' := by
  obtain ⟨A, row, x, HFit, h1, h2, h3⟩ := joins_cell (nmM_inM a) (nmM_inM b)
  have HFIT := Lib.hid HFit
  clear HFit
  have H3 : Hid (joinI a b = x) := Lib.hid (by rw [h3]; rfl)
  clear h3
  by_cases ha : isM a = true
  · by_cases hb : isM b = true
    · rw [nm_yes ha] at h1
      rw [nm_yes hb] at h2
      go_enter Try.func10, Try.ntmps10
      go_wp2_with (first | (go_at_call 27; refine (is_any _ _).mono ?_; rintro e w' ⟨rfl, rfl⟩) | (go_at_call 30; refine (HFIT.out _).mono ?_; rintro e w1 ⟨rfl, hb1⟩))
      go_ret
      exact ⟨by rw [H3.out]; rfl, hb1⟩
    · have hb' : isM b = false := by simpa using hb
      rw [nm_yes ha] at h1
      rw [nm_no hb'] at h2
      clear hb
      go_enter Try.func10, Try.ntmps10
      go_wp2_with (first | (go_at_call 27; refine (is_any _ _).mono ?_; rintro e w' ⟨rfl, rfl⟩) | (go_at_call 30; refine (HFIT.out _).mono ?_; rintro e w1 ⟨rfl, hb1⟩))
      go_ret
      exact ⟨by rw [H3.out]; rfl, hb1⟩
  · have ha' : isM a = false := by simpa using ha
    by_cases hb : isM b = true
    · rw [nm_no ha'] at h1
      rw [nm_yes hb] at h2
      clear ha
      go_enter Try.func10, Try.ntmps10
      go_wp2_with (first | (go_at_call 27; refine (is_any _ _).mono ?_; rintro e w' ⟨rfl, rfl⟩) | (go_at_call 30; refine (HFIT.out _).mono ?_; rintro e w1 ⟨rfl, hb1⟩))
      go_ret
      exact ⟨by rw [H3.out]; rfl, hb1⟩
    · have hb' : isM b = false := by simpa using hb
      rw [nm_no ha'] at h1
      rw [nm_no hb'] at h2
      clear ha hb
      go_enter Try.func10, Try.ntmps10
      go_wp2_with (first | (go_at_call 27; refine (is_any _ _).mono ?_; rintro e w' ⟨rfl, rfl⟩) | (go_at_call 30; refine (HFIT.out _).mono ?_; rintro e w1 ⟨rfl, hb1⟩))
      go_ret
      exact ⟨by rw [H3.out]; rfl, hb1⟩
end Go.Proofs.Ytoghmllkaafckaa

/- lock: where a name stands in wants (slices.IndexFunc with the closure that holds a want). Conditions: at most 2^40 wants. -/
import Derived.Test.YtoghmllkaafckaaLkMode
import Derived.Test.YtoghmllkaafckaaShelf
namespace Go.Proofs.Ytoghmllkaafckaa
set_option linter.unusedSimpArgs false
set_option linter.unusedVariables false
open Go.RowKit

/-- a cell of an owned row written -/
theorem own_set {w : World} {base e K n : Nat} {v : Value} {xs : List Value} {g cap : Nat} (h : w.ownsRow base e K v n xs) (hv : v = .slice (some ⟨g, 0, none⟩) n cap) (j : Nat) (hj : j < n * K) (u : Value) :
    (w.setCell ⟨g, j, none⟩ u).ownsRow base e K v n (xs.set j u) := by
  subst hv
  obtain ⟨hl, h⟩ := h
  refine ⟨by simpa using hl, .inr ?_⟩
  rcases h with ⟨h0, _⟩ | ⟨g', cap', cur, e0, hb, hg, hn, hc, hs, ht⟩
  · simp at h0
  · injection e0 with e1 e2 e3
    injection e1 with e1
    injection e1 with e1
    subst e1 e3
    refine ⟨g, cap, cur.setIfInBounds j u, rfl, hb, setCell_row hg u, hn, hc, by simpa using hs, ?_⟩
    rw [← ht]
    simp [List.take_set]

/-- a want's cells -/
def encWn (x : Wn) : List Value := [.string x.1, .int .i64 x.2]
theorem wcells_enc (l : List Wn) : wcells l = l.flatMap encWn := rfl

theorem wclos_any (g : Nat) (y1 : ByteArray) (y2 : Int) (x : Wn) (w : World) (hb : Box w g [.string y1, .int .i64 y2]) :
    Calls Try.prog 47 #[.agg #[.string x.1, .int .i64 x.2], .pointer (some ⟨g, 0, none⟩)] w fun e w' => e = .returned (.bool (decide (x.1 = y1))) ∧ Below w.heap.size w w' := by
  have hc0 := hb.cell 0 _ rfl
  have hlt := hb.lt
  clear hb
  by_cases h : x.1 = y1
  · have hb1 : (x.1.toList == y1.toList) = true := str_eq h
    have HB : Hid (decide (x.1 = y1) = true) := Lib.hid (by simp [h])
    clear h
    go_enter Try.func47, Try.ntmps47
    go_wp2
    go_ret
    exact ⟨by rw [HB.out]; rfl, (Below.refl _ _).alloc (Nat.le_refl _) _⟩
  · have hb1 : (x.1.toList == y1.toList) = false := str_ne h
    have HB : Hid (decide (x.1 = y1) = false) := Lib.hid (by simp [h])
    clear h
    go_enter Try.func47, Try.ntmps47
    go_wp2
    go_ret
    exact ⟨by rw [HB.out]; rfl, (Below.refl _ _).alloc (Nat.le_refl _) _⟩

/-- where, as IndexFunc tells it -/
def atI (o : Option Nat) : Int := match o with | some i => (i : Int) | none => -1
theorem idx_findIdx {α : Type} [Inhabited α] (p : α → Bool) (l : List α) : Lib.idxBy (fun _ y => p y) l default = atI (l.findIdx? p) := by
  cases h : l.findIdx? p with
  | none =>
    have h1 := List.findIdx?_eq_none_iff.1 h
    exact (Lib.idxByFrom_miss _ _ l 0 (fun j hj => by rw [getElem!_pos l j hj]; exact h1 _ (List.getElem_mem hj)))
  | some k =>
    obtain ⟨hk, h1, h2⟩ := List.findIdx?_eq_some_iff_getElem.1 h
    have := Lib.idxByFrom_hit (fun _ y => p y) default l k 0 hk (by rw [getElem!_pos l k hk]; exact h1) (fun j hj => by rw [getElem!_pos l j (by omega)]; have := h2 j hj; simpa using this)
    unfold Lib.idxBy
    rw [this]
    simp [atI]

theorem aggWn (w : World) : (isAgg 40).run Try.prog w = .ok true w := by kernel_rfl
theorem sizeWn (w : World) : (Go.sizeOf 40).run Try.prog w = .ok 2 w := by kernel_rfl
theorem aggHd (w : World) : (isAgg 62).run Try.prog w = .ok true w := by kernel_rfl
theorem sizeHd (w : World) : (Go.sizeOf 62).run Try.prog w = .ok 3 w := by kernel_rfl

theorem flat_at {α : Type} [Inhabited α] (enc : α → List Value) (K : Nat) (hk : ∀ x, (enc x).length = K) (l : List α) (j : Nat) (hj : j < l.length) (i : Nat) (v : Value) (h : (enc l[j]!)[i]? = some v) : (l.flatMap enc)[j * K + i]? = some v := by
  induction l generalizing j with
  | nil => simp at hj
  | cons x r ih =>
    have hi : i < K := by rw [← hk (x :: r)[j]!]; exact (List.getElem?_eq_some_iff.1 h).1
    cases j with
    | zero =>
      simp only [List.flatMap_cons]
      rw [Nat.zero_mul, Nat.zero_add, List.getElem?_append_left (by rw [hk]; exact hi)]
      simpa using h
    | succ j =>
      simp only [List.flatMap_cons]
      rw [List.getElem?_append_right (by rw [hk, Nat.succ_mul]; omega), hk]
      have e : (j + 1) * K + i - K = j * K + i := by rw [Nat.succ_mul]; omega
      rw [e]
      exact ih j (by simpa using hj) (by simpa using h)

/-- slices.IndexFunc at no element -/
theorem idxW_none (ao : Option Addr) (c : Nat) (fv : Value) (w : World) : Calls Try.prog 46 #[.slice ao 0 c, fv] w fun e w' => e = .returned (.int .i64 (-1)) ∧ Below w.heap.size w w' := by
  go_enter Try.func46, Try.ntmps46
  go_wp2
  refine wp_loop_rounds 1 ?_
  rw [rounds_succ]
  go_wp2
  go_ret
  exact ⟨rfl, Below.refl _ _⟩
theorem idxH_none (ao : Option Addr) (c : Nat) (fv : Value) (w : World) : Calls Try.prog 43 #[.slice ao 0 c, fv] w fun e w' => e = .returned (.int .i64 (-1)) ∧ Below w.heap.size w w' := by
  go_enter Try.func43, Try.ntmps43
  go_wp2
  refine wp_loop_rounds 1 ?_
  rw [rounds_succ]
  go_wp2
  go_ret
  exact ⟨rfl, Below.refl _ _⟩

theorem idxW_any (O : List Wn) (n c : Nat) (ao : Option Addr) (hl : O.length = n) (hn : n ≤ 1099511627776) (g : Nat) (y1 : ByteArray) (y2 : Int) (w : World) (hv : Reads 2 w (.slice ao n c) n (wcells O)) (hb : Box w g [.string y1, .int .i64 y2]) :
    Calls Try.prog 46 #[.slice ao n c, .func (.func 47) #[] #[.pointer (some ⟨g, 0, none⟩)]] w fun e w' => e = .returned (.int .i64 (atI (O.findIdx? (fun x => decide (x.1 = y1))))) ∧ Below w.heap.size w w' := by
  rcases Nat.eq_zero_or_pos n with e | e
  · subst e
    obtain rfl : O = [] := List.eq_nil_of_length_eq_zero hl
    exact idxW_none ao c _ w
  · obtain ⟨_, _, b, o, rfl, hbl, hc⟩ := hv.some_addr e
    have eg : ∀ args w, (callFunc 47 args).run Try.prog w = .ok (.enter 47 args) w := enters_of Try.func47 (by kernel_rfl) rfl
    have := AnyQ.slices_IndexFunc (α := Wn) Try.idxWn 2 aggWn sizeWn encWn (fun _ => rfl) (fun x => decide (x.1 = y1)) 47 #[.pointer (some ⟨g, 0, none⟩)] eg b o n c O w
      (fun W x hW => (wclos_any g y1 y2 x W (hb.below hW (Nat.le_refl _))).mono fun _ _ ⟨h1, h2⟩ => ⟨h1, hW.trans (h2.mono hW.size)⟩) (Nat.le_of_eq hl.symm) (by omega) hbl
      (fun j hj i v hi => by rw [Nat.add_assoc]; exact hc _ _ (flat_at encWn 2 (fun _ => rfl) O j hj i v hi))
    rw [List.take_of_length_le (Nat.le_of_eq hl), idx_findIdx] at this
    exact this
theorem idxW_no (O : List Wn) (n c : Nat) (ao : Option Addr) (hl : O.length = n) (hn : n ≤ 1099511627776) (g : Nat) (y1 : ByteArray) (y2 : Int) (w : World) (hv : Reads 2 w (.slice ao n c) n (wcells O)) (hb : Box w g [.string y1, .int .i64 y2]) (hf : O.findIdx? (fun x => decide (x.1 = y1)) = none) :
    Calls Try.prog 46 #[.slice ao n c, .func (.func 47) #[] #[.pointer (some ⟨g, 0, none⟩)]] w fun e w' => e = .returned (.int .i64 (-1)) ∧ Below w.heap.size w w' :=
  (idxW_any O n c ao hl hn g y1 y2 w hv hb).mono fun _ _ ⟨h1, h2⟩ => ⟨by rw [h1, hf]; rfl, h2⟩
theorem idxW_at (O : List Wn) (n c : Nat) (ao : Option Addr) (hl : O.length = n) (hn : n ≤ 1099511627776) (g : Nat) (y1 : ByteArray) (y2 : Int) (w : World) (hv : Reads 2 w (.slice ao n c) n (wcells O)) (hb : Box w g [.string y1, .int .i64 y2]) (i : Nat) (hf : O.findIdx? (fun x => decide (x.1 = y1)) = some i) :
    Calls Try.prog 46 #[.slice ao n c, .func (.func 47) #[] #[.pointer (some ⟨g, 0, none⟩)]] w fun e w' => e = .returned (.int .i64 (i : Int)) ∧ Below w.heap.size w w' :=
  (idxW_any O n c ao hl hn g y1 y2 w hv hb).mono fun _ _ ⟨h1, h2⟩ => ⟨by rw [h1, hf]; rfl, h2⟩
end Go.Proofs.Ytoghmllkaafckaa

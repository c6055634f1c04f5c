/- Rows of ints and of edges that read so. Conditions: none. -/
import Derived.Test.YtjakekfalooebaaRows
import Derived.Test.YtjakekfalooebaaBox
namespace Go.Proofs.Ytjakekfalooebaa
set_option linter.unusedSimpArgs false
set_option linter.unusedVariables false
open Go.RowKit

theorem Reads.at {w : World} {v : Value} {n : Nat} {xs : List Value} (h : Reads 1 w v n xs) (k : Nat) (hk : k < n) (u : Value) (hu : xs[k]? = some u) :
    ∃ b o c, v = .slice (some ⟨b, o, none⟩) n c ∧ b < w.heap.size ∧ n ≤ c ∧ w.cell? ⟨b, o + k, none⟩ = some u := by
  obtain ⟨ao, c, rfl, hl, hc, hr⟩ := h
  obtain ⟨b, o, rfl, hb, hcell⟩ := hr (by omega)
  exact ⟨b, o, c, rfl, hb, hc, hcell k u hu⟩

theorem Reads.shape {K : Nat} {w : World} {v : Value} {n : Nat} {xs : List Value} (h : Reads K w v n xs) : ∃ a c, v = .slice a n c := by
  obtain ⟨a, c, e, _⟩ := h; exact ⟨a, c, e⟩

/-- an edge's two cells -/
def ecells (l : List (Int × Int)) : List Value := l.flatMap fun e => [.int .i64 e.1, .int .i64 e.2]

theorem ecells_length (l : List (Int × Int)) : (ecells l).length = l.length * 2 := by
  induction l with
  | nil => rfl
  | cons x r ih => simp only [ecells, List.flatMap_cons, List.length_append, List.length_cons, List.length_nil] at *; omega

theorem ecells_append (l m : List (Int × Int)) : ecells (l ++ m) = ecells l ++ ecells m := by simp [ecells]

theorem ecells_at (l : List (Int × Int)) (k : Nat) (e : Int × Int) (h : l[k]? = some e) : (ecells l)[k * 2]? = some (.int .i64 e.1) ∧ (ecells l)[k * 2 + 1]? = some (.int .i64 e.2) := by
  induction l generalizing k with
  | nil => simp at h
  | cons x r ih =>
    cases k with
    | zero => simp at h; subst h; simp [ecells]
    | succ k =>
      simp only [List.getElem?_cons_succ] at h
      obtain ⟨h1, h2⟩ := ih k h
      have e1 : (k + 1) * 2 = k * 2 + 1 + 1 := by omega
      rw [e1]
      simp only [ecells, List.flatMap_cons, List.cons_append, List.nil_append, List.getElem?_cons_succ] at *
      exact ⟨h1, h2⟩

theorem ecells_one (l : List (Int × Int)) : ∀ u ∈ ecells l, u.oneCell' = true := by
  intro u hu
  simp only [ecells, List.mem_flatMap, List.mem_cons, List.not_mem_nil, or_false] at hu
  obtain ⟨e, _, h | h⟩ := hu <;> rw [h] <;> rfl

/-- a slice of ints -/
abbrev Ints (w : World) (v : Value) (l : List Int) : Prop := Reads 1 w v l.length (l.map (Value.int .i64))
/-- a slice of edges -/
abbrev Edges (w : World) (v : Value) (l : List (Int × Int)) : Prop := Reads 2 w v l.length (ecells l)

theorem Edges.at {w : World} {v : Value} {n : Nat} {l : List (Int × Int)} (h : Reads 2 w v n (ecells l)) (k : Nat) (hk : k < n) (e : Int × Int) (hu : l[k]? = some e) :
    ∃ b o c, v = .slice (some ⟨b, o, none⟩) n c ∧ b < w.heap.size ∧ n ≤ c ∧ w.cell? ⟨b, o + k * 2, none⟩ = some (.int .i64 e.1) ∧ w.cell? ⟨b, o + k * 2 + 1, none⟩ = some (.int .i64 e.2) := by
  obtain ⟨ao, c, rfl, hl, hc, hr⟩ := h
  obtain ⟨b, o, rfl, hb, hcell⟩ := hr (by omega)
  obtain ⟨h1, h2⟩ := ecells_at l k e hu
  exact ⟨b, o, c, rfl, hb, hc, hcell _ _ h1, hcell _ _ h2⟩

theorem ints_map_one (l : List Int) : ∀ u ∈ l.map (Value.int .i64), u.oneCell' = true := by
  intro u hu; obtain ⟨c, _, rfl⟩ := List.mem_map.1 hu; rfl

theorem edgesOf : SliceOf Try.prog 22 24 (.agg #[.int .i64 0, .int .i64 0]) 2 16 := ⟨Try.underlying22, by kernel_rfl, rfl, by decide⟩
theorem redgesOf : SliceOf Try.prog 33 48 (.agg #[.int .i64 0, .int .i64 0]) 2 16 := ⟨Try.underlying33, by kernel_rfl, rfl, by decide⟩
theorem intsOf : SliceOf Try.prog 29 3 (.int .i64 0) 1 8 := ⟨Try.underlying29, by kernel_rfl, rfl, by decide⟩

/-- is a number in a list -/
def hasB (L : List Int) (x : Int) : Bool := decide (x ∈ L)
theorem hasB_true {L : List Int} {x : Int} : hasB L x = true ↔ x ∈ L := by simp [hasB]
theorem hasB_false {L : List Int} {x : Int} : hasB L x = false ↔ ¬ x ∈ L := by simp [hasB]

set_option maxHeartbeats 800000 in
/-- the reference's has -/
theorem has_any (L : List Int) (v : Value) (n : Nat) (hn : n ≤ 1152921504606846976) (hl : L.length = n) (w : World) (hv : Reads 1 w v n (L.map (Value.int .i64))) (x : Int) :
    Calls Try.prog 25 #[v, .int .i64 x] w fun e w' => e = .returned (.bool (hasB L x)) ∧ w = w' := by
  obtain ⟨ao, c, rfl⟩ := hv.shape
  have HL := Lib.hid hl
  have HV := Lib.hid hv
  clear hl hv
  go_enter Try.func25, Try.ntmps25
  go_wp2_with fail
  go_loop [5] (fun i => ∃ k : Nat, k ≤ n ∧ i = .int .i64 k ∧ hasB (L.take k) x = false) (fun i => n - (intOf i).toNat)
  case atStart => exact ⟨0, Nat.zero_le _, rfl, rfl⟩
  case round =>
    obtain ⟨k, hk, rfl, hno⟩ := hrel
    have HNO := Lib.hid hno
    clear hno
    by_cases hlt : k < n
    · have hkl : k < L.length := by rw [HL.out]; exact hlt
      have hu : (L.map (Value.int .i64))[k]? = some (.int .i64 L[k]) := by rw [List.getElem?_map, List.getElem?_eq_getElem hkl]; rfl
      have hts : L.take (k + 1) = L.take k ++ [L[k]] := List.take_succ_eq_append_getElem hkl
      have hmem : L[k] ∈ L := List.getElem_mem hkl
      obtain ⟨b, o, c', e, hb, _, hcell⟩ := HV.out.at k hlt _ hu
      injection e with e1 e2 e3
      subst e1 e3
      by_cases he : L[k] = x
      · have hc : hasB L x = true := hasB_true.2 (he ▸ hmem)
        generalize L[k] = y at *
        have hb1 : (y == x) = true := by simp [he]
        have HC := Lib.hid hc
        have HH := Lib.hid hts
        have HE := Lib.hid he
        clear hc hts hu he hkl
        go_wp2
        go_ret
        rw [HC.out]
        exact ⟨rfl, rfl⟩
      · have HT : Hid (hasB (L.take (k + 1)) x = false) := by
          rw [hts]
          have := hasB_false.1 HNO.out
          refine hasB_false.2 fun hc => ?_
          rw [List.mem_append] at hc
          rcases hc with hc | hc
          · exact this hc
          · simp at hc; exact he hc.symm
        have hb1 : (L[k] == x) = false := by simp [he]
        generalize L[k] = y at *
        clear hts hu he hkl
        go_wp2
        go_round
        case rel => exact ⟨k + 1, by omega, by go_num, HT.out⟩
        case measure => simp [intOf]; omega
    · obtain rfl : n = k := by omega
      have HC : Hid (hasB L x = false) := by have := HNO.out; rw [List.take_of_length_le (Nat.le_of_eq HL.out)] at this; exact this
      go_wp2
      go_ret
      rw [HC.out]
      exact ⟨rfl, rfl⟩
end Go.Proofs.Ytjakekfalooebaa

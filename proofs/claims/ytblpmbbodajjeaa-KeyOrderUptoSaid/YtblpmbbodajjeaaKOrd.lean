/- The walk of the law KeyOrder. Conditions: the lists and texts are short. -/
import Derived.Test.YtblpmbbodajjeaaKAwake
import Derived.Test.YtblpmbbodajjeaaParts
import Derived.Test.YtblpmbbodajjeaaKLaw
import Derived.Deep.DeepCutAuto
import Derived.Deep.CutBlock
import Derived.WalkLawsBesides
namespace Go.Proofs.Ytblpmbbodajjeaa
set_option linter.unusedSimpArgs false
set_option linter.unusedVariables false
open Go.RowKit
open K (Val enc esc be8 cmpI cmpV clean txt txtAt un dec join cellsOf)

/-- what the operations of 'x, y := clean(a), clean(b)' leave -/
def OrdR1 (a b : Val) (i : Nat) (v : Value) (lo hi : Nat) (w : World) : Prop :=
  match i with
  | 0 => v = a.v
  | 1 => v = (clean a).v
  | 2 => v = b.v
  | 3 => v = (clean b).v
  | _ => v = .pointer (some ⟨lo, 0, none⟩) ∧ hi = lo + 1 ∧ lo < w.heap.size ∧ w.heap[lo]? = some (.cells #[.int .i64 0, .int .i64 0, .string ⟨#[]⟩, .bool false] 23)

def EqPost (vals : List Value) (i : Nat) (v : Value) (lo hi : Nat) (w : World) : Prop := v = vals.getD i undef
theorem EqPost_stable (vals : List Value) : ∀ i v lo hi w w', EqPost vals i v lo hi w → Grow w w' → EqPost vals i v lo hi w' := fun _ _ _ _ _ _ h _ => h

theorem sl_vals : SliceOf Try.prog 24 23 (.agg #[.int .i64 0, .int .i64 0, .string ⟨#[]⟩, .bool false]) 4 40 := ⟨Try.underlying24, by kernel_rfl, rfl, by decide⟩

theorem OrdR1_stable (a b : Val) : ∀ i v lo hi w w', OrdR1 a b i v lo hi w → Grow w w' → OrdR1 a b i v lo hi w' := by
  intro i v lo hi w w' h hg
  unfold OrdR1 at *
  split at h <;> first | exact h | skip
  exact ⟨h.1, h.2.1, Nat.lt_of_lt_of_le h.2.2.1 hg.size, (hg.block lo h.2.2.1).trans h.2.2.2⟩

/-- what the operations of 'p, q := string(key.Encode(x)), string(key.Encode(y))' leave -/
def OrdR2 (x y : Val) (i : Nat) (v : Value) (lo hi : Nat) (w : World) : Prop :=
  match i with
  | 0 => v = x.v
  | 1 => ∃ n, Reads 1 w v n ((enc x).map B)
  | 2 => v = .string ⟨(enc x).toArray⟩
  | 3 => v = y.v
  | 4 => ∃ n, Reads 1 w v n ((enc y).map B)
  | 5 => v = .string ⟨(enc y).toArray⟩
  | _ => v = .string ⟨(enc x).toArray⟩

theorem OrdR2_stable (x y : Val) : ∀ i v lo hi w w', OrdR2 x y i v lo hi w → Grow w w' → OrdR2 x y i v lo hi w' := by
  intro i v lo hi w w' h hg
  unfold OrdR2 at *
  split at h <;> first | exact h | skip
  · obtain ⟨n, h⟩ := h; exact ⟨n, h.below hg (Nat.le_refl _)⟩
  · obtain ⟨n, h⟩ := h; exact ⟨n, h.below hg (Nat.le_refl _)⟩

/-- what the operations of 'j, k := string(key.Join(u)), string(key.Join(w))' leave -/
def OrdR4 (a b : Value) (x y : List Val) (i : Nat) (v : Value) (lo hi : Nat) (w : World) : Prop :=
  match i with
  | 0 => v = a
  | 1 => ∃ n, Reads 1 w v n ((join x).map B)
  | 2 => v = .string ⟨(join x).toArray⟩
  | 3 => v = b
  | 4 => ∃ n, Reads 1 w v n ((join y).map B)
  | 5 => v = .string ⟨(join y).toArray⟩
  | _ => v = .string ⟨(join x).toArray⟩

theorem OrdR4_stable (a b : Value) (x y : List Val) : ∀ i v lo hi w w', OrdR4 a b x y i v lo hi w → Grow w w' → OrdR4 a b x y i v lo hi w' := by
  intro i v lo hi w w' h hg
  unfold OrdR4 at *
  split at h <;> first | exact h | skip
  · obtain ⟨n, h⟩ := h; exact ⟨n, h.below hg (Nat.le_refl _)⟩
  · obtain ⟨n, h⟩ := h; exact ⟨n, h.below hg (Nat.le_refl _)⟩

set_option maxRecDepth 100000 in
set_option maxHeartbeats 6400000 in
theorem ord_any (a b : Val) (ao2 ao3 : Option Addr) (n2 c2 n3 c3 : Nat) (l l' : List Val) (w : World) (hoka : a.ok) (hokb : b.ok) (hb2 : n2 ≤ 1099511627776) (hb3 : n3 ≤ 1099511627776) (hr2 : Reads 4 w (.slice ao2 n2 c2) n2 (cellsOf l)) (hr3 : Reads 4 w (.slice ao3 n3 c3) n3 (cellsOf l')) (hok2 : ∀ x ∈ l, x.ok) (hok3 : ∀ x ∈ l', x.ok) (hj2 : (join (l.map clean)).length ≤ 1099511627776) (hj3 : (join (l'.map clean)).length ≤ 1099511627776) : Calls Try.prog 3 #[.agg #[.int .i64 a.ty, .int .i64 a.num, .string a.txt, .bool a.tru], .agg #[.int .i64 b.ty, .int .i64 b.num, .string b.txt, .bool b.tru], .slice ao2 n2 c2, .slice ao3 n3 c3] w fun e w' => e = .returned (.bool true) ∧ Below w.heap.size w w' := by
  have hW0 : ∃ W0 : World, W0 = (w.alloc (.cells #[.int .i64 a.ty, .int .i64 a.num, .string a.txt, .bool a.tru] 23)).alloc (.cells #[.int .i64 b.ty, .int .i64 b.num, .string b.txt, .bool b.tru] 23) := ⟨_, rfl⟩
  go_enter Try.func3, Try.ntmps3
  go_wp2_with fail
  obtain ⟨W0, hW0⟩ := hW0
  have ra : W0.heap[w.heap.size]? = some (.cells #[.int .i64 a.ty, .int .i64 a.num, .string a.txt, .bool a.tru] 23) := by
    rw [hW0, Below.heap_alloc _ _ _ (by simp)]; exact heap_alloc_new _ _
  have rb : W0.heap[w.heap.size + 1]? = some (.cells #[.int .i64 b.ty, .int .i64 b.num, .string b.txt, .bool b.tru] 23) := by
    rw [hW0]
    have := heap_alloc_new (w.alloc (.cells #[.int .i64 a.ty, .int .i64 a.num, .string a.txt, .bool a.tru] 23)) (.cells #[.int .i64 b.ty, .int .i64 b.num, .string b.txt, .bool b.tru] 23)
    simpa using this
  have hs0 : W0.heap.size = w.heap.size + 2 := by rw [hW0]; simp
  have hB0 : Below w.heap.size w W0 := by rw [hW0]; exact ((Below.refl _ _).alloc (Nat.le_refl _) _).alloc (by simp) _
  rw [← hW0]
  clear hW0
  refine wp_region_partsD 6 [[], [0], [], [2, 1, 0], [], []] [some 22, some 23, some 24, some 25, some 9, some 10, none, none] (by kernel_rfl) (by kernel_rfl) rfl (OrdR1 a b) (OrdR1_stable a b) ?_ ?_
  · intro i hi o ho vs lo h w' hg hp
    have ra' := (hg.block w.heap.size (by omega)).trans ra
    have rb' := (hg.block (w.heap.size + 1) (by omega)).trans rb
    have hca := cell_of_row' ra'
    have hcb := cell_of_row' rb'
    match i, hi with
    | 0, _ =>
      obtain rfl := Option.some.inj ho
      clear ho
      simp only [actsD, List.getD_cons_zero, List.getD_cons_succ, List.foldl_cons, List.foldl_nil, Act.put, List.setIfInBounds_toArray, List.set_cons_succ, List.set_cons_zero]
      go_wp2
      exact ⟨_, rfl, Grow.refl _, rfl⟩
    | 1, _ => 
      obtain rfl := Option.some.inj ho
      clear ho
      simp only [actsD, List.getD_cons_zero, List.getD_cons_succ, List.foldl_cons, List.foldl_nil, Act.put, List.setIfInBounds_toArray, List.set_cons_succ, List.set_cons_zero]
      obtain ⟨_, _, _, h0⟩ := hp 0 (by simp)
      simp only [OrdR1] at h0
      rw [h0]
      go_wp2_with fail
      refine (clean_any a.ty a.num a.txt a.tru _).mono ?_
      rintro e w1 ⟨rfl, hb⟩
      go_wp2
      exact ⟨_, rfl, hb, rfl⟩
    | 2, _ =>
      obtain rfl := Option.some.inj ho
      clear ho
      simp only [actsD, List.getD_cons_zero, List.getD_cons_succ, List.foldl_cons, List.foldl_nil, Act.put, List.setIfInBounds_toArray, List.set_cons_succ, List.set_cons_zero]
      go_wp2
      exact ⟨_, rfl, Grow.refl _, rfl⟩
    | 3, _ =>
      obtain rfl := Option.some.inj ho
      clear ho
      simp only [actsD, List.getD_cons_zero, List.getD_cons_succ, List.foldl_cons, List.foldl_nil, Act.put, List.setIfInBounds_toArray, List.set_cons_succ, List.set_cons_zero]
      obtain ⟨_, _, _, h0⟩ := hp 2 (by simp)
      simp only [OrdR1] at h0
      rw [h0]
      go_wp2_with fail
      refine (clean_any b.ty b.num b.txt b.tru _).mono ?_
      rintro e w1 ⟨rfl, hb⟩
      go_wp2
      exact ⟨_, rfl, hb, rfl⟩
    | 4, _ =>
      obtain rfl := Option.some.inj ho
      clear ho
      simp only [actsD, List.getD_cons_zero, List.getD_cons_succ, List.foldl_cons, List.foldl_nil, Act.put, List.setIfInBounds_toArray, List.set_cons_succ, List.set_cons_zero]
      go_wp2
      exact ⟨_, rfl, (Grow.refl _).alloc _, rfl, by simp, by simp, heap_alloc_new _ _⟩
    | 5, _ =>
      obtain rfl := Option.some.inj ho
      clear ho
      simp only [actsD, List.getD_cons_zero, List.getD_cons_succ, List.foldl_cons, List.foldl_nil, Act.put, List.setIfInBounds_toArray, List.set_cons_succ, List.set_cons_zero]
      go_wp2
      exact ⟨_, rfl, (Grow.refl _).alloc _, rfl, by simp, by simp, heap_alloc_new _ _⟩
  · intro vs lo hi w' hg hp hd
    obtain ⟨_, _, _, h0⟩ := hp 0 (by omega)
    obtain ⟨_, _, _, h1⟩ := hp 1 (by omega)
    obtain ⟨_, _, _, h2⟩ := hp 2 (by omega)
    obtain ⟨_, _, _, h3⟩ := hp 3 (by omega)
    obtain ⟨l4, _, _, h4, e4, lt4, r4⟩ := hp 4 (by omega)
    obtain ⟨l5, _, _, h5, e5, lt5, r5⟩ := hp 5 (by omega)
    have d45 := hd 4 5 (by omega) (by omega) (by omega)
    simp only [OrdR1] at h0 h1 h2 h3
    have hg0 : Below W0.heap.size W0 w' := hg
    have hB1 : Below w.heap.size w w' := hB0.trans (hg0.mono (by omega))
    have hr : List.range 6 = [0, 1, 2, 3, 4, 5] := rfl
    rw [hr]
    simp only [List.drop_succ_cons, List.drop_zero, actsD, List.getD_cons_zero, List.getD_cons_succ, List.foldl_cons, List.foldl_nil, Act.put, List.setIfInBounds_toArray, List.set_cons_succ, List.set_cons_zero, h0, h1, h2, h3, h4, h5]
    clear hp hd hg h0 h1 h2 h3 h4 h5
    generalize lo 4 = g4 at *
    generalize lo 5 = g5 at *
    have hne : ¬ g4 = g5 := by omega
    obtain ⟨x, hx⟩ : ∃ x, clean a = x := ⟨_, rfl⟩
    obtain ⟨y, hy⟩ : ∃ y, clean b = y := ⟨_, rfl⟩
    rw [hx, hy]
    simp only [Val.v]
    have hc4 := cell_of_row' r4
    have hf4 := frozen_of_row' r4
    have hc5 := cell_of_row' r5
    have hf5 := frozen_of_row' r5
    have HX := Lib.hid hx
    have HY := Lib.hid hy
    clear hx hy
    go_wp2_with fail
    have S1 := set4 r4 (.int .i64 x.ty) (.int .i64 x.num) (.string x.txt) (.bool x.tru)
    generalize ((((w'.setCell ⟨g4, 0, none⟩ (.int .i64 x.ty)).setCell ⟨g4, 1, none⟩ (.int .i64 x.num)).setCell ⟨g4, 2, none⟩ (.string x.txt)).setCell ⟨g4, 3, none⟩ (.bool x.tru)) = w1 at *
    obtain ⟨q4, o4⟩ := S1
    have q5 := (o4.block g5 (fun e => hne e.symm)).trans r5
    have S2 := set4 q5 (.int .i64 y.ty) (.int .i64 y.num) (.string y.txt) (.bool y.tru)
    generalize ((((w1.setCell ⟨g5, 0, none⟩ (.int .i64 y.ty)).setCell ⟨g5, 1, none⟩ (.int .i64 y.num)).setCell ⟨g5, 2, none⟩ (.string y.txt)).setCell ⟨g5, 3, none⟩ (.bool y.tru)) = w2 at *
    obtain ⟨p5, o5⟩ := S2
    have p4 := (o5.block g4 hne).trans q4
    have hB2 : Below w.heap.size w w2 := (hB1.trans (o4.below (by omega))).trans (o5.below (by omega))
    have hs2 : w2.heap.size = w'.heap.size := o5.size.trans o4.size
    have lt4' : g4 < w2.heap.size := by omega
    have lt5' : g5 < w2.heap.size := by omega
    clear hc4 hf4 hc5 hf5 r4 r5 q4 q5 o4 o5 hs2 lt4 lt5 d45 e4 e5 hg0 hB1 ra rb
    have ex : x.ok := by rw [← HX.out]; exact K.clean_ok a hoka
    have ey : y.ok := by rw [← HY.out]; exact K.clean_ok b hokb
    refine wp_region_partsD 7 [[], [0], [1], [], [3], [4], [2]] [some 26, some 27, some 28, some 29, some 30, some 31, some 11, some 12] (by kernel_rfl) (by kernel_rfl) rfl (OrdR2 x y) (OrdR2_stable x y) ?_ ?_
    · intro i hi o ho vs lo h w' hg hp
      have hc4 := cell_of_row' ((hg.block g4 lt4').trans p4)
      have hc5 := cell_of_row' ((hg.block g5 lt5').trans p5)
      match i, hi with
      | 0, _ =>
        obtain rfl := Option.some.inj ho
        clear ho
        simp only [actsD, List.getD_cons_zero, List.getD_cons_succ, List.foldl_cons, List.foldl_nil, Act.put, List.setIfInBounds_toArray, List.set_cons_succ, List.set_cons_zero]
        go_wp2
        exact ⟨_, rfl, Grow.refl _, rfl⟩
      | 1, _ =>
        obtain rfl := Option.some.inj ho
        clear ho
        simp only [actsD, List.getD_cons_zero, List.getD_cons_succ, List.foldl_cons, List.foldl_nil, Act.put, List.setIfInBounds_toArray, List.set_cons_succ, List.set_cons_zero]
        obtain ⟨_, _, _, h0⟩ := hp 0 (by simp)
        simp only [OrdR2, List.getD_cons_zero, List.getD_cons_succ] at h0
        rw [h0]
        go_wp2_with fail
        refine (enc_any x.ty x.num x.txt x.tru _ ex.1 ex.2.1 ex.2.2).mono ?_
        rintro e w3 ⟨g, n, c, rfl, hrow, hb⟩
        go_wp2
        exact ⟨_, rfl, hb, _, Reads.of_own hrow⟩
      | 2, _ =>
        obtain rfl := Option.some.inj ho
        clear ho
        simp only [actsD, List.getD_cons_zero, List.getD_cons_succ, List.foldl_cons, List.foldl_nil, Act.put, List.setIfInBounds_toArray, List.set_cons_succ, List.set_cons_zero]
        obtain ⟨_, _, _, h1⟩ := hp 1 (by simp)
        simp only [OrdR2, List.getD_cons_zero, List.getD_cons_succ] at h1
        obtain ⟨n1, h1⟩ := h1
        refine wpList_str_reads (.tmp 27) rfl rfl Try.underlying26 Try.underlying5 Try.underlying9 (enc x) rfl h1 ?_
        go_wp2
        exact ⟨_, rfl, Grow.refl _, rfl⟩
      | 3, _ =>
        obtain rfl := Option.some.inj ho
        clear ho
        simp only [actsD, List.getD_cons_zero, List.getD_cons_succ, List.foldl_cons, List.foldl_nil, Act.put, List.setIfInBounds_toArray, List.set_cons_succ, List.set_cons_zero]
        go_wp2
        exact ⟨_, rfl, Grow.refl _, rfl⟩
      | 4, _ =>
        obtain rfl := Option.some.inj ho
        clear ho
        simp only [actsD, List.getD_cons_zero, List.getD_cons_succ, List.foldl_cons, List.foldl_nil, Act.put, List.setIfInBounds_toArray, List.set_cons_succ, List.set_cons_zero]
        obtain ⟨_, _, _, h3⟩ := hp 3 (by simp)
        simp only [OrdR2, List.getD_cons_zero, List.getD_cons_succ] at h3
        rw [h3]
        go_wp2_with fail
        refine (enc_any y.ty y.num y.txt y.tru _ ey.1 ey.2.1 ey.2.2).mono ?_
        rintro e w3 ⟨g, n, c, rfl, hrow, hb⟩
        go_wp2
        exact ⟨_, rfl, hb, _, Reads.of_own hrow⟩
      | 5, _ =>
        obtain rfl := Option.some.inj ho
        clear ho
        simp only [actsD, List.getD_cons_zero, List.getD_cons_succ, List.foldl_cons, List.foldl_nil, Act.put, List.setIfInBounds_toArray, List.set_cons_succ, List.set_cons_zero]
        obtain ⟨_, _, _, h4⟩ := hp 4 (by simp)
        simp only [OrdR2, List.getD_cons_zero, List.getD_cons_succ] at h4
        obtain ⟨n1, h1⟩ := h4
        refine wpList_str_reads (.tmp 30) rfl rfl Try.underlying26 Try.underlying5 Try.underlying9 (enc y) rfl h1 ?_
        go_wp2
        exact ⟨_, rfl, Grow.refl _, rfl⟩
      | 6, _ =>
        obtain rfl := Option.some.inj ho
        clear ho
        simp only [actsD, List.getD_cons_zero, List.getD_cons_succ, List.foldl_cons, List.foldl_nil, Act.put, List.setIfInBounds_toArray, List.set_cons_succ, List.set_cons_zero]
        obtain ⟨_, _, _, h2⟩ := hp 2 (by simp)
        simp only [OrdR2, List.getD_cons_zero, List.getD_cons_succ] at h2
        rw [h2]
        go_wp2
        exact ⟨_, rfl, Grow.refl _, rfl⟩
    intro vs lo hi w3 hg hp hd
    obtain ⟨l_, m_, n_, h0⟩ := hp 0 (by omega)
    obtain ⟨l_, m_, n_, h2⟩ := hp 2 (by omega)
    obtain ⟨l_, m_, n_, h3⟩ := hp 3 (by omega)
    obtain ⟨l_, m_, n_, h5⟩ := hp 5 (by omega)
    obtain ⟨l_, m_, n_, h6⟩ := hp 6 (by omega)
    simp only [OrdR2] at h0 h2 h3 h5 h6
    have hr : List.range 7 = [0, 1, 2, 3, 4, 5, 6] := rfl
    rw [hr]
    simp only [List.drop_succ_cons, List.drop_zero, actsD, List.getD_cons_zero, List.getD_cons_succ, List.foldl_cons, List.foldl_nil, Act.put, List.setIfInBounds_toArray, List.set_cons_succ, List.set_cons_zero, h0, h2, h3, h5, h6]
    clear hp hd h0 h2 h3 h5 h6
    generalize vs 1 = v1
    generalize vs 4 = v4
    have hB3 : Below w.heap.size w w3 := hB2.trans (hg.mono (by have := hB2.size; omega))
    have hc4 := cell_of_row' ((hg.block g4 lt4').trans p4)
    have hc5 := cell_of_row' ((hg.block g5 lt5').trans p5)
    obtain ⟨P, hP⟩ : ∃ P : ByteArray, ⟨(enc x).toArray⟩ = P := ⟨_, rfl⟩
    obtain ⟨Q, hQ⟩ : ∃ Q : ByteArray, ⟨(enc y).toArray⟩ = Q := ⟨_, rfl⟩
    rw [hP, hQ]
    have HP := Lib.hid hP
    have HQ := Lib.hid hQ
    clear hP hQ
    simp only [Val.v]
    go_wp2_with fail
    refine (compare_any x.ty x.num x.txt x.tru y.ty y.num y.txt y.tru _).mono ?_
    rintro e w4 ⟨rfl, hb4⟩
    obtain ⟨c, hcc⟩ : ∃ c, cmpV ⟨x.ty, x.num, x.txt, x.tru⟩ ⟨y.ty, y.num, y.txt, y.tru⟩ = c := ⟨_, rfl⟩
    rw [hcc]
    have HC := Lib.hid hcc
    clear hcc hc4 hc5
    obtain ⟨F1, F2, F3, F4⟩ := K.ord_facts x y (by rw [← HX.out]; exact K.clean_is a hoka) (by rw [← HY.out]; exact K.clean_is b hokb) P Q HP.out HQ.out c HC.out
    have hB4 : Below w.heap.size w w4 := hB3.trans (hb4.mono (by have := hB3.size; omega))
    clear l_ m_ n_ HC HP HQ hb4 hB3 hg ex ey lt4' lt5' hB2 p4 p5 HX HY l4 l5 hne hs0 hB0 hr
    go_upto_region 4 with (fail)
    go_cut [82] (fun z wx => z = .bool false ∧ wx = w4)
    case first =>
      by_cases h0 : c = 0
      · subst h0
        go_wp2
        go_meet
        exact ⟨rfl, rfl⟩
      · have hb0 : (c == 0) = false := by simp [h0]
        have G3 := F3 h0
        have G4 := F4 h0
        clear F3 F4
        go_wp2
        all_goals first
          | exact absurd ‹_› (G3 ‹_›)
          | exact absurd ‹_› (G4 ‹_›)
          | (go_meet; exact ⟨by simp [*], rfl⟩)
    case rest =>
      obtain ⟨rfl, rfl⟩ := hcut
      go_wp2_with fail
      obtain ⟨ao1, cap1, he1, hl1, hle1, hcells1⟩ := hr2
      injection he1 with e1 _ e3
      subst e1 e3
      have hn2 : n2 = l.length := by rw [K.cellsOf_length] at hl1; omega
      obtain ⟨ao1, cap1, he1, hl1', hle1', hcells1'⟩ := hr3
      injection he1 with e1 _ e3
      subst e1 e3
      have hn3 : n3 = l'.length := by rw [K.cellsOf_length] at hl1'; omega
      have HN2 := Lib.hid hn2
      have HN3 := Lib.hid hn3
      have HC1 := Lib.hid hcells1
      have HC1' := Lib.hid hcells1'
      clear hl1 hl1' hn2 hn3 hcells1 hcells1' F1 F2 F3 F4
      have hsw := hB4.size
      go_loopw [14, 16] (fun v i wr => ∃ (k cb : Nat) (bo : Option Addr), k ≤ n2 ∧ i = .int .i64 k ∧ v = .slice bo k cb ∧
          wr.ownsRow wc.heap.size 23 4 (.slice bo k cb) k (cellsOf ((l.map clean).take k)) ∧ Below wc.heap.size wc wr) (fun _ i _ => n2 - (intOf i).toNat)
      case atStart => exact ⟨0, 0, none, Nat.zero_le _, rfl, rfl, World.ownsRow_nil _ _ _ _, Below.refl _ _⟩
      case round =>
        obtain ⟨k, cb, bo, hk, rfl, rfl, hown, hnx⟩ := hrel
        have hsz := hnx.size
        have hbw : Below w.heap.size w wr := hB4.trans (hnx.mono hsw)
        by_cases hlt : k < n2
        · have hkl : k < l.length := by rw [← HN2.out]; exact hlt
          obtain ⟨b2, off, rfl, hb, hc⟩ := HC1.out (by omega)
          have hcr := bcellB hbw
          obtain ⟨x, hx⟩ : ∃ x, l[k] = x := ⟨_, rfl⟩
          obtain ⟨c0, c1, c2, c3⟩ := reads_val hc k hkl hx
          obtain ⟨z, hz⟩ : ∃ z, clean x = z := ⟨_, rfl⟩
          have HJ := Lib.hid (K.cellsOf_take_map l k hkl)
          rw [hx, hz] at HJ
          have HZ := Lib.hid hz
          clear hc hx hz
          go_wp2_with fail
          refine (clean_any x.ty x.num x.txt x.tru _).mono ?_
          rintro e w1 ⟨rfl, hbel⟩
          rw [HZ.out]
          simp only [Val.v]
          have hown1 := own_below hown hbel (fun g hg => (hown.lt g hg).2)
          have hnx1 := hnx.trans (hbel.mono hsz)
          have hsz1 := hnx1.size
          go_wp2_with (first
            | (at_builtin; refine wpList_app sl_vals (.tmp 89) (.tmp 95) rfl rfl rfl hown1 hnx1 rfl rfl (by intro u hu; simp at hu; rcases hu with rfl | rfl | rfl | rfl <;> rfl) (by omega) (by omega) hsz1 (by omega) ?_; intro g2 cap2 w2 hown2 hbel2 hg2 hlt2 hcap2))
          go_roundw
          case rel => exact ⟨k + 1, cap2, _, by omega, by go_num, rfl, by rw [HJ.out]; simpa [Val.cells] using hown2, hbel2⟩
          case measure => simp [intOf]; omega
        · obtain rfl : k = n2 := by omega
          rw [List.take_of_length_le (by rw [List.length_map, ← HN2.out]; exact Nat.le_refl _)] at hown
          clear hlt hk
          go_wp2_with fail
          obtain ⟨wu, hwu⟩ : ∃ wu : World, wu = wr := ⟨_, rfl⟩
          rw [← hwu] at hown hnx hbw hsz ⊢
          clear hwu
          go_loopw [15, 17] (fun v i wr => ∃ (q cv : Nat) (vo : Option Addr), q ≤ n3 ∧ i = .int .i64 q ∧ v = .slice vo q cv ∧
              wr.ownsRow wu.heap.size 23 4 (.slice vo q cv) q (cellsOf ((l'.map clean).take q)) ∧ Below wu.heap.size wu wr) (fun _ i _ => n3 - (intOf i).toNat)
          case atStart => exact ⟨0, 0, none, Nat.zero_le _, rfl, rfl, World.ownsRow_nil _ _ _ _, Below.refl _ _⟩
          case round =>
            obtain ⟨q, cv, vo, hq, rfl, rfl, hown', hnx'⟩ := hrel
            have hsz' := hnx'.size
            have hbw' : Below w.heap.size w wr := hbw.trans (hnx'.mono (by omega))
            by_cases hlt : q < n3
            · have hkl : q < l'.length := by rw [← HN3.out]; exact hlt
              obtain ⟨b2, off, rfl, hb, hc⟩ := HC1'.out (by omega)
              have hcr := bcellB hbw'
              obtain ⟨x, hx⟩ : ∃ x, l'[q] = x := ⟨_, rfl⟩
              obtain ⟨c0, c1, c2, c3⟩ := reads_val hc q hkl hx
              obtain ⟨z, hz⟩ : ∃ z, clean x = z := ⟨_, rfl⟩
              have HJ := Lib.hid (K.cellsOf_take_map l' q hkl)
              rw [hx, hz] at HJ
              have HZ := Lib.hid hz
              clear hc hx hz
              go_wp2_with fail
              refine (clean_any x.ty x.num x.txt x.tru _).mono ?_
              rintro e w1 ⟨rfl, hbel⟩
              rw [HZ.out]
              simp only [Val.v]
              have hown1 := own_below hown' hbel (fun g hg => (hown'.lt g hg).2)
              have hnx1 := hnx'.trans (hbel.mono hsz')
              have hsz1 := hnx1.size
              go_wp2_with (first
                | (at_builtin; refine wpList_app sl_vals (.tmp 103) (.tmp 109) rfl rfl rfl hown1 hnx1 rfl rfl (by intro u hu; simp at hu; rcases hu with rfl | rfl | rfl | rfl <;> rfl) (by omega) (by omega) hsz1 (by omega) ?_; intro g2 cap2 w2 hown2 hbel2 hg2 hlt2 hcap2))
              go_roundw
              case rel => exact ⟨q + 1, cap2, _, by omega, by go_num, rfl, by rw [HJ.out]; simpa [Val.cells] using hown2, hbel2⟩
              case measure => simp [intOf]; omega
            · obtain rfl : q = n3 := by omega
              rw [List.take_of_length_le (by rw [List.length_map, ← HN3.out]; exact Nat.le_refl _)] at hown'
              clear hlt hq
              go_upto_block 4 with (fail)
              have hru : Reads 4 wr (.slice bo k cb) k (cellsOf (l.map clean)) := (Reads.of_own hown).below hnx' (Nat.le_refl _)
              have hrv : Reads 4 wr (.slice vo q cv) q (cellsOf (l'.map clean)) := Reads.of_own hown'
              have hbv : Below w.heap.size w wr := hbw'
              clear hown hown' hnx hnx' hsz hsz' hbw hbw' hB4 hsw HC1 HC1' hle1 hle1'
              have hlU : k = (l.map clean).length := by rw [List.length_map]; exact HN2.out
              have hlV : q = (l'.map clean).length := by rw [List.length_map]; exact HN3.out
              have hcU : ∀ x ∈ l.map clean, K.Clean x := by intro x hx; obtain ⟨y, hy, rfl⟩ := List.mem_map.1 hx; exact K.clean_is y (hok2 y hy)
              have hcV : ∀ x ∈ l'.map clean, K.Clean x := by intro x hx; obtain ⟨y, hy, rfl⟩ := List.mem_map.1 hx; exact K.clean_is y (hok3 y hy)
              have hoU : ∀ x ∈ l.map clean, x.ok := by intro x hx; obtain ⟨y, hy, rfl⟩ := List.mem_map.1 hx; exact K.clean_ok y (hok2 y hy)
              have hoV : ∀ x ∈ l'.map clean, x.ok := by intro x hx; obtain ⟨y, hy, rfl⟩ := List.mem_map.1 hx; exact K.clean_ok y (hok3 y hy)
              obtain ⟨U, hU⟩ : ∃ U, l.map clean = U := ⟨_, rfl⟩
              obtain ⟨V, hV⟩ : ∃ V, l'.map clean = V := ⟨_, rfl⟩
              rw [hU] at hru hcU hlU hoU hj2
              rw [hV] at hrv hcV hlV hoV hj3
              clear hU hV HN2 HN3 hok2 hok3
              obtain ⟨wv, hwv⟩ : ∃ wv : World, wv = wr := ⟨_, rfl⟩
              rw [← hwv] at hru hrv hbv ⊢
              clear hwv
              have HRU := Lib.hid hru
              have HRV := Lib.hid hrv
              have HLU := Lib.hid hlU
              have HLV := Lib.hid hlV
              have HCU := Lib.hid hcU
              have HCV := Lib.hid hcV
              have HOU := Lib.hid hoU
              have HOV := Lib.hid hoV
              have HJ2 := Lib.hid hj2
              have HJ3 := Lib.hid hj3
              clear hru hrv hlU hlV hcU hcV hoU hoV hj2 hj3
              have hsv := hbv.size
              have hmc : k ≤ cb := by obtain ⟨_, _, h, _, h2, _⟩ := HRU.out; injection h with _ _ h3; omega
              have hmv : q ≤ cv := by obtain ⟨_, _, h, _, h2, _⟩ := HRV.out; injection h with _ _ h3; omega
              go_cut [18] (fun z wx => ∃ f : Int, z = .int .i64 f ∧ -1 ≤ f ∧ f ≤ 1 ∧ K.FirstEnd U V f ∧ Below wv.heap.size wv wx)
              case first =>
                go_wp2_with fail
                go_loopw [18, 19] (fun z i wr => ∃ (f : Int) (j : Nat), j ≤ k ∧ j ≤ q ∧ i = .int .i64 j ∧ z = .int .i64 f ∧ -1 ≤ f ∧ f ≤ 1 ∧ K.FirstAt U V j f ∧ Below wv.heap.size wv wr) (fun _ i _ => k - (intOf i).toNat)
                case atStart => exact ⟨0, 0, Nat.zero_le _, Nat.zero_le _, rfl, rfl, by omega, by omega, K.first_start U V, Below.refl _ _⟩
                case round =>
                  obtain ⟨f, j, hj1, hj2, rfl, rfl, hf1, hf2, hfa, hnx⟩ := hrel
                  have HFA := Lib.hid hfa
                  clear hfa
                  by_cases h1 : j < k
                  · by_cases h2 : j < q
                    · by_cases h3 : f = 0
                      · subst h3
                        have hUl : j < U.length := by rw [← HLU.out]; exact h1
                        have hVl : j < V.length := by rw [← HLV.out]; exact h2
                        have HS := Lib.hid (K.first_step U V j hUl hVl HFA.out)
                        obtain ⟨_, _, he, _, _, hr⟩ := HRU.out
                        injection he with e1 _ e3
                        subst e1 e3
                        obtain ⟨b2, off, rfl, hb, hc⟩ := hr (by omega)
                        obtain ⟨x, hx⟩ : ∃ x, U[j] = x := ⟨_, rfl⟩
                        obtain ⟨c0, c1, c2, c3⟩ := reads_val hc j hUl hx
                        obtain ⟨_, _, he, _, _, hr⟩ := HRV.out
                        injection he with e1 _ e3
                        subst e1 e3
                        obtain ⟨b3, off3, rfl, hb', hc'⟩ := hr (by omega)
                        obtain ⟨y, hy⟩ : ∃ y, V[j] = y := ⟨_, rfl⟩
                        obtain ⟨d0, d1, d2, d3⟩ := reads_val hc' j hVl hy
                        rw [hx, hy] at HS
                        clear hc hc' hx hy
                        have hsr := hnx.size
                        go_wp2_with fail
                        obtain ⟨wj, hwj⟩ : ∃ wj : World, wj = wr := ⟨_, rfl⟩
                        rw [← hwj] at hnx hsr ⊢
                        clear hwj
                        refine wp_region_partsD 9 [[], [], [0, 1], [2], [], [], [4, 5], [6], [3, 7]] [some 127, some 128, some 129, some 130, some 131, some 132, some 133, some 134, some 135, some 18] (by kernel_rfl) (by kernel_rfl) rfl (EqPost [.slice (some ⟨b2, off, none⟩) k cb, .int .i64 j, .pointer (some ⟨b2, off + j * 4, none⟩), .agg #[.int .i64 x.ty, .int .i64 x.num, .string x.txt, .bool x.tru], .slice (some ⟨b3, off3, none⟩) q cv, .int .i64 j, .pointer (some ⟨b3, off3 + j * 4, none⟩), .agg #[.int .i64 y.ty, .int .i64 y.num, .string y.txt, .bool y.tru], .int .i64 (cmpV x y)]) (EqPost_stable _) ?_ ?_
                        · intro i hi o ho vs lo h w' hg hp
                          have hn9 : Below wv.heap.size wv w' := hnx.trans (Below.mono hg hsr)
                          have hc9 := bcellB hn9
                          match i, hi with
                          | 0, _ =>
                            obtain rfl := Option.some.inj ho
                            clear ho
                            simp only [actsD, List.getD_cons_zero, List.getD_cons_succ, List.foldl_cons, List.foldl_nil, Act.put, List.setIfInBounds_toArray, List.set_cons_succ, List.set_cons_zero]
                            go_wp2
                            exact ⟨_, rfl, Grow.refl _, rfl⟩
                          | 1, _ =>
                            obtain rfl := Option.some.inj ho
                            clear ho
                            simp only [actsD, List.getD_cons_zero, List.getD_cons_succ, List.foldl_cons, List.foldl_nil, Act.put, List.setIfInBounds_toArray, List.set_cons_succ, List.set_cons_zero]
                            go_wp2
                            exact ⟨_, rfl, Grow.refl _, rfl⟩
                          | 2, _ =>
                            obtain rfl := Option.some.inj ho
                            clear ho
                            simp only [actsD, List.getD_cons_zero, List.getD_cons_succ, List.foldl_cons, List.foldl_nil, Act.put, List.setIfInBounds_toArray, List.set_cons_succ, List.set_cons_zero]
                            obtain ⟨_, _, _, h0⟩ := hp 0 (by simp)
                            simp only [EqPost, List.getD_cons_zero, List.getD_cons_succ] at h0
                            obtain ⟨_, _, _, h1⟩ := hp 1 (by simp)
                            simp only [EqPost, List.getD_cons_zero, List.getD_cons_succ] at h1
                            rw [h0, h1]
                            go_wp2
                            exact ⟨_, rfl, Grow.refl _, rfl⟩
                          | 3, _ =>
                            obtain rfl := Option.some.inj ho
                            clear ho
                            simp only [actsD, List.getD_cons_zero, List.getD_cons_succ, List.foldl_cons, List.foldl_nil, Act.put, List.setIfInBounds_toArray, List.set_cons_succ, List.set_cons_zero]
                            obtain ⟨_, _, _, h2⟩ := hp 2 (by simp)
                            simp only [EqPost, List.getD_cons_zero, List.getD_cons_succ] at h2
                            rw [h2]
                            go_wp2
                            exact ⟨_, rfl, Grow.refl _, rfl⟩
                          | 4, _ =>
                            obtain rfl := Option.some.inj ho
                            clear ho
                            simp only [actsD, List.getD_cons_zero, List.getD_cons_succ, List.foldl_cons, List.foldl_nil, Act.put, List.setIfInBounds_toArray, List.set_cons_succ, List.set_cons_zero]
                            go_wp2
                            exact ⟨_, rfl, Grow.refl _, rfl⟩
                          | 5, _ =>
                            obtain rfl := Option.some.inj ho
                            clear ho
                            simp only [actsD, List.getD_cons_zero, List.getD_cons_succ, List.foldl_cons, List.foldl_nil, Act.put, List.setIfInBounds_toArray, List.set_cons_succ, List.set_cons_zero]
                            go_wp2
                            exact ⟨_, rfl, Grow.refl _, rfl⟩
                          | 6, _ =>
                            obtain rfl := Option.some.inj ho
                            clear ho
                            simp only [actsD, List.getD_cons_zero, List.getD_cons_succ, List.foldl_cons, List.foldl_nil, Act.put, List.setIfInBounds_toArray, List.set_cons_succ, List.set_cons_zero]
                            obtain ⟨_, _, _, h4⟩ := hp 4 (by simp)
                            simp only [EqPost, List.getD_cons_zero, List.getD_cons_succ] at h4
                            obtain ⟨_, _, _, h5⟩ := hp 5 (by simp)
                            simp only [EqPost, List.getD_cons_zero, List.getD_cons_succ] at h5
                            rw [h4, h5]
                            go_wp2
                            exact ⟨_, rfl, Grow.refl _, rfl⟩
                          | 7, _ =>
                            obtain rfl := Option.some.inj ho
                            clear ho
                            simp only [actsD, List.getD_cons_zero, List.getD_cons_succ, List.foldl_cons, List.foldl_nil, Act.put, List.setIfInBounds_toArray, List.set_cons_succ, List.set_cons_zero]
                            obtain ⟨_, _, _, h6⟩ := hp 6 (by simp)
                            simp only [EqPost, List.getD_cons_zero, List.getD_cons_succ] at h6
                            rw [h6]
                            go_wp2
                            exact ⟨_, rfl, Grow.refl _, rfl⟩
                          | 8, _ =>
                            obtain rfl := Option.some.inj ho
                            clear ho
                            simp only [actsD, List.getD_cons_zero, List.getD_cons_succ, List.foldl_cons, List.foldl_nil, Act.put, List.setIfInBounds_toArray, List.set_cons_succ, List.set_cons_zero]
                            obtain ⟨_, _, _, h3⟩ := hp 3 (by simp)
                            simp only [EqPost, List.getD_cons_zero, List.getD_cons_succ] at h3
                            obtain ⟨_, _, _, h7⟩ := hp 7 (by simp)
                            simp only [EqPost, List.getD_cons_zero, List.getD_cons_succ] at h7
                            rw [h3, h7]
                            go_wp2_with fail
                            refine (compare_any x.ty x.num x.txt x.tru y.ty y.num y.txt y.tru _).mono ?_
                            rintro e w9 ⟨rfl, hb9⟩
                            go_wp2
                            exact ⟨_, rfl, hb9, rfl⟩
                        · intro vs lo hi w9 hg hp hd
                          obtain ⟨_, _, _, h0⟩ := hp 0 (by omega)
                          obtain ⟨_, _, _, h1'⟩ := hp 1 (by omega)
                          obtain ⟨_, _, _, h2'⟩ := hp 2 (by omega)
                          obtain ⟨_, _, _, h3⟩ := hp 3 (by omega)
                          obtain ⟨_, _, _, h4⟩ := hp 4 (by omega)
                          obtain ⟨_, _, _, h5⟩ := hp 5 (by omega)
                          obtain ⟨_, _, _, h6⟩ := hp 6 (by omega)
                          obtain ⟨_, _, _, h7⟩ := hp 7 (by omega)
                          obtain ⟨_, _, _, h8⟩ := hp 8 (by omega)
                          simp only [EqPost, List.getD_cons_zero, List.getD_cons_succ] at h0 h1' h2' h3 h4 h5 h6 h7 h8
                          have hr : List.range 9 = [0, 1, 2, 3, 4, 5, 6, 7, 8] := rfl
                          rw [hr]
                          simp only [List.drop_succ_cons, List.drop_zero, actsD, List.getD_cons_zero, List.getD_cons_succ, List.foldl_cons, List.foldl_nil, Act.put, List.setIfInBounds_toArray, List.set_cons_succ, List.set_cons_zero, h0, h1', h2', h3, h4, h5, h6, h7, h8]
                          have hn9 : Below wv.heap.size wv w9 := hnx.trans (Below.mono hg hsr)
                          clear hp hd h0 h1' h2' h3 h4 h5 h6 h7 h8 hg
                          have hcs := K.cmpV_cases x y
                          obtain ⟨f, hf⟩ : ∃ f, cmpV x y = f := ⟨_, rfl⟩
                          rw [hf] at HS hcs ⊢
                          have hf1 : -1 ≤ f := by omega
                          have hf2 : f ≤ 1 := by omega
                          clear hf hcs
                          go_wp2
                          go_roundw
                          case rel => exact ⟨f, j + 1, by omega, by omega, by go_num, rfl, hf1, hf2, HS.out, hn9⟩
                          case measure => simp [intOf]; omega
                      · have hfb : (f == 0) = false := by simp [h3]
                        have HE := Lib.hid (K.first_end U V j f HFA.out (by rw [← HLU.out]; omega) (by rw [← HLV.out]; omega) (.inr (.inr h3)))
                        clear h3
                        go_wp2
                        go_meet
                        exact ⟨f, rfl, hf1, hf2, HE.out, hnx⟩
                    · have HE := Lib.hid (K.first_end U V j f HFA.out (by rw [← HLU.out]; omega) (by rw [← HLV.out]; omega) (.inr (.inl (by rw [← HLV.out]; omega))))
                      go_wp2
                      go_meet
                      exact ⟨f, rfl, hf1, hf2, HE.out, hnx⟩
                  · have HE := Lib.hid (K.first_end U V j f HFA.out (by rw [← HLU.out]; omega) (by rw [← HLV.out]; omega) (.inl (by rw [← HLU.out]; omega)))
                    go_wp2
                    go_meet
                    exact ⟨f, rfl, hf1, hf2, HE.out, hnx⟩
              case rest =>
                obtain ⟨f, rfl, hf1, hf2, hfe, hnx⟩ := hcut
                have hsn := hnx.size
                have hbn : Below w.heap.size w wc := hbv.trans (hnx.mono hsv)
                have hru : Reads 4 wc (.slice bo k cb) k (cellsOf U) := HRU.out.below hnx (Nat.le_refl _)
                have hrv : Reads 4 wc (.slice vo q cv) q (cellsOf V) := HRV.out.below hnx (Nat.le_refl _)
                have HR1 := Lib.hid hru
                have HR2 := Lib.hid hrv
                have hlu := HLU.out
                have hlv := HLV.out
                obtain ⟨fe1, fe2⟩ := hfe
                rw [← hlu, ← hlv] at fe2
                have FE1 := Lib.hid fe1
                have FE2 := Lib.hid fe2
                clear hru hrv hlu hlv fe1 fe2 HRU HRV hnx hbv hsv hsn
                by_cases h0 : f = 0
                · subst h0
                  rcases Nat.lt_trichotomy k q with hkq | hkq | hkq
                  · have HF : Hid (K.firstL U V = -1) := (FE2.out rfl).trans (by rw [if_neg (by omega), if_pos (by omega)])
                    have hkb : (((k : Nat) : Int) != ((q : Nat) : Int)) = true := by rw [bne_iff_ne]; omega
                    have hkb2 : decide (k < q) = true := by simp [hkq]
                    have hkb3 : decide (((k : Nat) : Int) < ((q : Nat) : Int)) = true := by simp [hkq]
                    clear hkq
                    go_upto_region 24 with (fail)
                    refine wp_region_partsD 7 [[], [0], [1], [], [3], [4], [2]] [some 150, some 151, some 152, some 153, some 154, some 155, some 20, some 21] (by kernel_rfl) (by kernel_rfl) rfl (OrdR4 (.slice bo k cb) (.slice vo q cv) U V) (OrdR4_stable _ _ U V) ?_ ?_
                    · intro i hi o ho vs lo h w' hg hp
                      match i, hi with
                      | 0, _ =>
                        obtain rfl := Option.some.inj ho
                        clear ho
                        simp only [actsD, List.getD_cons_zero, List.getD_cons_succ, List.foldl_cons, List.foldl_nil, Act.put, List.setIfInBounds_toArray, List.set_cons_succ, List.set_cons_zero]
                        go_wp2
                        exact ⟨_, rfl, Grow.refl _, rfl⟩
                      | 1, _ =>
                        obtain rfl := Option.some.inj ho
                        clear ho
                        simp only [actsD, List.getD_cons_zero, List.getD_cons_succ, List.foldl_cons, List.foldl_nil, Act.put, List.setIfInBounds_toArray, List.set_cons_succ, List.set_cons_zero]
                        obtain ⟨_, _, _, h0⟩ := hp 0 (by simp)
                        simp only [OrdR4, List.getD_cons_zero, List.getD_cons_succ] at h0
                        rw [h0]
                        go_wp2_with fail
                        refine (join_any _ k _ U _ (HR1.out.below hg (Nat.le_refl _)) HOU.out HJ2.out hb2).mono ?_
                        rintro e w3 ⟨v, n, rfl, hrd, hb⟩
                        go_wp2
                        exact ⟨_, rfl, hb, _, hrd⟩
                      | 2, _ =>
                        obtain rfl := Option.some.inj ho
                        clear ho
                        simp only [actsD, List.getD_cons_zero, List.getD_cons_succ, List.foldl_cons, List.foldl_nil, Act.put, List.setIfInBounds_toArray, List.set_cons_succ, List.set_cons_zero]
                        obtain ⟨_, _, _, h1⟩ := hp 1 (by simp)
                        simp only [OrdR4, List.getD_cons_zero, List.getD_cons_succ] at h1
                        obtain ⟨n1, h1⟩ := h1
                        refine wpList_str_reads (.tmp 151) rfl rfl Try.underlying26 Try.underlying5 Try.underlying9 (join U) rfl h1 ?_
                        go_wp2
                        exact ⟨_, rfl, Grow.refl _, rfl⟩
                      | 3, _ =>
                        obtain rfl := Option.some.inj ho
                        clear ho
                        simp only [actsD, List.getD_cons_zero, List.getD_cons_succ, List.foldl_cons, List.foldl_nil, Act.put, List.setIfInBounds_toArray, List.set_cons_succ, List.set_cons_zero]
                        go_wp2
                        exact ⟨_, rfl, Grow.refl _, rfl⟩
                      | 4, _ =>
                        obtain rfl := Option.some.inj ho
                        clear ho
                        simp only [actsD, List.getD_cons_zero, List.getD_cons_succ, List.foldl_cons, List.foldl_nil, Act.put, List.setIfInBounds_toArray, List.set_cons_succ, List.set_cons_zero]
                        obtain ⟨_, _, _, h3⟩ := hp 3 (by simp)
                        simp only [OrdR4, List.getD_cons_zero, List.getD_cons_succ] at h3
                        rw [h3]
                        go_wp2_with fail
                        refine (join_any _ q _ V _ (HR2.out.below hg (Nat.le_refl _)) HOV.out HJ3.out hb3).mono ?_
                        rintro e w3 ⟨v, n, rfl, hrd, hb⟩
                        go_wp2
                        exact ⟨_, rfl, hb, _, hrd⟩
                      | 5, _ =>
                        obtain rfl := Option.some.inj ho
                        clear ho
                        simp only [actsD, List.getD_cons_zero, List.getD_cons_succ, List.foldl_cons, List.foldl_nil, Act.put, List.setIfInBounds_toArray, List.set_cons_succ, List.set_cons_zero]
                        obtain ⟨_, _, _, h4⟩ := hp 4 (by simp)
                        simp only [OrdR4, List.getD_cons_zero, List.getD_cons_succ] at h4
                        obtain ⟨n1, h1⟩ := h4
                        refine wpList_str_reads (.tmp 154) rfl rfl Try.underlying26 Try.underlying5 Try.underlying9 (join V) rfl h1 ?_
                        go_wp2
                        exact ⟨_, rfl, Grow.refl _, rfl⟩
                      | 6, _ =>
                        obtain rfl := Option.some.inj ho
                        clear ho
                        simp only [actsD, List.getD_cons_zero, List.getD_cons_succ, List.foldl_cons, List.foldl_nil, Act.put, List.setIfInBounds_toArray, List.set_cons_succ, List.set_cons_zero]
                        obtain ⟨_, _, _, h2⟩ := hp 2 (by simp)
                        simp only [OrdR4, List.getD_cons_zero, List.getD_cons_succ] at h2
                        rw [h2]
                        go_wp2
                        exact ⟨_, rfl, Grow.refl _, rfl⟩
                    · intro vs lo hi w5 hg hp hd
                      obtain ⟨_, _, _, h0⟩ := hp 0 (by omega)
                      obtain ⟨_, _, _, h2⟩ := hp 2 (by omega)
                      obtain ⟨_, _, _, h3⟩ := hp 3 (by omega)
                      obtain ⟨_, _, _, h5⟩ := hp 5 (by omega)
                      obtain ⟨_, _, _, h6⟩ := hp 6 (by omega)
                      simp only [OrdR4] at h0 h2 h3 h5 h6
                      have hr : List.range 7 = [0, 1, 2, 3, 4, 5, 6] := rfl
                      rw [hr]
                      simp only [List.drop_succ_cons, List.drop_zero, actsD, List.getD_cons_zero, List.getD_cons_succ, List.foldl_cons, List.foldl_nil, Act.put, List.setIfInBounds_toArray, List.set_cons_succ, List.set_cons_zero, h0, h2, h3, h5, h6]
                      clear hp hd h0 h2 h3 h5 h6
                      generalize vs 1 = v1
                      generalize vs 4 = v4
                      have hB5 : Below w.heap.size w w5 := hbn.trans (Below.mono hg hbn.size)
                      obtain ⟨J1, hJ1⟩ : ∃ P : ByteArray, ⟨(join U).toArray⟩ = P := ⟨_, rfl⟩
                      obtain ⟨J2, hJ2⟩ : ∃ P : ByteArray, ⟨(join V).toArray⟩ = P := ⟨_, rfl⟩
                      rw [hJ1, hJ2]
                      obtain ⟨G1, G2⟩ := K.join_facts U V HCU.out HCV.out J1 J2 hJ1 hJ2 _ HF.out
                      clear hJ1 hJ2 hg
                      go_wp2_with (go_at_call 10; refine (awake_any _).mono ?_; rintro e w6 ⟨rfl, hb6⟩)
                      all_goals go_ret
                      all_goals exact ⟨by simp [*], hB5.trans (hb6.mono hB5.size)⟩
                  · have HF : Hid (K.firstL U V = 0) := (FE2.out rfl).trans (by rw [if_pos hkq])
                    have hkb : (((k : Nat) : Int) != ((q : Nat) : Int)) = false := by simp [hkq]
                    clear hkq
                    go_upto_region 24 with (fail)
                    refine wp_region_partsD 7 [[], [0], [1], [], [3], [4], [2]] [some 150, some 151, some 152, some 153, some 154, some 155, some 20, some 21] (by kernel_rfl) (by kernel_rfl) rfl (OrdR4 (.slice bo k cb) (.slice vo q cv) U V) (OrdR4_stable _ _ U V) ?_ ?_
                    · intro i hi o ho vs lo h w' hg hp
                      match i, hi with
                      | 0, _ =>
                        obtain rfl := Option.some.inj ho
                        clear ho
                        simp only [actsD, List.getD_cons_zero, List.getD_cons_succ, List.foldl_cons, List.foldl_nil, Act.put, List.setIfInBounds_toArray, List.set_cons_succ, List.set_cons_zero]
                        go_wp2
                        exact ⟨_, rfl, Grow.refl _, rfl⟩
                      | 1, _ =>
                        obtain rfl := Option.some.inj ho
                        clear ho
                        simp only [actsD, List.getD_cons_zero, List.getD_cons_succ, List.foldl_cons, List.foldl_nil, Act.put, List.setIfInBounds_toArray, List.set_cons_succ, List.set_cons_zero]
                        obtain ⟨_, _, _, h0⟩ := hp 0 (by simp)
                        simp only [OrdR4, List.getD_cons_zero, List.getD_cons_succ] at h0
                        rw [h0]
                        go_wp2_with fail
                        refine (join_any _ k _ U _ (HR1.out.below hg (Nat.le_refl _)) HOU.out HJ2.out hb2).mono ?_
                        rintro e w3 ⟨v, n, rfl, hrd, hb⟩
                        go_wp2
                        exact ⟨_, rfl, hb, _, hrd⟩
                      | 2, _ =>
                        obtain rfl := Option.some.inj ho
                        clear ho
                        simp only [actsD, List.getD_cons_zero, List.getD_cons_succ, List.foldl_cons, List.foldl_nil, Act.put, List.setIfInBounds_toArray, List.set_cons_succ, List.set_cons_zero]
                        obtain ⟨_, _, _, h1⟩ := hp 1 (by simp)
                        simp only [OrdR4, List.getD_cons_zero, List.getD_cons_succ] at h1
                        obtain ⟨n1, h1⟩ := h1
                        refine wpList_str_reads (.tmp 151) rfl rfl Try.underlying26 Try.underlying5 Try.underlying9 (join U) rfl h1 ?_
                        go_wp2
                        exact ⟨_, rfl, Grow.refl _, rfl⟩
                      | 3, _ =>
                        obtain rfl := Option.some.inj ho
                        clear ho
                        simp only [actsD, List.getD_cons_zero, List.getD_cons_succ, List.foldl_cons, List.foldl_nil, Act.put, List.setIfInBounds_toArray, List.set_cons_succ, List.set_cons_zero]
                        go_wp2
                        exact ⟨_, rfl, Grow.refl _, rfl⟩
                      | 4, _ =>
                        obtain rfl := Option.some.inj ho
                        clear ho
                        simp only [actsD, List.getD_cons_zero, List.getD_cons_succ, List.foldl_cons, List.foldl_nil, Act.put, List.setIfInBounds_toArray, List.set_cons_succ, List.set_cons_zero]
                        obtain ⟨_, _, _, h3⟩ := hp 3 (by simp)
                        simp only [OrdR4, List.getD_cons_zero, List.getD_cons_succ] at h3
                        rw [h3]
                        go_wp2_with fail
                        refine (join_any _ q _ V _ (HR2.out.below hg (Nat.le_refl _)) HOV.out HJ3.out hb3).mono ?_
                        rintro e w3 ⟨v, n, rfl, hrd, hb⟩
                        go_wp2
                        exact ⟨_, rfl, hb, _, hrd⟩
                      | 5, _ =>
                        obtain rfl := Option.some.inj ho
                        clear ho
                        simp only [actsD, List.getD_cons_zero, List.getD_cons_succ, List.foldl_cons, List.foldl_nil, Act.put, List.setIfInBounds_toArray, List.set_cons_succ, List.set_cons_zero]
                        obtain ⟨_, _, _, h4⟩ := hp 4 (by simp)
                        simp only [OrdR4, List.getD_cons_zero, List.getD_cons_succ] at h4
                        obtain ⟨n1, h1⟩ := h4
                        refine wpList_str_reads (.tmp 154) rfl rfl Try.underlying26 Try.underlying5 Try.underlying9 (join V) rfl h1 ?_
                        go_wp2
                        exact ⟨_, rfl, Grow.refl _, rfl⟩
                      | 6, _ =>
                        obtain rfl := Option.some.inj ho
                        clear ho
                        simp only [actsD, List.getD_cons_zero, List.getD_cons_succ, List.foldl_cons, List.foldl_nil, Act.put, List.setIfInBounds_toArray, List.set_cons_succ, List.set_cons_zero]
                        obtain ⟨_, _, _, h2⟩ := hp 2 (by simp)
                        simp only [OrdR4, List.getD_cons_zero, List.getD_cons_succ] at h2
                        rw [h2]
                        go_wp2
                        exact ⟨_, rfl, Grow.refl _, rfl⟩
                    · intro vs lo hi w5 hg hp hd
                      obtain ⟨_, _, _, h0⟩ := hp 0 (by omega)
                      obtain ⟨_, _, _, h2⟩ := hp 2 (by omega)
                      obtain ⟨_, _, _, h3⟩ := hp 3 (by omega)
                      obtain ⟨_, _, _, h5⟩ := hp 5 (by omega)
                      obtain ⟨_, _, _, h6⟩ := hp 6 (by omega)
                      simp only [OrdR4] at h0 h2 h3 h5 h6
                      have hr : List.range 7 = [0, 1, 2, 3, 4, 5, 6] := rfl
                      rw [hr]
                      simp only [List.drop_succ_cons, List.drop_zero, actsD, List.getD_cons_zero, List.getD_cons_succ, List.foldl_cons, List.foldl_nil, Act.put, List.setIfInBounds_toArray, List.set_cons_succ, List.set_cons_zero, h0, h2, h3, h5, h6]
                      clear hp hd h0 h2 h3 h5 h6
                      generalize vs 1 = v1
                      generalize vs 4 = v4
                      have hB5 : Below w.heap.size w w5 := hbn.trans (Below.mono hg hbn.size)
                      obtain ⟨J1, hJ1⟩ : ∃ P : ByteArray, ⟨(join U).toArray⟩ = P := ⟨_, rfl⟩
                      obtain ⟨J2, hJ2⟩ : ∃ P : ByteArray, ⟨(join V).toArray⟩ = P := ⟨_, rfl⟩
                      rw [hJ1, hJ2]
                      obtain ⟨G1, G2⟩ := K.join_facts U V HCU.out HCV.out J1 J2 hJ1 hJ2 _ HF.out
                      clear hJ1 hJ2 hg
                      go_wp2_with (go_at_call 10; refine (awake_any _).mono ?_; rintro e w6 ⟨rfl, hb6⟩)
                      all_goals go_ret
                      all_goals exact ⟨by simp [*], hB5.trans (hb6.mono hB5.size)⟩
                  · have HF : Hid (K.firstL U V = 1) := (FE2.out rfl).trans (by rw [if_neg (by omega), if_neg (by omega)])
                    have hkb : (((k : Nat) : Int) != ((q : Nat) : Int)) = true := by rw [bne_iff_ne]; omega
                    have hkb2 : decide (k < q) = false := by simp; omega
                    have hkb3 : decide (((k : Nat) : Int) < ((q : Nat) : Int)) = false := by simp; omega
                    clear hkq
                    go_upto_region 24 with (fail)
                    refine wp_region_partsD 7 [[], [0], [1], [], [3], [4], [2]] [some 150, some 151, some 152, some 153, some 154, some 155, some 20, some 21] (by kernel_rfl) (by kernel_rfl) rfl (OrdR4 (.slice bo k cb) (.slice vo q cv) U V) (OrdR4_stable _ _ U V) ?_ ?_
                    · intro i hi o ho vs lo h w' hg hp
                      match i, hi with
                      | 0, _ =>
                        obtain rfl := Option.some.inj ho
                        clear ho
                        simp only [actsD, List.getD_cons_zero, List.getD_cons_succ, List.foldl_cons, List.foldl_nil, Act.put, List.setIfInBounds_toArray, List.set_cons_succ, List.set_cons_zero]
                        go_wp2
                        exact ⟨_, rfl, Grow.refl _, rfl⟩
                      | 1, _ =>
                        obtain rfl := Option.some.inj ho
                        clear ho
                        simp only [actsD, List.getD_cons_zero, List.getD_cons_succ, List.foldl_cons, List.foldl_nil, Act.put, List.setIfInBounds_toArray, List.set_cons_succ, List.set_cons_zero]
                        obtain ⟨_, _, _, h0⟩ := hp 0 (by simp)
                        simp only [OrdR4, List.getD_cons_zero, List.getD_cons_succ] at h0
                        rw [h0]
                        go_wp2_with fail
                        refine (join_any _ k _ U _ (HR1.out.below hg (Nat.le_refl _)) HOU.out HJ2.out hb2).mono ?_
                        rintro e w3 ⟨v, n, rfl, hrd, hb⟩
                        go_wp2
                        exact ⟨_, rfl, hb, _, hrd⟩
                      | 2, _ =>
                        obtain rfl := Option.some.inj ho
                        clear ho
                        simp only [actsD, List.getD_cons_zero, List.getD_cons_succ, List.foldl_cons, List.foldl_nil, Act.put, List.setIfInBounds_toArray, List.set_cons_succ, List.set_cons_zero]
                        obtain ⟨_, _, _, h1⟩ := hp 1 (by simp)
                        simp only [OrdR4, List.getD_cons_zero, List.getD_cons_succ] at h1
                        obtain ⟨n1, h1⟩ := h1
                        refine wpList_str_reads (.tmp 151) rfl rfl Try.underlying26 Try.underlying5 Try.underlying9 (join U) rfl h1 ?_
                        go_wp2
                        exact ⟨_, rfl, Grow.refl _, rfl⟩
                      | 3, _ =>
                        obtain rfl := Option.some.inj ho
                        clear ho
                        simp only [actsD, List.getD_cons_zero, List.getD_cons_succ, List.foldl_cons, List.foldl_nil, Act.put, List.setIfInBounds_toArray, List.set_cons_succ, List.set_cons_zero]
                        go_wp2
                        exact ⟨_, rfl, Grow.refl _, rfl⟩
                      | 4, _ =>
                        obtain rfl := Option.some.inj ho
                        clear ho
                        simp only [actsD, List.getD_cons_zero, List.getD_cons_succ, List.foldl_cons, List.foldl_nil, Act.put, List.setIfInBounds_toArray, List.set_cons_succ, List.set_cons_zero]
                        obtain ⟨_, _, _, h3⟩ := hp 3 (by simp)
                        simp only [OrdR4, List.getD_cons_zero, List.getD_cons_succ] at h3
                        rw [h3]
                        go_wp2_with fail
                        refine (join_any _ q _ V _ (HR2.out.below hg (Nat.le_refl _)) HOV.out HJ3.out hb3).mono ?_
                        rintro e w3 ⟨v, n, rfl, hrd, hb⟩
                        go_wp2
                        exact ⟨_, rfl, hb, _, hrd⟩
                      | 5, _ =>
                        obtain rfl := Option.some.inj ho
                        clear ho
                        simp only [actsD, List.getD_cons_zero, List.getD_cons_succ, List.foldl_cons, List.foldl_nil, Act.put, List.setIfInBounds_toArray, List.set_cons_succ, List.set_cons_zero]
                        obtain ⟨_, _, _, h4⟩ := hp 4 (by simp)
                        simp only [OrdR4, List.getD_cons_zero, List.getD_cons_succ] at h4
                        obtain ⟨n1, h1⟩ := h4
                        refine wpList_str_reads (.tmp 154) rfl rfl Try.underlying26 Try.underlying5 Try.underlying9 (join V) rfl h1 ?_
                        go_wp2
                        exact ⟨_, rfl, Grow.refl _, rfl⟩
                      | 6, _ =>
                        obtain rfl := Option.some.inj ho
                        clear ho
                        simp only [actsD, List.getD_cons_zero, List.getD_cons_succ, List.foldl_cons, List.foldl_nil, Act.put, List.setIfInBounds_toArray, List.set_cons_succ, List.set_cons_zero]
                        obtain ⟨_, _, _, h2⟩ := hp 2 (by simp)
                        simp only [OrdR4, List.getD_cons_zero, List.getD_cons_succ] at h2
                        rw [h2]
                        go_wp2
                        exact ⟨_, rfl, Grow.refl _, rfl⟩
                    · intro vs lo hi w5 hg hp hd
                      obtain ⟨_, _, _, h0⟩ := hp 0 (by omega)
                      obtain ⟨_, _, _, h2⟩ := hp 2 (by omega)
                      obtain ⟨_, _, _, h3⟩ := hp 3 (by omega)
                      obtain ⟨_, _, _, h5⟩ := hp 5 (by omega)
                      obtain ⟨_, _, _, h6⟩ := hp 6 (by omega)
                      simp only [OrdR4] at h0 h2 h3 h5 h6
                      have hr : List.range 7 = [0, 1, 2, 3, 4, 5, 6] := rfl
                      rw [hr]
                      simp only [List.drop_succ_cons, List.drop_zero, actsD, List.getD_cons_zero, List.getD_cons_succ, List.foldl_cons, List.foldl_nil, Act.put, List.setIfInBounds_toArray, List.set_cons_succ, List.set_cons_zero, h0, h2, h3, h5, h6]
                      clear hp hd h0 h2 h3 h5 h6
                      generalize vs 1 = v1
                      generalize vs 4 = v4
                      have hB5 : Below w.heap.size w w5 := hbn.trans (Below.mono hg hbn.size)
                      obtain ⟨J1, hJ1⟩ : ∃ P : ByteArray, ⟨(join U).toArray⟩ = P := ⟨_, rfl⟩
                      obtain ⟨J2, hJ2⟩ : ∃ P : ByteArray, ⟨(join V).toArray⟩ = P := ⟨_, rfl⟩
                      rw [hJ1, hJ2]
                      obtain ⟨G1, G2⟩ := K.join_facts U V HCU.out HCV.out J1 J2 hJ1 hJ2 _ HF.out
                      clear hJ1 hJ2 hg
                      go_wp2_with (go_at_call 10; refine (awake_any _).mono ?_; rintro e w6 ⟨rfl, hb6⟩)
                      all_goals go_ret
                      all_goals exact ⟨by simp [*], hB5.trans (hb6.mono hB5.size)⟩
                · have HF : Hid (K.firstL U V = f) := FE1.out h0
                  have hfb : (f == 0) = false := by simp [h0]
                  go_upto_region 24 with (fail)
                  refine wp_region_partsD 7 [[], [0], [1], [], [3], [4], [2]] [some 150, some 151, some 152, some 153, some 154, some 155, some 20, some 21] (by kernel_rfl) (by kernel_rfl) rfl (OrdR4 (.slice bo k cb) (.slice vo q cv) U V) (OrdR4_stable _ _ U V) ?_ ?_
                  · intro i hi o ho vs lo h w' hg hp
                    match i, hi with
                    | 0, _ =>
                      obtain rfl := Option.some.inj ho
                      clear ho
                      simp only [actsD, List.getD_cons_zero, List.getD_cons_succ, List.foldl_cons, List.foldl_nil, Act.put, List.setIfInBounds_toArray, List.set_cons_succ, List.set_cons_zero]
                      go_wp2
                      exact ⟨_, rfl, Grow.refl _, rfl⟩
                    | 1, _ =>
                      obtain rfl := Option.some.inj ho
                      clear ho
                      simp only [actsD, List.getD_cons_zero, List.getD_cons_succ, List.foldl_cons, List.foldl_nil, Act.put, List.setIfInBounds_toArray, List.set_cons_succ, List.set_cons_zero]
                      obtain ⟨_, _, _, h0⟩ := hp 0 (by simp)
                      simp only [OrdR4, List.getD_cons_zero, List.getD_cons_succ] at h0
                      rw [h0]
                      go_wp2_with fail
                      refine (join_any _ k _ U _ (HR1.out.below hg (Nat.le_refl _)) HOU.out HJ2.out hb2).mono ?_
                      rintro e w3 ⟨v, n, rfl, hrd, hb⟩
                      go_wp2
                      exact ⟨_, rfl, hb, _, hrd⟩
                    | 2, _ =>
                      obtain rfl := Option.some.inj ho
                      clear ho
                      simp only [actsD, List.getD_cons_zero, List.getD_cons_succ, List.foldl_cons, List.foldl_nil, Act.put, List.setIfInBounds_toArray, List.set_cons_succ, List.set_cons_zero]
                      obtain ⟨_, _, _, h1⟩ := hp 1 (by simp)
                      simp only [OrdR4, List.getD_cons_zero, List.getD_cons_succ] at h1
                      obtain ⟨n1, h1⟩ := h1
                      refine wpList_str_reads (.tmp 151) rfl rfl Try.underlying26 Try.underlying5 Try.underlying9 (join U) rfl h1 ?_
                      go_wp2
                      exact ⟨_, rfl, Grow.refl _, rfl⟩
                    | 3, _ =>
                      obtain rfl := Option.some.inj ho
                      clear ho
                      simp only [actsD, List.getD_cons_zero, List.getD_cons_succ, List.foldl_cons, List.foldl_nil, Act.put, List.setIfInBounds_toArray, List.set_cons_succ, List.set_cons_zero]
                      go_wp2
                      exact ⟨_, rfl, Grow.refl _, rfl⟩
                    | 4, _ =>
                      obtain rfl := Option.some.inj ho
                      clear ho
                      simp only [actsD, List.getD_cons_zero, List.getD_cons_succ, List.foldl_cons, List.foldl_nil, Act.put, List.setIfInBounds_toArray, List.set_cons_succ, List.set_cons_zero]
                      obtain ⟨_, _, _, h3⟩ := hp 3 (by simp)
                      simp only [OrdR4, List.getD_cons_zero, List.getD_cons_succ] at h3
                      rw [h3]
                      go_wp2_with fail
                      refine (join_any _ q _ V _ (HR2.out.below hg (Nat.le_refl _)) HOV.out HJ3.out hb3).mono ?_
                      rintro e w3 ⟨v, n, rfl, hrd, hb⟩
                      go_wp2
                      exact ⟨_, rfl, hb, _, hrd⟩
                    | 5, _ =>
                      obtain rfl := Option.some.inj ho
                      clear ho
                      simp only [actsD, List.getD_cons_zero, List.getD_cons_succ, List.foldl_cons, List.foldl_nil, Act.put, List.setIfInBounds_toArray, List.set_cons_succ, List.set_cons_zero]
                      obtain ⟨_, _, _, h4⟩ := hp 4 (by simp)
                      simp only [OrdR4, List.getD_cons_zero, List.getD_cons_succ] at h4
                      obtain ⟨n1, h1⟩ := h4
                      refine wpList_str_reads (.tmp 154) rfl rfl Try.underlying26 Try.underlying5 Try.underlying9 (join V) rfl h1 ?_
                      go_wp2
                      exact ⟨_, rfl, Grow.refl _, rfl⟩
                    | 6, _ =>
                      obtain rfl := Option.some.inj ho
                      clear ho
                      simp only [actsD, List.getD_cons_zero, List.getD_cons_succ, List.foldl_cons, List.foldl_nil, Act.put, List.setIfInBounds_toArray, List.set_cons_succ, List.set_cons_zero]
                      obtain ⟨_, _, _, h2⟩ := hp 2 (by simp)
                      simp only [OrdR4, List.getD_cons_zero, List.getD_cons_succ] at h2
                      rw [h2]
                      go_wp2
                      exact ⟨_, rfl, Grow.refl _, rfl⟩
                  · intro vs lo hi w5 hg hp hd
                    obtain ⟨_, _, _, h0⟩ := hp 0 (by omega)
                    obtain ⟨_, _, _, h2⟩ := hp 2 (by omega)
                    obtain ⟨_, _, _, h3⟩ := hp 3 (by omega)
                    obtain ⟨_, _, _, h5⟩ := hp 5 (by omega)
                    obtain ⟨_, _, _, h6⟩ := hp 6 (by omega)
                    simp only [OrdR4] at h0 h2 h3 h5 h6
                    have hr : List.range 7 = [0, 1, 2, 3, 4, 5, 6] := rfl
                    rw [hr]
                    simp only [List.drop_succ_cons, List.drop_zero, actsD, List.getD_cons_zero, List.getD_cons_succ, List.foldl_cons, List.foldl_nil, Act.put, List.setIfInBounds_toArray, List.set_cons_succ, List.set_cons_zero, h0, h2, h3, h5, h6]
                    clear hp hd h0 h2 h3 h5 h6
                    generalize vs 1 = v1
                    generalize vs 4 = v4
                    have hB5 : Below w.heap.size w w5 := hbn.trans (Below.mono hg hbn.size)
                    obtain ⟨J1, hJ1⟩ : ∃ P : ByteArray, ⟨(join U).toArray⟩ = P := ⟨_, rfl⟩
                    obtain ⟨J2, hJ2⟩ : ∃ P : ByteArray, ⟨(join V).toArray⟩ = P := ⟨_, rfl⟩
                    rw [hJ1, hJ2]
                    obtain ⟨G1, G2⟩ := K.join_facts U V HCU.out HCV.out J1 J2 hJ1 hJ2 _ HF.out
                    clear hJ1 hJ2 hg
                    go_wp2_with (go_at_call 10; refine (awake_any _).mono ?_; rintro e w6 ⟨rfl, hb6⟩)
                    all_goals go_ret
                    all_goals exact ⟨by simp [*], hB5.trans (hb6.mono hB5.size)⟩
end Go.Proofs.Ytblpmbbodajjeaa

/- The walk of the law KeyCodes. Conditions: the lists, bytes and texts are short. -/
import Derived.Test.YtblpmbbodajjeaaKBack
import Derived.Test.YtblpmbbodajjeaaRCmp
import Derived.Test.YtblpmbbodajjeaaRJoin
import Derived.Test.YtblpmbbodajjeaaRSplit
namespace Go.Proofs.Ytblpmbbodajjeaa
set_option linter.unusedSimpArgs false
set_option linter.unusedVariables false
open Go.RowKit
open K (Val enc esc be8 cmpI cmpV clean txt txtAt un dec join cellsOf split)

theorem dec_shape (o : Option (Val × Nat)) : ∃ (d : Val) (sz : Nat) (t : Bool), decV o = .tuple #[.agg #[.int .i64 d.ty, .int .i64 d.num, .string d.txt, .bool d.tru], .int .i64 sz, .bool t] ∧
    gotV o = .agg #[.int .i64 d.ty, .int .i64 d.num, .string d.txt, .bool d.tru, .int .i64 sz, .bool t] := by
  cases o with
  | none => exact ⟨⟨0, 0, ⟨#[]⟩, false⟩, 0, false, rfl, rfl⟩
  | some p => exact ⟨p.1, p.2, true, rfl, rfl⟩

theorem split_len : ∀ (n : Nat) (L : List UInt8) (l : List Val), L.length ≤ n → split L = some l → l.length ≤ L.length := by
  intro n
  induction n with
  | zero =>
    intro L l hn h
    have : L = [] := List.eq_nil_of_length_eq_zero (by omega)
    subst this
    rw [K.split_nil] at h
    injection h with h
    subst h; simp
  | succ n ih =>
    intro L l hn h
    by_cases hL : L = []
    · subst hL
      rw [K.split_nil] at h
      injection h with h
      subst h; simp
    · cases hd : dec L with
      | none => rw [K.split_none L hL hd] at h; cases h
      | some p =>
        obtain ⟨h1, h2⟩ := K.dec_pos L p hd
        rw [K.split_some L p hd] at h
        cases hr : split (L.drop p.2) with
        | none => rw [hr] at h; cases h
        | some q =>
          rw [hr] at h
          simp only [Option.map_some, Option.some.injEq] at h
          have := ih (L.drop p.2) q (by simp; omega) hr
          subst h
          simp at this ⊢
          omega

theorem split_shape (L : List UInt8) (w : World) (e : Ending) (w' : World) (h : SplitEnd (split L) w e w') (hL : L.length ≤ 1099511627776) :
    ∃ ao n c, e = .returned (.tuple #[.slice ao n c, .bool (split L).isSome]) ∧ Reads 4 w' (.slice ao n c) n (cellsOf ((split L).getD [])) ∧ n = ((split L).getD []).length ∧ n ≤ 1099511627776 ∧ Below w.heap.size w w' := by
  obtain ⟨h, hb⟩ := h
  cases hs : split L with
  | none =>
    rw [hs] at h
    exact ⟨none, 0, 0, h, Reads.empty, rfl, by omega, hb⟩
  | some l =>
    rw [hs] at h
    obtain ⟨v, n, he, hr⟩ := h
    have hl := split_len _ L l (Nat.le_refl _) hs
    obtain ⟨ao, c, rfl, h1, h2, h3⟩ := hr
    rw [K.cellsOf_length] at h1
    exact ⟨ao, n, c, he, ⟨ao, c, rfl, by rw [K.cellsOf_length]; exact h1, h2, h3⟩, by simp; omega, by omega, hb⟩

/-- what the operations of the last line leave -/
def CodesPost (xa xl : List Value) (vals : List Value) (i : Nat) (v : Value) (lo hi : Nat) (w : World) : Prop :=
  match i with
  | 1 => ∃ n, Reads 1 w v n xa
  | 4 => ∃ n, Reads 1 w v n xa
  | 27 => ∃ n, Reads 1 w v n xl
  | 30 => ∃ n, Reads 1 w v n xl
  | j => v = vals.getD j undef

theorem CodesPost_stable (xa xl vals : List Value) : ∀ i v lo hi w w', CodesPost xa xl vals i v lo hi w → Grow w w' → CodesPost xa xl vals i v lo hi w' := by
  intro i v lo hi w w' h hg
  unfold CodesPost at *
  split at h <;> first | exact h | skip
  all_goals obtain ⟨n, h⟩ := h; exact ⟨n, h.below hg (Nat.le_refl _)⟩

/-- 'string(b)' of an operation that is wanted -/
theorem wpList_str_wanted {P : Program} {w : World} {ops : Array Oper} {rest : List Oper} {o : Oper} {a : Act} {Q : Exit → Act → World → Prop}
    {src dst e : TypeId} (x : Operand) (hw : Region.wanted o (yielded ops a.tmps) = true) (ho : o.op = .convert src dst x) (hs : P.underlying src = some (.slice e)) (he : P.underlying e = some (.int .u8)) (hd : P.underlying dst = some .string)
    {n : Nat} {v : Value} (l : List UInt8) (hx : a.eval x = v) (hr : Reads 1 w v n (l.map B)) (h : wpList P ops Q rest (a.put o.dst (.string ⟨l.toArray⟩)) w) : wpList P ops Q (o :: rest) a w := by
  refine wpList_step fun K hK => ?_
  rw [if_pos hw]
  have hrun : (convert src dst v).run P w = .ok (.string ⟨l.toArray⟩) w := by
    obtain ⟨ao, cap, rfl, hl, hc, hcells⟩ := hr
    have hn : n = l.length := by simpa using hl.symm
    match ao, hcells with
    | none, hcells =>
      have : l = [] := by
        rcases Nat.eq_zero_or_pos n with e | e
        · subst hn; exact List.eq_nil_of_length_eq_zero e
        · obtain ⟨_, _, h, _⟩ := hcells e; cases h
      subst this
      rw [run_convert_bytes_nil (P := P) w src e hs he n cap dst hd]; rfl
    | some ad, hcells =>
      subst hn
      refine run_convert_bytes_back w src dst e ad cap l hs he hd (fun j hj => ?_)
      obtain ⟨b, off, hb, hlt, hc⟩ := hcells (by omega)
      obtain rfl := Option.some.inj hb
      rw [Addr.add_lit]
      exact hc j (B l[j]) (by simp [hj])
  unfold Oper.wp
  simp [execOp, ho, hx, hrun, Result.andThen]
  exact hK _ _ h

set_option maxRecDepth 100000 in
set_option maxHeartbeats 6400000 in
theorem codes_any (a b : Val) (ao2 ao3 : Option Addr) (n2 c2 n3 c3 : Nat) (l : List Val) (X : List UInt8) (w : World) (hoka : a.ok) (hokb : b.ok) (hb2 : n2 ≤ 1099511627776) (hb3 : n3 ≤ 1099511627776)
    (hr2 : Reads 4 w (.slice ao2 n2 c2) n2 (cellsOf l)) (hr3 : Reads 1 w (.slice ao3 n3 c3) n3 (X.map B)) (hok2 : ∀ x ∈ l, x.ok) (hj2 : (join l).length ≤ 1099511627776) :
    Calls Try.prog 4 #[.agg #[.int .i64 a.ty, .int .i64 a.num, .string a.txt, .bool a.tru], .agg #[.int .i64 b.ty, .int .i64 b.num, .string b.txt, .bool b.tru], .slice ao2 n2 c2, .slice ao3 n3 c3] w fun e w' => e = .returned (.bool true) ∧ Below w.heap.size w w' := by
  have hlX : X.length = n3 := by obtain ⟨_, _, _, h, _⟩ := hr3; simpa using h
  have hX40 : X.length ≤ 1099511627776 := by omega
  have HX40 := Lib.hid hX40
  have HR2 := Lib.hid hr2
  have HR3 := Lib.hid hr3
  have HOK := Lib.hid hok2
  have HJ2 := Lib.hid hj2
  clear hr2 hr3 hok2 hj2 hlX hX40
  have hW0 : ∃ W0 : World, W0 = (w.alloc (.cells #[.int .i64 a.ty, .int .i64 a.num, .string a.txt, .bool a.tru] 23)).alloc (.cells #[.int .i64 b.ty, .int .i64 b.num, .string b.txt, .bool b.tru] 23) := ⟨_, rfl⟩
  go_enter Try.func4, Try.ntmps4
  go_wp2_with fail
  obtain ⟨W0, hW0⟩ := hW0
  have ra : W0.heap[w.heap.size]? = some (.cells #[.int .i64 a.ty, .int .i64 a.num, .string a.txt, .bool a.tru] 23) := by
    rw [hW0, Below.heap_alloc _ _ _ (by simp)]; exact heap_alloc_new _ _
  have rb : W0.heap[w.heap.size + 1]? = some (.cells #[.int .i64 b.ty, .int .i64 b.num, .string b.txt, .bool b.tru] 23) := by
    rw [hW0]
    have := heap_alloc_new (w.alloc (.cells #[.int .i64 a.ty, .int .i64 a.num, .string a.txt, .bool a.tru] 23)) (.cells #[.int .i64 b.ty, .int .i64 b.num, .string b.txt, .bool b.tru] 23)
    simpa using this
  have hs0 : W0.heap.size = w.heap.size + 2 := by rw [hW0]; simp
  have hB0 : Below w.heap.size w W0 := by rw [hW0]; exact ((Below.refl _ _).alloc (Nat.le_refl _) _).alloc (by simp) _
  rw [← hW0]
  clear hW0
  obtain ⟨d, sz, t, hd1, hd2⟩ := dec_shape (dec X)
  have HD2 := Lib.hid hd2
  refine (dec_reads ao3 n3 c3 X W0 hb3 (HR3.out.below hB0 (Nat.le_refl _))).mono ?_
  rintro e w1 ⟨rfl, hb1⟩
  rw [hd1]
  clear hd1 hd2
  have hs1 := hb1.size
  have hB1 : Below w.heap.size w w1 := hB0.trans (hb1.mono (by omega))
  have ra1 := (hb1.block w.heap.size (by omega)).trans ra
  have rb1 := (hb1.block (w.heap.size + 1) (by omega)).trans rb
  have hs0' := hB1.size
  have lt4 : w.heap.size < w1.heap.size := by omega
  have lt5 : w.heap.size + 1 < w1.heap.size := by omega
  clear ra rb hb1 hs1 hs0 hB0
  go_wp2_with fail
  obtain ⟨W1, hW1⟩ : ∃ W1 : World, W1 = w1.alloc (.cells #[.int .i64 d.ty, .int .i64 d.num, .string d.txt, .bool d.tru] 23) := ⟨_, rfl⟩
  have rd1 : W1.heap[w1.heap.size]? = some (.cells #[.int .i64 d.ty, .int .i64 d.num, .string d.txt, .bool d.tru] 23) := by rw [hW1]; exact heap_alloc_new _ _
  have ra2 : W1.heap[w.heap.size]? = some (.cells #[.int .i64 a.ty, .int .i64 a.num, .string a.txt, .bool a.tru] 23) := by rw [hW1, Below.heap_alloc _ _ _ lt4]; exact ra1
  have rb2 : W1.heap[w.heap.size + 1]? = some (.cells #[.int .i64 b.ty, .int .i64 b.num, .string b.txt, .bool b.tru] 23) := by rw [hW1, Below.heap_alloc _ _ _ lt5]; exact rb1
  have hs1 : W1.heap.size = w1.heap.size + 1 := by rw [hW1]; simp
  have hB2 : Below w.heap.size w W1 := by rw [hW1]; exact hB1.alloc hB1.size _
  rw [← hW1]
  clear hW1 ra1 rb1 hB1
  obtain ⟨g9, hg9⟩ : ∃ g, w1.heap.size = g := ⟨_, rfl⟩
  rw [hg9] at rd1 lt4 lt5 hs1 hs0' ⊢
  refine (rdec_reads ao3 n3 c3 X W1 hb3 (HR3.out.below hB2 (Nat.le_refl _))).mono ?_
  rintro e w2 ⟨rfl, hb2'⟩
  rw [HD2.out]
  clear HD2 hg9
  have hs2 := hb2'.size
  have hB3 : Below w.heap.size w w2 := hB2.trans (hb2'.mono (by omega))
  have ra3 := (hb2'.block w.heap.size (by omega)).trans ra2
  have rb3 := (hb2'.block (w.heap.size + 1) (by omega)).trans rb2
  have rd3 := (hb2'.block g9 (by omega)).trans rd1
  have lt9 : g9 < w2.heap.size := by omega
  clear ra2 rb2 rd1 hB2 hb2'
  go_wp2_with fail
  obtain ⟨W2, hW2⟩ : ∃ W2 : World, W2 = w2.alloc (.cells #[.int .i64 d.ty, .int .i64 d.num, .string d.txt, .bool d.tru, .int .i64 sz, .bool t] 35) := ⟨_, rfl⟩
  have re2 : W2.heap[w2.heap.size]? = some (.cells #[.int .i64 d.ty, .int .i64 d.num, .string d.txt, .bool d.tru, .int .i64 sz, .bool t] 35) := by rw [hW2]; exact heap_alloc_new _ _
  have ra4 : W2.heap[w.heap.size]? = some (.cells #[.int .i64 a.ty, .int .i64 a.num, .string a.txt, .bool a.tru] 23) := by rw [hW2, Below.heap_alloc _ _ _ (by omega)]; exact ra3
  have rb4 : W2.heap[w.heap.size + 1]? = some (.cells #[.int .i64 b.ty, .int .i64 b.num, .string b.txt, .bool b.tru] 23) := by rw [hW2, Below.heap_alloc _ _ _ (by omega)]; exact rb3
  have rd4 : W2.heap[g9]? = some (.cells #[.int .i64 d.ty, .int .i64 d.num, .string d.txt, .bool d.tru] 23) := by rw [hW2, Below.heap_alloc _ _ _ lt9]; exact rd3
  have hs3 : W2.heap.size = w2.heap.size + 1 := by rw [hW2]; simp
  have hB4 : Below w.heap.size w W2 := by rw [hW2]; exact hB3.alloc hB3.size _
  rw [← hW2]
  clear hW2 ra3 rb3 rd3 hB3
  obtain ⟨g12, hg12⟩ : ∃ g, w2.heap.size = g := ⟨_, rfl⟩
  rw [hg12] at re2 lt9 hs3 hs2 ⊢
  refine (split_any ao3 n3 c3 X W2 hb3 (HR3.out.below hB4 (Nat.le_refl _))).mono ?_
  rintro e w3 hse
  obtain ⟨aom, nm, cm, rfl, hrm, hnm, hnm2, hb3'⟩ := split_shape X W2 e w3 hse HX40.out
  clear hse hg12
  have hs4 := hb3'.size
  have hB5 : Below w.heap.size w w3 := hB4.trans (hb3'.mono (by omega))
  have ra5 := (hb3'.block w.heap.size (by omega)).trans ra4
  have rb5 := (hb3'.block (w.heap.size + 1) (by omega)).trans rb4
  have rd5 := (hb3'.block g9 (by omega)).trans rd4
  have re5 := (hb3'.block g12 (by omega)).trans re2
  clear ra4 rb4 rd4 re2 hB4 hb3'
  obtain ⟨Y, hY⟩ : ∃ Y, (split X).getD [] = Y := ⟨_, rfl⟩
  obtain ⟨u, hu⟩ : ∃ u, (split X).isSome = u := ⟨_, rfl⟩
  rw [hY] at hrm hnm
  rw [hu]
  have HU := Lib.hid hu
  have HY := Lib.hid hY
  have HRM := Lib.hid hrm
  have HNM := Lib.hid hnm
  clear hu hY hrm hnm
  go_wp2_with fail
  refine (rsplit_any ao3 n3 c3 X w3 hb3 (HR3.out.below hB5 (Nat.le_refl _))).mono ?_
  rintro e w4 hse
  obtain ⟨aow, nw, cw, rfl, hrw, hnw, hnw2, hb4'⟩ := split_shape X w3 e w4 hse HX40.out
  clear hse
  rw [HY.out] at hrw hnw
  rw [HU.out]
  have hs5 := hb4'.size
  have hB6 : Below w.heap.size w w4 := hB5.trans (hb4'.mono (by omega))
  have ra6 := (hb4'.block w.heap.size (by omega)).trans ra5
  have rb6 := (hb4'.block (w.heap.size + 1) (by omega)).trans rb5
  have rd6 := (hb4'.block g9 (by omega)).trans rd5
  have re6 := (hb4'.block g12 (by omega)).trans re5
  obtain rfl : nw = nm := by have := HNM.out; omega
  have HRM2 := Lib.hid (HRM.out.below hb4' (Nat.le_refl _))
  have HRW := Lib.hid hrw
  have l4 : w.heap.size < w4.heap.size := by omega
  have l5 : w.heap.size + 1 < w4.heap.size := by omega
  have l9 : g9 < w4.heap.size := by omega
  have l12 : g12 < w4.heap.size := by omega
  clear ra5 rb5 rd5 re5 hb4' hrw hnw HRM HNM HU HY HR3 HX40 hs0' hs1 hs2 hs3 hs4 hs5 lt4 lt5 lt9 hB5
  go_wp2_with fail
  obtain ⟨P, hP⟩ : ∃ P : ByteArray, ⟨(enc a).toArray⟩ = P := ⟨_, rfl⟩
  obtain ⟨J, hJ⟩ : ∃ P : ByteArray, ⟨(join l).toArray⟩ = P := ⟨_, rfl⟩
  obtain ⟨c, hc⟩ : ∃ c, cmpV ⟨a.ty, a.num, a.txt, a.tru⟩ ⟨b.ty, b.num, b.txt, b.tru⟩ = c := ⟨_, rfl⟩
  have HP := Lib.hid hP
  have HJ := Lib.hid hJ
  have HC := Lib.hid hc
  clear hP hJ hc
  obtain ⟨g4, hg4⟩ : ∃ g, w.heap.size = g := ⟨_, rfl⟩
  rw [hg4] at ra6 rb6 l4 l5 hB6 ⊢
  have HG4 := Lib.hid hg4
  clear hg4
  refine wp_region_partsD 56 [[], [0], [1], [], [3], [4], [2, 5], [6], [7], [7], [9, 7], [8, 10, 7], [7, 11], [12], [13], [13], [15, 13], [14, 16, 13], [13, 17], [18], [19], [19], [21, 19], [20, 22, 19], [19, 23], [24], [25], [26, 25], [27, 25], [25], [29, 25], [30, 25], [28, 31, 25], [25, 32], [33], [34], [34], [35, 36, 34], [34, 37], [38], [39], [39], [40, 41, 39], [39, 42], [43], [44], [44], [45, 46, 44], [44], [44], [48, 49, 44], [47, 50, 44], [44, 51], [52], [53], [53, 54]] [some 35, some 36, some 37, some 38, some 39, some 40, some 41, some 42, some 43, some 44, some 45, some 46, some 47, some 48, some 49, some 50, some 51, some 52, some 53, some 54, some 55, some 56, some 57, some 58, some 59, some 60, some 61, some 62, some 63, some 64, some 65, some 66, some 67, some 68, some 69, some 70, some 71, some 72, some 73, some 74, some 75, some 76, some 77, some 78, some 79, some 80, some 81, some 82, some 83, some 84, some 85, some 86, some 87, some 88, some 89, some 90, some 8] (by kernel_rfl) (by kernel_rfl) rfl (CodesPost ((enc a).map B) ((join l).map B) [.agg #[.int .i64 a.ty, .int .i64 a.num, .string a.txt, .bool a.tru], undef, .string P, .agg #[.int .i64 a.ty, .int .i64 a.num, .string a.txt, .bool a.tru], undef, .string P, .bool true, .bool true, .agg #[.int .i64 d.ty, .int .i64 d.num, .string d.txt, .bool d.tru], .pointer (some ⟨g12, 0, none⟩), .agg #[.int .i64 d.ty, .int .i64 d.num, .string d.txt, .bool d.tru], .bool true, .bool true, .bool true, .int .i64 sz, .pointer (some ⟨g12, 4, none⟩), .int .i64 sz, .bool true, .bool true, .bool true, .bool t, .pointer (some ⟨g12, 5, none⟩), .bool t, .bool true, .bool true, .bool true, .slice ao2 n2 c2, undef, .string J, .slice ao2 n2 c2, undef, .string J, .bool true, .bool true, .bool true, .slice aom nw cm, .slice aow nw cw, .bool true, .bool true, .bool true, .bool u, .bool u, .bool true, .bool true, .bool true, .agg #[.int .i64 a.ty, .int .i64 a.num, .string a.txt, .bool a.tru], .agg #[.int .i64 b.ty, .int .i64 b.num, .string b.txt, .bool b.tru], .int .i64 c, .agg #[.int .i64 a.ty, .int .i64 a.num, .string a.txt, .bool a.tru], .agg #[.int .i64 b.ty, .int .i64 b.num, .string b.txt, .bool b.tru], .int .i64 c, .bool true, .bool true, .bool true, .bool true, .bool true]) (CodesPost_stable _ _ _) ?_ ?_
  · intro i hi o ho vs lo h w' hg hp
    match i, hi with
    | 0, _ =>
      obtain rfl := Option.some.inj ho
      clear ho
      simp only [actsD, List.getD_cons_zero, List.getD_cons_succ, List.foldl_cons, List.foldl_nil, Act.put, List.setIfInBounds_toArray, List.set_cons_succ, List.set_cons_zero]
      have hca := cell_of_row' ((hg.block g4 l4).trans ra6)
      go_wp2
      exact ⟨_, rfl, Grow.refl _, rfl⟩
    | 1, _ =>
      obtain rfl := Option.some.inj ho
      clear ho
      simp only [actsD, List.getD_cons_zero, List.getD_cons_succ, List.foldl_cons, List.foldl_nil, Act.put, List.setIfInBounds_toArray, List.set_cons_succ, List.set_cons_zero]
      obtain ⟨_, _, _, h0⟩ := hp 0 (by simp)
      simp only [CodesPost, List.getD_cons_zero, List.getD_cons_succ] at h0
      rw [h0]
      go_wp2_with fail
      refine (enc_any a.ty a.num a.txt a.tru _ hoka.1 hoka.2.1 hoka.2.2).mono ?_
      rintro e wz ⟨g, n, c, rfl, hrow, hb⟩
      go_wp2
      exact ⟨_, rfl, hb, _, Reads.of_own hrow⟩
    | 2, _ =>
      obtain rfl := Option.some.inj ho
      clear ho
      simp only [actsD, List.getD_cons_zero, List.getD_cons_succ, List.foldl_cons, List.foldl_nil, Act.put, List.setIfInBounds_toArray, List.set_cons_succ, List.set_cons_zero]
      obtain ⟨_, _, _, h1⟩ := hp 1 (by simp)
      simp only [CodesPost, List.getD_cons_zero, List.getD_cons_succ] at h1
      obtain ⟨nr, hr⟩ := h1
      refine wpList_str_reads (.tmp 36) rfl rfl Try.underlying26 Try.underlying5 Try.underlying9 (enc a) rfl hr ?_
      rw [HP.out]
      go_wp2
      exact ⟨_, rfl, Grow.refl _, rfl⟩
    | 3, _ =>
      obtain rfl := Option.some.inj ho
      clear ho
      simp only [actsD, List.getD_cons_zero, List.getD_cons_succ, List.foldl_cons, List.foldl_nil, Act.put, List.setIfInBounds_toArray, List.set_cons_succ, List.set_cons_zero]
      have hca := cell_of_row' ((hg.block g4 l4).trans ra6)
      go_wp2
      exact ⟨_, rfl, Grow.refl _, rfl⟩
    | 4, _ =>
      obtain rfl := Option.some.inj ho
      clear ho
      simp only [actsD, List.getD_cons_zero, List.getD_cons_succ, List.foldl_cons, List.foldl_nil, Act.put, List.setIfInBounds_toArray, List.set_cons_succ, List.set_cons_zero]
      obtain ⟨_, _, _, h3⟩ := hp 3 (by simp)
      simp only [CodesPost, List.getD_cons_zero, List.getD_cons_succ] at h3
      rw [h3]
      go_wp2_with fail
      refine (renc_any a.ty a.num a.txt a.tru _ hoka.1 hoka.2.1 hoka.2.2).mono ?_
      rintro e wz ⟨g, n, c, rfl, hrow, hb⟩
      go_wp2
      exact ⟨_, rfl, hb, _, Reads.of_own hrow⟩
    | 5, _ =>
      obtain rfl := Option.some.inj ho
      clear ho
      simp only [actsD, List.getD_cons_zero, List.getD_cons_succ, List.foldl_cons, List.foldl_nil, Act.put, List.setIfInBounds_toArray, List.set_cons_succ, List.set_cons_zero]
      obtain ⟨_, _, _, h4⟩ := hp 4 (by simp)
      simp only [CodesPost, List.getD_cons_zero, List.getD_cons_succ] at h4
      obtain ⟨nr, hr⟩ := h4
      refine wpList_str_reads (.tmp 39) rfl rfl Try.underlying26 Try.underlying5 Try.underlying9 (enc a) rfl hr ?_
      rw [HP.out]
      go_wp2
      exact ⟨_, rfl, Grow.refl _, rfl⟩
    | 6, _ =>
      obtain rfl := Option.some.inj ho
      clear ho
      simp only [actsD, List.getD_cons_zero, List.getD_cons_succ, List.foldl_cons, List.foldl_nil, Act.put, List.setIfInBounds_toArray, List.set_cons_succ, List.set_cons_zero]
      obtain ⟨_, _, _, h2⟩ := hp 2 (by simp)
      simp only [CodesPost, List.getD_cons_zero, List.getD_cons_succ] at h2
      obtain ⟨_, _, _, h5⟩ := hp 5 (by simp)
      simp only [CodesPost, List.getD_cons_zero, List.getD_cons_succ] at h5
      rw [h2, h5]
      go_wp2
      exact ⟨_, rfl, Grow.refl _, rfl⟩
    | 7, _ =>
      obtain rfl := Option.some.inj ho
      clear ho
      simp only [actsD, List.getD_cons_zero, List.getD_cons_succ, List.foldl_cons, List.foldl_nil, Act.put, List.setIfInBounds_toArray, List.set_cons_succ, List.set_cons_zero]
      obtain ⟨_, _, _, h6⟩ := hp 6 (by simp)
      simp only [CodesPost, List.getD_cons_zero, List.getD_cons_succ] at h6
      rw [h6]
      go_wp2
      exact ⟨_, rfl, Grow.refl _, rfl⟩
    | 8, _ =>
      obtain rfl := Option.some.inj ho
      clear ho
      simp only [actsD, List.getD_cons_zero, List.getD_cons_succ, List.foldl_cons, List.foldl_nil, Act.put, List.setIfInBounds_toArray, List.set_cons_succ, List.set_cons_zero]
      obtain ⟨_, _, _, h7⟩ := hp 7 (by simp)
      simp only [CodesPost, List.getD_cons_zero, List.getD_cons_succ] at h7
      rw [h7]
      have hca := cell_of_row' ((hg.block g9 l9).trans rd6)
      go_wp2
      exact ⟨_, rfl, Grow.refl _, rfl⟩
    | 9, _ =>
      obtain rfl := Option.some.inj ho
      clear ho
      simp only [actsD, List.getD_cons_zero, List.getD_cons_succ, List.foldl_cons, List.foldl_nil, Act.put, List.setIfInBounds_toArray, List.set_cons_succ, List.set_cons_zero]
      obtain ⟨_, _, _, h7⟩ := hp 7 (by simp)
      simp only [CodesPost, List.getD_cons_zero, List.getD_cons_succ] at h7
      rw [h7]
      go_wp2
      exact ⟨_, rfl, Grow.refl _, rfl⟩
    | 10, _ =>
      obtain rfl := Option.some.inj ho
      clear ho
      simp only [actsD, List.getD_cons_zero, List.getD_cons_succ, List.foldl_cons, List.foldl_nil, Act.put, List.setIfInBounds_toArray, List.set_cons_succ, List.set_cons_zero]
      obtain ⟨_, _, _, h9⟩ := hp 9 (by simp)
      simp only [CodesPost, List.getD_cons_zero, List.getD_cons_succ] at h9
      obtain ⟨_, _, _, h7⟩ := hp 7 (by simp)
      simp only [CodesPost, List.getD_cons_zero, List.getD_cons_succ] at h7
      rw [h9, h7]
      have hca := cell_of_row' ((hg.block g12 l12).trans re6)
      go_wp2
      exact ⟨_, rfl, Grow.refl _, rfl⟩
    | 11, _ =>
      obtain rfl := Option.some.inj ho
      clear ho
      simp only [actsD, List.getD_cons_zero, List.getD_cons_succ, List.foldl_cons, List.foldl_nil, Act.put, List.setIfInBounds_toArray, List.set_cons_succ, List.set_cons_zero]
      obtain ⟨_, _, _, h8⟩ := hp 8 (by simp)
      simp only [CodesPost, List.getD_cons_zero, List.getD_cons_succ] at h8
      obtain ⟨_, _, _, h10⟩ := hp 10 (by simp)
      simp only [CodesPost, List.getD_cons_zero, List.getD_cons_succ] at h10
      obtain ⟨_, _, _, h7⟩ := hp 7 (by simp)
      simp only [CodesPost, List.getD_cons_zero, List.getD_cons_succ] at h7
      rw [h8, h10, h7]
      go_wp2
      exact ⟨_, rfl, Grow.refl _, rfl⟩
    | 12, _ =>
      obtain rfl := Option.some.inj ho
      clear ho
      simp only [actsD, List.getD_cons_zero, List.getD_cons_succ, List.foldl_cons, List.foldl_nil, Act.put, List.setIfInBounds_toArray, List.set_cons_succ, List.set_cons_zero]
      obtain ⟨_, _, _, h7⟩ := hp 7 (by simp)
      simp only [CodesPost, List.getD_cons_zero, List.getD_cons_succ] at h7
      obtain ⟨_, _, _, h11⟩ := hp 11 (by simp)
      simp only [CodesPost, List.getD_cons_zero, List.getD_cons_succ] at h11
      rw [h7, h11]
      go_wp2
      exact ⟨_, rfl, Grow.refl _, rfl⟩
    | 13, _ =>
      obtain rfl := Option.some.inj ho
      clear ho
      simp only [actsD, List.getD_cons_zero, List.getD_cons_succ, List.foldl_cons, List.foldl_nil, Act.put, List.setIfInBounds_toArray, List.set_cons_succ, List.set_cons_zero]
      obtain ⟨_, _, _, h12⟩ := hp 12 (by simp)
      simp only [CodesPost, List.getD_cons_zero, List.getD_cons_succ] at h12
      rw [h12]
      go_wp2
      exact ⟨_, rfl, Grow.refl _, rfl⟩
    | 14, _ =>
      obtain rfl := Option.some.inj ho
      clear ho
      simp only [actsD, List.getD_cons_zero, List.getD_cons_succ, List.foldl_cons, List.foldl_nil, Act.put, List.setIfInBounds_toArray, List.set_cons_succ, List.set_cons_zero]
      obtain ⟨_, _, _, h13⟩ := hp 13 (by simp)
      simp only [CodesPost, List.getD_cons_zero, List.getD_cons_succ] at h13
      rw [h13]
      go_wp2
      exact ⟨_, rfl, Grow.refl _, rfl⟩
    | 15, _ =>
      obtain rfl := Option.some.inj ho
      clear ho
      simp only [actsD, List.getD_cons_zero, List.getD_cons_succ, List.foldl_cons, List.foldl_nil, Act.put, List.setIfInBounds_toArray, List.set_cons_succ, List.set_cons_zero]
      obtain ⟨_, _, _, h13⟩ := hp 13 (by simp)
      simp only [CodesPost, List.getD_cons_zero, List.getD_cons_succ] at h13
      rw [h13]
      go_wp2
      exact ⟨_, rfl, Grow.refl _, rfl⟩
    | 16, _ =>
      obtain rfl := Option.some.inj ho
      clear ho
      simp only [actsD, List.getD_cons_zero, List.getD_cons_succ, List.foldl_cons, List.foldl_nil, Act.put, List.setIfInBounds_toArray, List.set_cons_succ, List.set_cons_zero]
      obtain ⟨_, _, _, h15⟩ := hp 15 (by simp)
      simp only [CodesPost, List.getD_cons_zero, List.getD_cons_succ] at h15
      obtain ⟨_, _, _, h13⟩ := hp 13 (by simp)
      simp only [CodesPost, List.getD_cons_zero, List.getD_cons_succ] at h13
      rw [h15, h13]
      have hca := cell_of_row' ((hg.block g12 l12).trans re6)
      go_wp2
      exact ⟨_, rfl, Grow.refl _, rfl⟩
    | 17, _ =>
      obtain rfl := Option.some.inj ho
      clear ho
      simp only [actsD, List.getD_cons_zero, List.getD_cons_succ, List.foldl_cons, List.foldl_nil, Act.put, List.setIfInBounds_toArray, List.set_cons_succ, List.set_cons_zero]
      obtain ⟨_, _, _, h14⟩ := hp 14 (by simp)
      simp only [CodesPost, List.getD_cons_zero, List.getD_cons_succ] at h14
      obtain ⟨_, _, _, h16⟩ := hp 16 (by simp)
      simp only [CodesPost, List.getD_cons_zero, List.getD_cons_succ] at h16
      obtain ⟨_, _, _, h13⟩ := hp 13 (by simp)
      simp only [CodesPost, List.getD_cons_zero, List.getD_cons_succ] at h13
      rw [h14, h16, h13]
      go_wp2
      exact ⟨_, rfl, Grow.refl _, rfl⟩
    | 18, _ =>
      obtain rfl := Option.some.inj ho
      clear ho
      simp only [actsD, List.getD_cons_zero, List.getD_cons_succ, List.foldl_cons, List.foldl_nil, Act.put, List.setIfInBounds_toArray, List.set_cons_succ, List.set_cons_zero]
      obtain ⟨_, _, _, h13⟩ := hp 13 (by simp)
      simp only [CodesPost, List.getD_cons_zero, List.getD_cons_succ] at h13
      obtain ⟨_, _, _, h17⟩ := hp 17 (by simp)
      simp only [CodesPost, List.getD_cons_zero, List.getD_cons_succ] at h17
      rw [h13, h17]
      go_wp2
      exact ⟨_, rfl, Grow.refl _, rfl⟩
    | 19, _ =>
      obtain rfl := Option.some.inj ho
      clear ho
      simp only [actsD, List.getD_cons_zero, List.getD_cons_succ, List.foldl_cons, List.foldl_nil, Act.put, List.setIfInBounds_toArray, List.set_cons_succ, List.set_cons_zero]
      obtain ⟨_, _, _, h18⟩ := hp 18 (by simp)
      simp only [CodesPost, List.getD_cons_zero, List.getD_cons_succ] at h18
      rw [h18]
      go_wp2
      exact ⟨_, rfl, Grow.refl _, rfl⟩
    | 20, _ =>
      obtain rfl := Option.some.inj ho
      clear ho
      simp only [actsD, List.getD_cons_zero, List.getD_cons_succ, List.foldl_cons, List.foldl_nil, Act.put, List.setIfInBounds_toArray, List.set_cons_succ, List.set_cons_zero]
      obtain ⟨_, _, _, h19⟩ := hp 19 (by simp)
      simp only [CodesPost, List.getD_cons_zero, List.getD_cons_succ] at h19
      rw [h19]
      go_wp2
      exact ⟨_, rfl, Grow.refl _, rfl⟩
    | 21, _ =>
      obtain rfl := Option.some.inj ho
      clear ho
      simp only [actsD, List.getD_cons_zero, List.getD_cons_succ, List.foldl_cons, List.foldl_nil, Act.put, List.setIfInBounds_toArray, List.set_cons_succ, List.set_cons_zero]
      obtain ⟨_, _, _, h19⟩ := hp 19 (by simp)
      simp only [CodesPost, List.getD_cons_zero, List.getD_cons_succ] at h19
      rw [h19]
      go_wp2
      exact ⟨_, rfl, Grow.refl _, rfl⟩
    | 22, _ =>
      obtain rfl := Option.some.inj ho
      clear ho
      simp only [actsD, List.getD_cons_zero, List.getD_cons_succ, List.foldl_cons, List.foldl_nil, Act.put, List.setIfInBounds_toArray, List.set_cons_succ, List.set_cons_zero]
      obtain ⟨_, _, _, h21⟩ := hp 21 (by simp)
      simp only [CodesPost, List.getD_cons_zero, List.getD_cons_succ] at h21
      obtain ⟨_, _, _, h19⟩ := hp 19 (by simp)
      simp only [CodesPost, List.getD_cons_zero, List.getD_cons_succ] at h19
      rw [h21, h19]
      have hca := cell_of_row' ((hg.block g12 l12).trans re6)
      go_wp2
      exact ⟨_, rfl, Grow.refl _, rfl⟩
    | 23, _ =>
      obtain rfl := Option.some.inj ho
      clear ho
      simp only [actsD, List.getD_cons_zero, List.getD_cons_succ, List.foldl_cons, List.foldl_nil, Act.put, List.setIfInBounds_toArray, List.set_cons_succ, List.set_cons_zero]
      obtain ⟨_, _, _, h20⟩ := hp 20 (by simp)
      simp only [CodesPost, List.getD_cons_zero, List.getD_cons_succ] at h20
      obtain ⟨_, _, _, h22⟩ := hp 22 (by simp)
      simp only [CodesPost, List.getD_cons_zero, List.getD_cons_succ] at h22
      obtain ⟨_, _, _, h19⟩ := hp 19 (by simp)
      simp only [CodesPost, List.getD_cons_zero, List.getD_cons_succ] at h19
      rw [h20, h22, h19]
      go_wp2
      exact ⟨_, rfl, Grow.refl _, rfl⟩
    | 24, _ =>
      obtain rfl := Option.some.inj ho
      clear ho
      simp only [actsD, List.getD_cons_zero, List.getD_cons_succ, List.foldl_cons, List.foldl_nil, Act.put, List.setIfInBounds_toArray, List.set_cons_succ, List.set_cons_zero]
      obtain ⟨_, _, _, h19⟩ := hp 19 (by simp)
      simp only [CodesPost, List.getD_cons_zero, List.getD_cons_succ] at h19
      obtain ⟨_, _, _, h23⟩ := hp 23 (by simp)
      simp only [CodesPost, List.getD_cons_zero, List.getD_cons_succ] at h23
      rw [h19, h23]
      go_wp2
      exact ⟨_, rfl, Grow.refl _, rfl⟩
    | 25, _ =>
      obtain rfl := Option.some.inj ho
      clear ho
      simp only [actsD, List.getD_cons_zero, List.getD_cons_succ, List.foldl_cons, List.foldl_nil, Act.put, List.setIfInBounds_toArray, List.set_cons_succ, List.set_cons_zero]
      obtain ⟨_, _, _, h24⟩ := hp 24 (by simp)
      simp only [CodesPost, List.getD_cons_zero, List.getD_cons_succ] at h24
      rw [h24]
      go_wp2
      exact ⟨_, rfl, Grow.refl _, rfl⟩
    | 26, _ =>
      obtain rfl := Option.some.inj ho
      clear ho
      simp only [actsD, List.getD_cons_zero, List.getD_cons_succ, List.foldl_cons, List.foldl_nil, Act.put, List.setIfInBounds_toArray, List.set_cons_succ, List.set_cons_zero]
      obtain ⟨_, _, _, h25⟩ := hp 25 (by simp)
      simp only [CodesPost, List.getD_cons_zero, List.getD_cons_succ] at h25
      rw [h25]
      go_wp2
      exact ⟨_, rfl, Grow.refl _, rfl⟩
    | 27, _ =>
      obtain rfl := Option.some.inj ho
      clear ho
      simp only [actsD, List.getD_cons_zero, List.getD_cons_succ, List.foldl_cons, List.foldl_nil, Act.put, List.setIfInBounds_toArray, List.set_cons_succ, List.set_cons_zero]
      obtain ⟨_, _, _, h26⟩ := hp 26 (by simp)
      simp only [CodesPost, List.getD_cons_zero, List.getD_cons_succ] at h26
      obtain ⟨_, _, _, h25⟩ := hp 25 (by simp)
      simp only [CodesPost, List.getD_cons_zero, List.getD_cons_succ] at h25
      rw [h26, h25]
      go_wp2_with fail
      refine (join_any ao2 n2 c2 l _ (HR2.out.below (hB6.trans (Below.mono hg (Nat.le_of_lt l4))) (Nat.le_of_eq HG4.out)) HOK.out HJ2.out hb2).mono ?_
      rintro e wz ⟨v, n, rfl, hrd, hb⟩
      go_wp2
      exact ⟨_, rfl, hb, _, hrd⟩
    | 28, _ =>
      obtain rfl := Option.some.inj ho
      clear ho
      simp only [actsD, List.getD_cons_zero, List.getD_cons_succ, List.foldl_cons, List.foldl_nil, Act.put, List.setIfInBounds_toArray, List.set_cons_succ, List.set_cons_zero]
      obtain ⟨_, _, _, h27⟩ := hp 27 (by simp)
      simp only [CodesPost, List.getD_cons_zero, List.getD_cons_succ] at h27
      obtain ⟨_, _, _, h25⟩ := hp 25 (by simp)
      simp only [CodesPost, List.getD_cons_zero, List.getD_cons_succ] at h25
      rw [h25]
      obtain ⟨nr, hr⟩ := h27
      refine wpList_str_wanted (.tmp 62) (by rfl) rfl Try.underlying26 Try.underlying5 Try.underlying9 (join l) rfl hr ?_
      rw [HJ.out]
      go_wp2
      exact ⟨_, rfl, Grow.refl _, rfl⟩
    | 29, _ =>
      obtain rfl := Option.some.inj ho
      clear ho
      simp only [actsD, List.getD_cons_zero, List.getD_cons_succ, List.foldl_cons, List.foldl_nil, Act.put, List.setIfInBounds_toArray, List.set_cons_succ, List.set_cons_zero]
      obtain ⟨_, _, _, h25⟩ := hp 25 (by simp)
      simp only [CodesPost, List.getD_cons_zero, List.getD_cons_succ] at h25
      rw [h25]
      go_wp2
      exact ⟨_, rfl, Grow.refl _, rfl⟩
    | 30, _ =>
      obtain rfl := Option.some.inj ho
      clear ho
      simp only [actsD, List.getD_cons_zero, List.getD_cons_succ, List.foldl_cons, List.foldl_nil, Act.put, List.setIfInBounds_toArray, List.set_cons_succ, List.set_cons_zero]
      obtain ⟨_, _, _, h29⟩ := hp 29 (by simp)
      simp only [CodesPost, List.getD_cons_zero, List.getD_cons_succ] at h29
      obtain ⟨_, _, _, h25⟩ := hp 25 (by simp)
      simp only [CodesPost, List.getD_cons_zero, List.getD_cons_succ] at h25
      rw [h29, h25]
      go_wp2_with fail
      refine (rjoin_any ao2 n2 c2 l _ (HR2.out.below (hB6.trans (Below.mono hg (Nat.le_of_lt l4))) (Nat.le_of_eq HG4.out)) HOK.out HJ2.out hb2).mono ?_
      rintro e wz ⟨v, n, rfl, hrd, hb⟩
      go_wp2
      exact ⟨_, rfl, hb, _, hrd⟩
    | 31, _ =>
      obtain rfl := Option.some.inj ho
      clear ho
      simp only [actsD, List.getD_cons_zero, List.getD_cons_succ, List.foldl_cons, List.foldl_nil, Act.put, List.setIfInBounds_toArray, List.set_cons_succ, List.set_cons_zero]
      obtain ⟨_, _, _, h30⟩ := hp 30 (by simp)
      simp only [CodesPost, List.getD_cons_zero, List.getD_cons_succ] at h30
      obtain ⟨_, _, _, h25⟩ := hp 25 (by simp)
      simp only [CodesPost, List.getD_cons_zero, List.getD_cons_succ] at h25
      rw [h25]
      obtain ⟨nr, hr⟩ := h30
      refine wpList_str_wanted (.tmp 65) (by rfl) rfl Try.underlying26 Try.underlying5 Try.underlying9 (join l) rfl hr ?_
      rw [HJ.out]
      go_wp2
      exact ⟨_, rfl, Grow.refl _, rfl⟩
    | 32, _ =>
      obtain rfl := Option.some.inj ho
      clear ho
      simp only [actsD, List.getD_cons_zero, List.getD_cons_succ, List.foldl_cons, List.foldl_nil, Act.put, List.setIfInBounds_toArray, List.set_cons_succ, List.set_cons_zero]
      obtain ⟨_, _, _, h28⟩ := hp 28 (by simp)
      simp only [CodesPost, List.getD_cons_zero, List.getD_cons_succ] at h28
      obtain ⟨_, _, _, h31⟩ := hp 31 (by simp)
      simp only [CodesPost, List.getD_cons_zero, List.getD_cons_succ] at h31
      obtain ⟨_, _, _, h25⟩ := hp 25 (by simp)
      simp only [CodesPost, List.getD_cons_zero, List.getD_cons_succ] at h25
      rw [h28, h31, h25]
      go_wp2
      exact ⟨_, rfl, Grow.refl _, rfl⟩
    | 33, _ =>
      obtain rfl := Option.some.inj ho
      clear ho
      simp only [actsD, List.getD_cons_zero, List.getD_cons_succ, List.foldl_cons, List.foldl_nil, Act.put, List.setIfInBounds_toArray, List.set_cons_succ, List.set_cons_zero]
      obtain ⟨_, _, _, h25⟩ := hp 25 (by simp)
      simp only [CodesPost, List.getD_cons_zero, List.getD_cons_succ] at h25
      obtain ⟨_, _, _, h32⟩ := hp 32 (by simp)
      simp only [CodesPost, List.getD_cons_zero, List.getD_cons_succ] at h32
      rw [h25, h32]
      go_wp2
      exact ⟨_, rfl, Grow.refl _, rfl⟩
    | 34, _ =>
      obtain rfl := Option.some.inj ho
      clear ho
      simp only [actsD, List.getD_cons_zero, List.getD_cons_succ, List.foldl_cons, List.foldl_nil, Act.put, List.setIfInBounds_toArray, List.set_cons_succ, List.set_cons_zero]
      obtain ⟨_, _, _, h33⟩ := hp 33 (by simp)
      simp only [CodesPost, List.getD_cons_zero, List.getD_cons_succ] at h33
      rw [h33]
      go_wp2
      exact ⟨_, rfl, Grow.refl _, rfl⟩
    | 35, _ =>
      obtain rfl := Option.some.inj ho
      clear ho
      simp only [actsD, List.getD_cons_zero, List.getD_cons_succ, List.foldl_cons, List.foldl_nil, Act.put, List.setIfInBounds_toArray, List.set_cons_succ, List.set_cons_zero]
      obtain ⟨_, _, _, h34⟩ := hp 34 (by simp)
      simp only [CodesPost, List.getD_cons_zero, List.getD_cons_succ] at h34
      rw [h34]
      go_wp2
      exact ⟨_, rfl, Grow.refl _, rfl⟩
    | 36, _ =>
      obtain rfl := Option.some.inj ho
      clear ho
      simp only [actsD, List.getD_cons_zero, List.getD_cons_succ, List.foldl_cons, List.foldl_nil, Act.put, List.setIfInBounds_toArray, List.set_cons_succ, List.set_cons_zero]
      obtain ⟨_, _, _, h34⟩ := hp 34 (by simp)
      simp only [CodesPost, List.getD_cons_zero, List.getD_cons_succ] at h34
      rw [h34]
      go_wp2
      exact ⟨_, rfl, Grow.refl _, rfl⟩
    | 37, _ =>
      obtain rfl := Option.some.inj ho
      clear ho
      simp only [actsD, List.getD_cons_zero, List.getD_cons_succ, List.foldl_cons, List.foldl_nil, Act.put, List.setIfInBounds_toArray, List.set_cons_succ, List.set_cons_zero]
      obtain ⟨_, _, _, h35⟩ := hp 35 (by simp)
      simp only [CodesPost, List.getD_cons_zero, List.getD_cons_succ] at h35
      obtain ⟨_, _, _, h36⟩ := hp 36 (by simp)
      simp only [CodesPost, List.getD_cons_zero, List.getD_cons_succ] at h36
      obtain ⟨_, _, _, h34⟩ := hp 34 (by simp)
      simp only [CodesPost, List.getD_cons_zero, List.getD_cons_succ] at h34
      rw [h35, h36, h34]
      go_wp2_with fail
      refine (same_any aom aow nw cm cw Y _ hnw2 (HRM2.out.below hg (Nat.le_refl _)) (HRW.out.below hg (Nat.le_refl _))).mono ?_
      rintro e wz ⟨rfl, hb⟩
      go_wp2
      exact ⟨_, rfl, hb, rfl⟩
    | 38, _ =>
      obtain rfl := Option.some.inj ho
      clear ho
      simp only [actsD, List.getD_cons_zero, List.getD_cons_succ, List.foldl_cons, List.foldl_nil, Act.put, List.setIfInBounds_toArray, List.set_cons_succ, List.set_cons_zero]
      obtain ⟨_, _, _, h34⟩ := hp 34 (by simp)
      simp only [CodesPost, List.getD_cons_zero, List.getD_cons_succ] at h34
      obtain ⟨_, _, _, h37⟩ := hp 37 (by simp)
      simp only [CodesPost, List.getD_cons_zero, List.getD_cons_succ] at h37
      rw [h34, h37]
      go_wp2
      exact ⟨_, rfl, Grow.refl _, rfl⟩
    | 39, _ =>
      obtain rfl := Option.some.inj ho
      clear ho
      simp only [actsD, List.getD_cons_zero, List.getD_cons_succ, List.foldl_cons, List.foldl_nil, Act.put, List.setIfInBounds_toArray, List.set_cons_succ, List.set_cons_zero]
      obtain ⟨_, _, _, h38⟩ := hp 38 (by simp)
      simp only [CodesPost, List.getD_cons_zero, List.getD_cons_succ] at h38
      rw [h38]
      go_wp2
      exact ⟨_, rfl, Grow.refl _, rfl⟩
    | 40, _ =>
      obtain rfl := Option.some.inj ho
      clear ho
      simp only [actsD, List.getD_cons_zero, List.getD_cons_succ, List.foldl_cons, List.foldl_nil, Act.put, List.setIfInBounds_toArray, List.set_cons_succ, List.set_cons_zero]
      obtain ⟨_, _, _, h39⟩ := hp 39 (by simp)
      simp only [CodesPost, List.getD_cons_zero, List.getD_cons_succ] at h39
      rw [h39]
      go_wp2
      exact ⟨_, rfl, Grow.refl _, rfl⟩
    | 41, _ =>
      obtain rfl := Option.some.inj ho
      clear ho
      simp only [actsD, List.getD_cons_zero, List.getD_cons_succ, List.foldl_cons, List.foldl_nil, Act.put, List.setIfInBounds_toArray, List.set_cons_succ, List.set_cons_zero]
      obtain ⟨_, _, _, h39⟩ := hp 39 (by simp)
      simp only [CodesPost, List.getD_cons_zero, List.getD_cons_succ] at h39
      rw [h39]
      go_wp2
      exact ⟨_, rfl, Grow.refl _, rfl⟩
    | 42, _ =>
      obtain rfl := Option.some.inj ho
      clear ho
      simp only [actsD, List.getD_cons_zero, List.getD_cons_succ, List.foldl_cons, List.foldl_nil, Act.put, List.setIfInBounds_toArray, List.set_cons_succ, List.set_cons_zero]
      obtain ⟨_, _, _, h40⟩ := hp 40 (by simp)
      simp only [CodesPost, List.getD_cons_zero, List.getD_cons_succ] at h40
      obtain ⟨_, _, _, h41⟩ := hp 41 (by simp)
      simp only [CodesPost, List.getD_cons_zero, List.getD_cons_succ] at h41
      obtain ⟨_, _, _, h39⟩ := hp 39 (by simp)
      simp only [CodesPost, List.getD_cons_zero, List.getD_cons_succ] at h39
      rw [h40, h41, h39]
      go_wp2
      exact ⟨_, rfl, Grow.refl _, rfl⟩
    | 43, _ =>
      obtain rfl := Option.some.inj ho
      clear ho
      simp only [actsD, List.getD_cons_zero, List.getD_cons_succ, List.foldl_cons, List.foldl_nil, Act.put, List.setIfInBounds_toArray, List.set_cons_succ, List.set_cons_zero]
      obtain ⟨_, _, _, h39⟩ := hp 39 (by simp)
      simp only [CodesPost, List.getD_cons_zero, List.getD_cons_succ] at h39
      obtain ⟨_, _, _, h42⟩ := hp 42 (by simp)
      simp only [CodesPost, List.getD_cons_zero, List.getD_cons_succ] at h42
      rw [h39, h42]
      go_wp2
      exact ⟨_, rfl, Grow.refl _, rfl⟩
    | 44, _ =>
      obtain rfl := Option.some.inj ho
      clear ho
      simp only [actsD, List.getD_cons_zero, List.getD_cons_succ, List.foldl_cons, List.foldl_nil, Act.put, List.setIfInBounds_toArray, List.set_cons_succ, List.set_cons_zero]
      obtain ⟨_, _, _, h43⟩ := hp 43 (by simp)
      simp only [CodesPost, List.getD_cons_zero, List.getD_cons_succ] at h43
      rw [h43]
      go_wp2
      exact ⟨_, rfl, Grow.refl _, rfl⟩
    | 45, _ =>
      obtain rfl := Option.some.inj ho
      clear ho
      simp only [actsD, List.getD_cons_zero, List.getD_cons_succ, List.foldl_cons, List.foldl_nil, Act.put, List.setIfInBounds_toArray, List.set_cons_succ, List.set_cons_zero]
      obtain ⟨_, _, _, h44⟩ := hp 44 (by simp)
      simp only [CodesPost, List.getD_cons_zero, List.getD_cons_succ] at h44
      rw [h44]
      have hca := cell_of_row' ((hg.block g4 l4).trans ra6)
      go_wp2
      exact ⟨_, rfl, Grow.refl _, rfl⟩
    | 46, _ =>
      obtain rfl := Option.some.inj ho
      clear ho
      simp only [actsD, List.getD_cons_zero, List.getD_cons_succ, List.foldl_cons, List.foldl_nil, Act.put, List.setIfInBounds_toArray, List.set_cons_succ, List.set_cons_zero]
      obtain ⟨_, _, _, h44⟩ := hp 44 (by simp)
      simp only [CodesPost, List.getD_cons_zero, List.getD_cons_succ] at h44
      rw [h44]
      have hca := cell_of_row' ((hg.block (g4 + 1) l5).trans rb6)
      go_wp2
      exact ⟨_, rfl, Grow.refl _, rfl⟩
    | 47, _ =>
      obtain rfl := Option.some.inj ho
      clear ho
      simp only [actsD, List.getD_cons_zero, List.getD_cons_succ, List.foldl_cons, List.foldl_nil, Act.put, List.setIfInBounds_toArray, List.set_cons_succ, List.set_cons_zero]
      obtain ⟨_, _, _, h45⟩ := hp 45 (by simp)
      simp only [CodesPost, List.getD_cons_zero, List.getD_cons_succ] at h45
      obtain ⟨_, _, _, h46⟩ := hp 46 (by simp)
      simp only [CodesPost, List.getD_cons_zero, List.getD_cons_succ] at h46
      obtain ⟨_, _, _, h44⟩ := hp 44 (by simp)
      simp only [CodesPost, List.getD_cons_zero, List.getD_cons_succ] at h44
      rw [h45, h46, h44]
      go_wp2_with fail
      refine (compare_any a.ty a.num a.txt a.tru b.ty b.num b.txt b.tru _).mono ?_
      rintro e wz ⟨rfl, hb⟩
      rw [HC.out]
      go_wp2
      exact ⟨_, rfl, hb, rfl⟩
    | 48, _ =>
      obtain rfl := Option.some.inj ho
      clear ho
      simp only [actsD, List.getD_cons_zero, List.getD_cons_succ, List.foldl_cons, List.foldl_nil, Act.put, List.setIfInBounds_toArray, List.set_cons_succ, List.set_cons_zero]
      obtain ⟨_, _, _, h44⟩ := hp 44 (by simp)
      simp only [CodesPost, List.getD_cons_zero, List.getD_cons_succ] at h44
      rw [h44]
      have hca := cell_of_row' ((hg.block g4 l4).trans ra6)
      go_wp2
      exact ⟨_, rfl, Grow.refl _, rfl⟩
    | 49, _ =>
      obtain rfl := Option.some.inj ho
      clear ho
      simp only [actsD, List.getD_cons_zero, List.getD_cons_succ, List.foldl_cons, List.foldl_nil, Act.put, List.setIfInBounds_toArray, List.set_cons_succ, List.set_cons_zero]
      obtain ⟨_, _, _, h44⟩ := hp 44 (by simp)
      simp only [CodesPost, List.getD_cons_zero, List.getD_cons_succ] at h44
      rw [h44]
      have hca := cell_of_row' ((hg.block (g4 + 1) l5).trans rb6)
      go_wp2
      exact ⟨_, rfl, Grow.refl _, rfl⟩
    | 50, _ =>
      obtain rfl := Option.some.inj ho
      clear ho
      simp only [actsD, List.getD_cons_zero, List.getD_cons_succ, List.foldl_cons, List.foldl_nil, Act.put, List.setIfInBounds_toArray, List.set_cons_succ, List.set_cons_zero]
      obtain ⟨_, _, _, h48⟩ := hp 48 (by simp)
      simp only [CodesPost, List.getD_cons_zero, List.getD_cons_succ] at h48
      obtain ⟨_, _, _, h49⟩ := hp 49 (by simp)
      simp only [CodesPost, List.getD_cons_zero, List.getD_cons_succ] at h49
      obtain ⟨_, _, _, h44⟩ := hp 44 (by simp)
      simp only [CodesPost, List.getD_cons_zero, List.getD_cons_succ] at h44
      rw [h48, h49, h44]
      go_wp2_with fail
      refine (refcompare_any a.ty a.num a.txt a.tru b.ty b.num b.txt b.tru _).mono ?_
      rintro e wz ⟨rfl, hb⟩
      rw [HC.out]
      go_wp2
      exact ⟨_, rfl, hb, rfl⟩
    | 51, _ =>
      obtain rfl := Option.some.inj ho
      clear ho
      simp only [actsD, List.getD_cons_zero, List.getD_cons_succ, List.foldl_cons, List.foldl_nil, Act.put, List.setIfInBounds_toArray, List.set_cons_succ, List.set_cons_zero]
      obtain ⟨_, _, _, h47⟩ := hp 47 (by simp)
      simp only [CodesPost, List.getD_cons_zero, List.getD_cons_succ] at h47
      obtain ⟨_, _, _, h50⟩ := hp 50 (by simp)
      simp only [CodesPost, List.getD_cons_zero, List.getD_cons_succ] at h50
      obtain ⟨_, _, _, h44⟩ := hp 44 (by simp)
      simp only [CodesPost, List.getD_cons_zero, List.getD_cons_succ] at h44
      rw [h47, h50, h44]
      go_wp2
      exact ⟨_, rfl, Grow.refl _, rfl⟩
    | 52, _ =>
      obtain rfl := Option.some.inj ho
      clear ho
      simp only [actsD, List.getD_cons_zero, List.getD_cons_succ, List.foldl_cons, List.foldl_nil, Act.put, List.setIfInBounds_toArray, List.set_cons_succ, List.set_cons_zero]
      obtain ⟨_, _, _, h44⟩ := hp 44 (by simp)
      simp only [CodesPost, List.getD_cons_zero, List.getD_cons_succ] at h44
      obtain ⟨_, _, _, h51⟩ := hp 51 (by simp)
      simp only [CodesPost, List.getD_cons_zero, List.getD_cons_succ] at h51
      rw [h44, h51]
      go_wp2
      exact ⟨_, rfl, Grow.refl _, rfl⟩
    | 53, _ =>
      obtain rfl := Option.some.inj ho
      clear ho
      simp only [actsD, List.getD_cons_zero, List.getD_cons_succ, List.foldl_cons, List.foldl_nil, Act.put, List.setIfInBounds_toArray, List.set_cons_succ, List.set_cons_zero]
      obtain ⟨_, _, _, h52⟩ := hp 52 (by simp)
      simp only [CodesPost, List.getD_cons_zero, List.getD_cons_succ] at h52
      rw [h52]
      go_wp2
      exact ⟨_, rfl, Grow.refl _, rfl⟩
    | 54, _ =>
      obtain rfl := Option.some.inj ho
      clear ho
      simp only [actsD, List.getD_cons_zero, List.getD_cons_succ, List.foldl_cons, List.foldl_nil, Act.put, List.setIfInBounds_toArray, List.set_cons_succ, List.set_cons_zero]
      obtain ⟨_, _, _, h53⟩ := hp 53 (by simp)
      simp only [CodesPost, List.getD_cons_zero, List.getD_cons_succ] at h53
      rw [h53]
      go_wp2_with fail
      refine (awake_any _).mono ?_
      rintro e wz ⟨rfl, hb⟩
      go_wp2
      exact ⟨_, rfl, hb, rfl⟩
    | 55, _ =>
      obtain rfl := Option.some.inj ho
      clear ho
      simp only [actsD, List.getD_cons_zero, List.getD_cons_succ, List.foldl_cons, List.foldl_nil, Act.put, List.setIfInBounds_toArray, List.set_cons_succ, List.set_cons_zero]
      obtain ⟨_, _, _, h53⟩ := hp 53 (by simp)
      simp only [CodesPost, List.getD_cons_zero, List.getD_cons_succ] at h53
      obtain ⟨_, _, _, h54⟩ := hp 54 (by simp)
      simp only [CodesPost, List.getD_cons_zero, List.getD_cons_succ] at h54
      rw [h53, h54]
      go_wp2
      exact ⟨_, rfl, Grow.refl _, rfl⟩
    | (qq + 56), hqq => exact absurd hqq (by omega)
  · intro vs lo hi wz hg hp hd
    obtain ⟨_, _, _, h55⟩ := hp 55 (by omega)
    simp only [CodesPost, List.getD_cons_zero, List.getD_cons_succ] at h55
    have hr : List.range 56 = [0, 1, 2, 3, 4, 5, 6, 7, 8, 9, 10, 11, 12, 13, 14, 15, 16, 17, 18, 19, 20, 21, 22, 23, 24, 25, 26, 27, 28, 29, 30, 31, 32, 33, 34, 35, 36, 37, 38, 39, 40, 41, 42, 43, 44, 45, 46, 47, 48, 49, 50, 51, 52, 53, 54, 55] := rfl
    rw [hr]
    simp only [List.drop_succ_cons, List.drop_zero, actsD, List.getD_cons_zero, List.getD_cons_succ, List.foldl_cons, List.foldl_nil, Act.put, List.setIfInBounds_toArray, List.set_cons_succ, List.set_cons_zero, h55]
    clear hp hd h55
    have hBz : Below w.heap.size w wz := by rw [HG4.out]; exact hB6.trans (Below.mono hg (Nat.le_of_lt l4))
    generalize vs 0 = v0
    generalize vs 1 = v1
    generalize vs 2 = v2
    generalize vs 3 = v3
    generalize vs 4 = v4
    generalize vs 5 = v5
    generalize vs 6 = v6
    generalize vs 7 = v7
    generalize vs 8 = v8
    generalize vs 9 = v9
    generalize vs 10 = v10
    generalize vs 11 = v11
    generalize vs 12 = v12
    generalize vs 13 = v13
    generalize vs 14 = v14
    generalize vs 15 = v15
    generalize vs 16 = v16
    generalize vs 17 = v17
    generalize vs 18 = v18
    generalize vs 19 = v19
    generalize vs 20 = v20
    generalize vs 21 = v21
    generalize vs 22 = v22
    generalize vs 23 = v23
    generalize vs 24 = v24
    generalize vs 25 = v25
    generalize vs 26 = v26
    generalize vs 27 = v27
    generalize vs 28 = v28
    generalize vs 29 = v29
    generalize vs 30 = v30
    generalize vs 31 = v31
    generalize vs 32 = v32
    generalize vs 33 = v33
    generalize vs 34 = v34
    generalize vs 35 = v35
    generalize vs 36 = v36
    generalize vs 37 = v37
    generalize vs 38 = v38
    generalize vs 39 = v39
    generalize vs 40 = v40
    generalize vs 41 = v41
    generalize vs 42 = v42
    generalize vs 43 = v43
    generalize vs 44 = v44
    generalize vs 45 = v45
    generalize vs 46 = v46
    generalize vs 47 = v47
    generalize vs 48 = v48
    generalize vs 49 = v49
    generalize vs 50 = v50
    generalize vs 51 = v51
    generalize vs 52 = v52
    generalize vs 53 = v53
    generalize vs 54 = v54
    go_wp2
    go_ret
    exact ⟨rfl, hBz⟩
end Go.Proofs.Ytblpmbbodajjeaa

/- Locks: the modes and who holds what, plain mathematics. Conditions: none. -/
namespace Go.Proofs.Ytoghmllkaafckaa
set_option linter.unusedSimpArgs false
set_option linter.unusedVariables false

/-- a lock that is held: who, name, mode -/
abbrev Hd := Int × ByteArray × Int
/-- a want: name, mode -/
abbrev Wn := ByteArray × Int

/-- is a mode one -/
def isM (m : Int) : Bool := decide (1 ≤ m) && decide (m ≤ 5)
def joinT : List Int := [0, 1, 2, 3, 4, 5, 1, 1, 2, 3, 4, 5, 2, 2, 2, 4, 4, 5, 3, 3, 4, 3, 4, 5, 4, 4, 4, 4, 4, 5, 5, 5, 5, 5, 5, 5]
def fitT : List Int := [0, 0, 0, 0, 0, 0, 0, 1, 1, 1, 1, 0, 0, 1, 1, 0, 0, 0, 0, 1, 0, 1, 0, 0, 0, 1, 0, 0, 0, 0, 0, 0, 0, 0, 0, 0]
def nmM (m : Int) : Int := if isM m = true then m else 0
def J (x y : Int) : Int := joinT.getD (x.toNat * 6 + y.toNat) 0
def fitsB (a b : Int) : Bool := isM a && isM b && decide (fitT.getD (a.toNat * 6 + b.toNat) 0 = 1)
def joinI (a b : Int) : Int := J (nmM a) (nmM b)

/-- a mode, or none -/
def inM (m : Int) : Prop := m = 0 ∨ m = 1 ∨ m = 2 ∨ m = 3 ∨ m = 4 ∨ m = 5
theorem isM_cases {m : Int} (h : isM m = true) : m = 1 ∨ m = 2 ∨ m = 3 ∨ m = 4 ∨ m = 5 := by
  simp only [isM, Bool.and_eq_true, decide_eq_true_eq] at h; omega
theorem isM_not {m : Int} (h : isM m = false) : m < 1 ∨ 5 < m := by
  simp only [isM, Bool.and_eq_false_iff, decide_eq_false_iff_not] at h; omega
theorem isM_inM {m : Int} (h : isM m = true) : inM m := .inr (isM_cases h)
theorem nmM_inM (m : Int) : inM (nmM m) := by
  unfold nmM; split
  · exact isM_inM ‹_›
  · exact .inl rfl
theorem nmM_of {m : Int} (h : inM m) : nmM m = m := by
  rcases h with rfl | rfl | rfl | rfl | rfl | rfl <;> rfl
theorem J_inM {x y : Int} (hx : inM x) (hy : inM y) : inM (J x y) := by
  rcases hx with rfl | rfl | rfl | rfl | rfl | rfl <;> rcases hy with rfl | rfl | rfl | rfl | rfl | rfl <;> (unfold inM; decide)
theorem J_comm {x y : Int} (hx : inM x) (hy : inM y) : J x y = J y x := by
  rcases hx with rfl | rfl | rfl | rfl | rfl | rfl <;> rcases hy with rfl | rfl | rfl | rfl | rfl | rfl <;> decide
theorem J_idem {x : Int} (hx : inM x) : J x x = x := by
  rcases hx with rfl | rfl | rfl | rfl | rfl | rfl <;> decide
theorem J_zero {x : Int} (hx : inM x) : J 0 x = x := by
  rcases hx with rfl | rfl | rfl | rfl | rfl | rfl <;> decide
theorem J_assoc {x y z : Int} (hx : inM x) (hy : inM y) (hz : inM z) : J (J x y) z = J x (J y z) := by
  rcases hx with rfl | rfl | rfl | rfl | rfl | rfl <;> rcases hy with rfl | rfl | rfl | rfl | rfl | rfl <;> rcases hz with rfl | rfl | rfl | rfl | rfl | rfl <;> decide
theorem joinI_inM (a b : Int) : inM (joinI a b) := J_inM (nmM_inM a) (nmM_inM b)
theorem joinI_comm (a b : Int) : joinI a b = joinI b a := J_comm (nmM_inM a) (nmM_inM b)
theorem joinI_assoc (a b c : Int) : joinI (joinI a b) c = joinI a (joinI b c) := by
  unfold joinI
  rw [nmM_of (J_inM (nmM_inM a) (nmM_inM b)), nmM_of (J_inM (nmM_inM b) (nmM_inM c))]
  exact J_assoc (nmM_inM a) (nmM_inM b) (nmM_inM c)
theorem joinI_idem {a : Int} (h : inM a) : joinI a a = a := by
  unfold joinI; rw [nmM_of h]; exact J_idem h
theorem joinI_zero {a : Int} (h : inM a) : joinI 0 a = a := by
  unfold joinI; rw [nmM_of h]; exact J_zero h
theorem joinI_absorb (a b : Int) : joinI (joinI a b) b = joinI a b := by
  rw [joinI_assoc]
  unfold joinI
  rw [J_idem (nmM_inM b)]
  rw [nmM_of (nmM_inM b)]
theorem joinI_same (a b : Int) : joinI (joinI a b) a = joinI a b := by
  rw [joinI_comm a b]; exact joinI_absorb b a
theorem joinI_isM {a b : Int} (h : isM b = true) : isM (joinI a b) = true := by
  have hb : nmM b = b := nmM_of (isM_inM h)
  unfold joinI
  rw [hb]
  rcases nmM_inM a with e | e | e | e | e | e <;> rw [e] <;> rcases isM_cases h with rfl | rfl | rfl | rfl | rfl <;> decide
theorem fits_is {a b : Int} (h : fitsB a b = true) : isM a = true ∧ isM b = true := by
  simp only [fitsB, Bool.and_eq_true] at h; exact h.1
theorem fits_symm (a b : Int) : fitsB a b = fitsB b a := by
  by_cases ha : isM a = true
  · by_cases hb : isM b = true
    · rcases isM_cases ha with rfl | rfl | rfl | rfl | rfl <;> rcases isM_cases hb with rfl | rfl | rfl | rfl | rfl <;> decide
    · simp [fitsB, hb]
  · simp [fitsB, ha]
theorem fits_join {a b c : Int} (ha : isM a = true) (hb : isM b = true) (h : fitsB (joinI a b) c = true) : fitsB a c = true ∧ fitsB b c = true := by
  have hc := (fits_is h).2
  revert h
  rcases isM_cases ha with rfl | rfl | rfl | rfl | rfl <;> rcases isM_cases hb with rfl | rfl | rfl | rfl | rfl <;> rcases isM_cases hc with rfl | rfl | rfl | rfl | rfl <;> decide
theorem fits_x (a : Int) : fitsB a 5 = false := by
  by_cases ha : isM a = true
  · rcases isM_cases ha with rfl | rfl | rfl | rfl | rfl <;> decide
  · simp [fitsB, ha]

/-- what one holds on a name -/
def modeL (L : List Hd) (id : Int) (n : ByteArray) : Int :=
  match L.find? (fun h => decide (h.1 = id ∧ h.2.1 = n)) with
  | some h => h.2.2
  | none => 0
/-- each one's lock on a name is there once -/
def Uniq (L : List Hd) : Prop := L.Pairwise fun g h => ¬ (g.1 = h.1 ∧ g.2.1 = h.2.1)
theorem Uniq.eq {L : List Hd} (h : Uniq L) {a b : Hd} (ha : a ∈ L) (hb : b ∈ L) (h1 : a.1 = b.1) (h2 : a.2.1 = b.2.1) : a = b := by
  induction L with
  | nil => cases ha
  | cons x r ih =>
    unfold Uniq at h
    rw [List.pairwise_cons] at h
    rcases List.mem_cons.1 ha with rfl | ha' <;> rcases List.mem_cons.1 hb with rfl | hb'
    · rfl
    · exact absurd ⟨h1, h2⟩ (h.1 _ hb')
    · exact absurd ⟨h1.symm, h2.symm⟩ (h.1 _ ha')
    · exact ih h.2 ha' hb'
theorem modeL_some {L : List Hd} (hu : Uniq L) {id : Int} {n : ByteArray} {m : Int} (h : (id, n, m) ∈ L) : modeL L id n = m := by
  unfold modeL
  cases hf : L.find? (fun h => decide (h.1 = id ∧ h.2.1 = n)) with
  | none =>
    have := List.find?_eq_none.1 hf _ h
    simp at this
  | some g =>
    have h1 := List.find?_some hf
    simp only [decide_eq_true_eq] at h1
    have := hu.eq (List.mem_of_find?_eq_some hf) h h1.1 h1.2
    rw [this]
theorem modeL_none {L : List Hd} {id : Int} {n : ByteArray} (h : ∀ m, (id, n, m) ∉ L) : modeL L id n = 0 := by
  unfold modeL
  cases hf : L.find? (fun h => decide (h.1 = id ∧ h.2.1 = n)) with
  | none => rfl
  | some g =>
    have h1 := List.find?_some hf
    simp only [decide_eq_true_eq] at h1
    have h2 := List.mem_of_find?_eq_some hf
    obtain ⟨g1, g2, g3⟩ := g
    obtain ⟨rfl, rfl⟩ := h1
    exact absurd h2 (h g3)
theorem modeL_congr {L M : List Hd} (hL : Uniq L) (hM : Uniq M) (h : ∀ x, x ∈ L ↔ x ∈ M) (id : Int) (n : ByteArray) : modeL L id n = modeL M id n := by
  by_cases he : ∃ m, (id, n, m) ∈ L
  · obtain ⟨m, hm⟩ := he
    rw [modeL_some hL hm, modeL_some hM ((h _).1 hm)]
  · rw [modeL_none (fun m hm => he ⟨m, hm⟩), modeL_none (fun m hm => he ⟨m, (h _).2 hm⟩)]

/-- what one would come to hold on a name -/
def goalF (l : List Wn) (n : ByteArray) (m : Int) : Int := l.foldl (fun m w => if w.1 = n ∧ isM w.2 = true then joinI m w.2 else m) m
def goal (L : List Hd) (id : Int) (l : List Wn) (n : ByteArray) : Int := goalF l n (modeL L id n)
def wanted (l : List Wn) (n : ByteArray) : Prop := ∃ w ∈ l, w.1 = n ∧ isM w.2 = true
theorem goalF_snoc (l : List Wn) (w : Wn) (n : ByteArray) (m : Int) : goalF (l ++ [w]) n m = if w.1 = n ∧ isM w.2 = true then joinI (goalF l n m) w.2 else goalF l n m := by
  simp [goalF, List.foldl_append]
theorem wanted_snoc (l : List Wn) (w : Wn) (n : ByteArray) : wanted (l ++ [w]) n ↔ wanted l n ∨ (w.1 = n ∧ isM w.2 = true) := by
  unfold wanted
  constructor
  · rintro ⟨x, hx, h⟩
    rcases List.mem_append.1 hx with hx | hx
    · exact .inl ⟨x, hx, h⟩
    · rw [List.mem_singleton] at hx; subst hx; exact .inr h
  · rintro (⟨x, hx, h⟩ | h)
    · exact ⟨x, List.mem_append_left _ hx, h⟩
    · exact ⟨w, List.mem_append_right _ (List.mem_singleton.2 rfl), h⟩
theorem goalF_not {l : List Wn} {n : ByteArray} (h : ¬ wanted l n) (m : Int) : goalF l n m = m := by
  induction l generalizing m with
  | nil => rfl
  | cons x r ih =>
    simp only [goalF, List.foldl_cons]
    rw [if_neg (fun hx => h ⟨x, List.mem_cons_self, hx⟩)]
    exact ih (fun ⟨w, hw, h2⟩ => h ⟨w, List.mem_cons_of_mem _ hw, h2⟩) m
theorem goalF_join (l : List Wn) (n : ByteArray) (m x : Int) (hx : inM x) : goalF l n (joinI m x) = joinI (goalF l n m) x ∨ ¬ wanted l n := by
  by_cases hw : wanted l n
  · left
    have key : ∀ (l : List Wn) (m : Int), goalF l n (joinI m x) = joinI (goalF l n m) x := by
      intro l
      induction l with
      | nil => intro m; rfl
      | cons y r ih =>
        intro m
        simp only [goalF, List.foldl_cons]
        split
        · rw [joinI_assoc, joinI_comm x, ← joinI_assoc]; exact ih _
        · exact ih _
    exact key l m
  · exact .inr hw
theorem goalF_idem (l : List Wn) (n : ByteArray) (m : Int) : goalF l n (goalF l n m) = goalF l n m := by
  induction l generalizing m with
  | nil => rfl
  | cons y r ih =>
    by_cases hy : y.1 = n ∧ isM y.2 = true
    · have e : ∀ m, goalF (y :: r) n m = goalF r n (joinI m y.2) := fun m => by simp only [goalF, List.foldl_cons]; rw [if_pos hy]
      rw [e, e]
      have hy2 := isM_inM hy.2
      rcases goalF_join r n (goalF r n (joinI m y.2)) y.2 hy2 with h | h
      · rw [h, ih]
        rcases goalF_join r n m y.2 hy2 with h2 | h2
        · rw [h2, joinI_absorb]
        · rw [goalF_not h2, joinI_absorb]
      · rw [goalF_not h, goalF_not h, joinI_absorb]
    · have e : ∀ m, goalF (y :: r) n m = goalF r n m := fun m => by simp only [goalF, List.foldl_cons]; rw [if_neg hy]
      rw [e, e]; exact ih m
theorem goalF_isM {l : List Wn} {n : ByteArray} (h : wanted l n) (m : Int) : isM (goalF l n m) = true := by
  have key : ∀ (l : List Wn) (m : Int), isM m = true → isM (goalF l n m) = true := by
    intro l
    induction l with
    | nil => intro m h; exact h
    | cons y r ih =>
      intro m h
      simp only [goalF, List.foldl_cons]
      split
      · exact ih _ (joinI_isM (by rename_i h; exact h.2))
      · exact ih _ h
  induction l generalizing m with
  | nil => obtain ⟨w, hw, _⟩ := h; cases hw
  | cons y r ih =>
    simp only [goalF, List.foldl_cons]
    by_cases hy : y.1 = n ∧ isM y.2 = true
    · rw [if_pos hy]; exact key r _ (joinI_isM hy.2)
    · rw [if_neg hy]
      obtain ⟨w, hw, h2⟩ := h
      rcases List.mem_cons.1 hw with rfl | hw
      · exact absurd h2 hy
      · exact ih ⟨w, hw, h2⟩ m
theorem goal_congr {L M : List Hd} (hL : Uniq L) (hM : Uniq M) (h : ∀ x, x ∈ L ↔ x ∈ M) (id : Int) (l : List Wn) (n : ByteArray) : goal L id l n = goal M id l n := by
  unfold goal; rw [modeL_congr hL hM h]

/-- the modes that one would come to hold, each name once -/
def wstep (L : List Hd) (id : Int) (out : List Wn) (w : Wn) : List Wn :=
  if isM w.2 = true then
    match out.findIdx? (fun x => decide (x.1 = w.1)) with
    | some i => out.set i (w.1, joinI (out.getD i (w.1, 0)).2 w.2)
    | none => out ++ [(w.1, joinI (modeL L id w.1) w.2)]
  else out
def whole (L : List Hd) (id : Int) (l : List Wn) : List Wn := l.foldl (wstep L id) []
theorem whole_snoc (L : List Hd) (id : Int) (l : List Wn) (w : Wn) : whole L id (l ++ [w]) = wstep L id (whole L id l) w := by
  simp [whole, List.foldl_append]
structure IsWhole (L : List Hd) (id : Int) (l : List Wn) (out : List Wn) : Prop where
  once : (out.map (·.1)).Nodup
  iff : ∀ n m, (n, m) ∈ out ↔ wanted l n ∧ m = goal L id l n
theorem findIdx?_names {out : List Wn} {n : ByteArray} : (out.findIdx? (fun x => decide (x.1 = n)) = none ↔ n ∉ out.map (·.1)) := by
  rw [List.findIdx?_eq_none_iff]
  simp only [List.mem_map, not_exists, not_and, decide_eq_false_iff_not]
theorem set_names {out : List Wn} {i : Nat} {n : ByteArray} {m m' : Int} (h : out[i]? = some (n, m)) : (out.set i (n, m')).map (·.1) = out.map (·.1) := by
  apply List.ext_getElem?
  intro k
  simp only [List.getElem?_map, List.getElem?_set]
  split
  · rename_i e
    subst e
    have hi := (List.getElem?_eq_some_iff.1 h).1
    rw [if_pos hi, h]; rfl
  · rfl
theorem nodup_names_eq {out : List Wn} (h : (out.map (·.1)).Nodup) {i j : Nat} {n : ByteArray} {m m' : Int} (hi : out[i]? = some (n, m)) (hj : out[j]? = some (n, m')) : i = j := by
  have hi' : (out.map (·.1))[i]? = some n := by rw [List.getElem?_map, hi]; rfl
  have hj' : (out.map (·.1))[j]? = some n := by rw [List.getElem?_map, hj]; rfl
  unfold List.Nodup at h
  rw [List.pairwise_iff_getElem] at h
  obtain ⟨hil, e1⟩ := List.getElem?_eq_some_iff.1 hi'
  obtain ⟨hjl, e2⟩ := List.getElem?_eq_some_iff.1 hj'
  rcases Nat.lt_trichotomy i j with hlt | e | hlt
  · exact absurd (e1.trans e2.symm) (h i j hil hjl hlt)
  · exact e
  · exact absurd (e2.trans e1.symm) (h j i hjl hil hlt)
theorem whole_is (L : List Hd) (id : Int) (l : List Wn) : IsWhole L id l (whole L id l) := by
  have key : ∀ (k : Nat), IsWhole L id (l.take k) (whole L id (l.take k)) := by
    intro k
    induction k with
    | zero => exact ⟨List.nodup_nil, fun n m => ⟨fun h => (by cases h), fun ⟨⟨w, hw, _⟩, _⟩ => (by simp at hw)⟩⟩
    | succ k ih =>
      by_cases hk : k < l.length
      · rw [List.take_succ_eq_append_getElem hk, whole_snoc]
        generalize l[k] = w
        generalize l.take k = l at *
        generalize whole L id l = out at *
        obtain ⟨w1, w2⟩ := w
        unfold wstep
        by_cases hm : isM w2 = true
        · rw [if_pos hm]
          cases hf : out.findIdx? (fun x => decide (x.1 = w1)) with
          | none =>
            have hno := findIdx?_names.1 hf
            have hw : ¬ wanted l w1 := fun hw => hno (List.mem_map.2 ⟨(w1, goal L id l w1), (ih.iff _ _).2 ⟨hw, rfl⟩, rfl⟩)
            refine ⟨?_, fun n m => ?_⟩
            · rw [List.map_append, List.nodup_append]
              exact ⟨ih.once, by simp, fun a ha b hb e => by simp at hb; subst hb; subst e; exact hno ha⟩
            · rw [List.mem_append, ih.iff, wanted_snoc, List.mem_singleton, Prod.mk.injEq]
              unfold goal
              rw [goalF_snoc]
              constructor
              · rintro (⟨h1, rfl⟩ | ⟨rfl, rfl⟩)
                · refine ⟨.inl h1, ?_⟩
                  rw [if_neg]
                  rintro ⟨e, _⟩
                  simp only at e; subst e; exact hw h1
                · refine ⟨.inr ⟨rfl, hm⟩, ?_⟩
                  rw [if_pos ⟨rfl, hm⟩, goalF_not hw]
              · rintro ⟨h1 | ⟨h1, _⟩, rfl⟩
                · left
                  refine ⟨h1, ?_⟩
                  rw [if_neg]
                  rintro ⟨e, _⟩
                  simp only at e; subst e; exact hw h1
                · simp only at h1; subst h1
                  right
                  exact ⟨rfl, by rw [if_pos ⟨rfl, hm⟩, goalF_not hw]⟩
          | some i =>
            simp only
            obtain ⟨hil, he, _⟩ := List.findIdx?_eq_some_iff_getElem.1 hf
            have he' : out[i].1 = w1 := by simpa using he
            have hget : out[i]? = some (w1, out[i].2) := by rw [List.getElem?_eq_getElem hil]; exact congrArg some (Prod.ext he' rfl)
            have hgd : (out.getD i (w1, 0)).2 = out[i].2 := by rw [List.getD_eq_getElem?_getD, List.getElem?_eq_getElem hil]; rfl
            rw [hgd]
            have hmem : (w1, out[i].2) ∈ out := List.mem_of_getElem? hget
            obtain ⟨hw, hg⟩ := (ih.iff _ _).1 hmem
            rw [hg] at hget ⊢
            have hne := ih.once
            refine ⟨by rw [set_names hget]; exact ih.once, fun n m => ?_⟩
            have hgs : ∀ n, goal L id (l ++ [(w1, w2)]) n = if w1 = n then joinI (goal L id l n) w2 else goal L id l n := by
              intro n
              unfold goal
              rw [goalF_snoc]
              by_cases e : w1 = n <;> simp [e, hm]
            rw [hgs, wanted_snoc]
            constructor
            · intro h
              rcases List.getElem?_of_mem h with ⟨j, hj⟩
              rw [List.getElem?_set] at hj
              split at hj
              · rename_i e
                subst e
                try rw [if_pos hil] at hj
                injection hj with hj
                injection hj with h1 h2
                subst h1 h2
                exact ⟨.inl hw, by rw [if_pos rfl]⟩
              · rename_i hij
                have hj2 := (ih.iff n m).1 (List.mem_of_getElem? hj)
                refine ⟨.inl hj2.1, ?_⟩
                rw [if_neg]
                · exact hj2.2
                · intro e
                  subst e
                  exact hij (nodup_names_eq hne hget hj)
            · rintro ⟨h1, rfl⟩
              by_cases e : w1 = n
              · subst e
                rw [if_pos rfl]
                exact List.mem_of_getElem? (i := i) (by rw [List.getElem?_set_self hil])
              · rw [if_neg e]
                have h1' : wanted l n := by
                  rcases h1 with h1 | h1
                  · exact h1
                  · exact absurd h1.1 e
                obtain ⟨j, hj⟩ := List.getElem?_of_mem ((ih.iff n _).2 ⟨h1', rfl⟩)
                refine List.mem_of_getElem? (i := j) ?_
                rw [List.getElem?_set, if_neg]
                · exact hj
                · rintro rfl
                  rw [hget] at hj
                  injection hj with hj
                  injection hj with hj _
                  exact e hj
        · rw [if_neg hm]
          refine ⟨ih.once, fun n m => ?_⟩
          rw [ih.iff, wanted_snoc]
          unfold goal
          rw [goalF_snoc, if_neg (fun h => hm h.2)]
          constructor
          · rintro ⟨h1, h2⟩; exact ⟨.inl h1, h2⟩
          · rintro ⟨h1 | h1, h2⟩
            · exact ⟨h1, h2⟩
            · exact absurd h1.2 hm
      · rw [List.take_of_length_le (by omega)] at ih ⊢
        exact ih
  have := key l.length
  rwa [List.take_length] at this
end Go.Proofs.Ytoghmllkaafckaa

/- A region that draws its order, part by part: each operation is walked once, whatever the order; what it leaves holds while memory only grows; the last operations, which come behind all others, are walked in their order. Conditions: none. -/
import Derived.Test.YtdnjjdpenfhpeaaKit
import Derived.Orders
namespace Go.Proofs.Ytdnjjdpenfhpeaa
set_option linter.unusedSimpArgs false
set_option linter.unusedVariables false
open Go.RowKit

/-- memory has only grown -/
def Grow (w w' : World) : Prop := Below w.heap.size w w'
theorem Grow.refl (w : World) : Grow w w := Below.refl _ _
theorem Grow.trans {a b c : World} (h : Grow a b) (k : Grow b c) : Grow a c := Below.trans h (k.mono h.size)
theorem Grow.alloc {a w : World} (h : Grow a w) (o : Obj) : Grow a (w.alloc o) := Below.alloc h h.size o

/-- the frame behind the operations js, each of which left vs -/
def acts (l : List Oper) (vs : Nat → Value) (js : List Nat) (a : Act) : Act := js.foldl (fun a j => a.put ((l[j]?).bind (·.dst)) (vs j)) a

def direct (o : Oper) : List Nat := (o.after.toList.filter (Region.binds .any)).map (·.on)

/-- the static look: edges lead back; what an operation looks at is left by one of those that surely came before; no slot is written twice; the tail is forced -/
def partsB (l : List Oper) (N : Nat) (bs : List (List Nat)) : Bool :=
  decide (N ≤ l.length) && (l.all fun o => match o.op with | .select .. => false | _ => true) &&
  (List.range l.length).all fun i => match l[i]? with
    | none => false
    | some o => (direct o).all (fun k => decide (k < i)) &&
      (if i < N then
        (bs.getD i []).all (fun j => decide (j < N) && (direct o).any (fun k => decide (k < N) && (k == j || (bs.getD k []).contains j))) &&
        (List.range N).all (fun j => j == i || match (l[j]?).bind (·.dst) with
          | none => true
          | some d => o.dst != some d && (!(o.looksAt l.toArray).contains d || (bs.getD i []).contains j))
        && (match o.dst with | none => true | some d => !(o.looksAt l.toArray).contains d)
      else (List.range i).all (fun j => (direct o).contains j || (direct o).any (fun k => decide (k < N) && decide (j < N) && (bs.getD k []).contains j) || (decide (N < i) && (direct o).contains (i - 1))))

/-- the end of one operation's walk -/
def PartEnd (ai : Act) (dst : Option Tmp) (w0 : World) (R : Value → Nat → Nat → World → Prop) : Exit → Act → World → Prop
  | .normal, a', w' => ∃ v, a' = ai.put dst v ∧ Grow w0 w' ∧ R v w0.heap.size w'.heap.size w'
  | _, _, _ => False

theorem put_size (a : Act) (d : Option Tmp) (v : Value) : (a.put d v).tmps.size = a.tmps.size := by cases d <;> simp [Act.put]
theorem put_defers (a : Act) (d : Option Tmp) (v : Value) : (a.put d v).defers = a.defers := by cases d <;> rfl

theorem acts_size (l : List Oper) (vs : Nat → Value) (js : List Nat) (a : Act) : (acts l vs js a).tmps.size = a.tmps.size := by
  induction js generalizing a with
  | nil => rfl
  | cons j js ih => show (acts l vs js _).tmps.size = _; rw [ih, put_size]
theorem acts_defers (l : List Oper) (vs : Nat → Value) (js : List Nat) (a : Act) : (acts l vs js a).defers = a.defers := by
  induction js generalizing a with
  | nil => rfl
  | cons j js ih => show (acts l vs js _).defers = _; rw [ih, put_defers]

theorem put_get_other (a : Act) (d : Option Tmp) (v : Value) (t : Nat) (h : d ≠ some t) : (a.put d v).tmps[t]? = a.tmps[t]? := by
  cases d with
  | none => rfl
  | some d =>
    have hne : d ≠ t := fun e => h (by rw [e])
    simp [Act.put, Array.getElem?_setIfInBounds_ne hne]
theorem put_get_same (a : Act) (v : Value) (t : Nat) (h : t < a.tmps.size) : (a.put (some t) v).tmps[t]? = some v := by
  simp [Act.put, h]

theorem acts_get_other (l : List Oper) (vs : Nat → Value) (js : List Nat) (a : Act) (t : Nat) (h : ∀ j ∈ js, (l[j]?).bind (·.dst) ≠ some t) :
    (acts l vs js a).tmps[t]? = a.tmps[t]? := by
  induction js generalizing a with
  | nil => rfl
  | cons j js ih =>
    show (acts l vs js _).tmps[t]? = _
    rw [ih _ (fun k hk => h k (List.mem_cons_of_mem _ hk)), put_get_other _ _ _ _ (h j List.mem_cons_self)]
theorem acts_get_same (l : List Oper) (vs : Nat → Value) (js : List Nat) (a : Act) (t : Nat) (ht : t < a.tmps.size) (j : Nat) (hj : j ∈ js) (hd : (l[j]?).bind (·.dst) = some t)
    (hu : ∀ k ∈ js, (l[k]?).bind (·.dst) = some t → k = j) : (acts l vs js a).tmps[t]? = some (vs j) := by
  induction js generalizing a with
  | nil => cases hj
  | cons k js ih =>
    show (acts l vs js _).tmps[t]? = _
    by_cases hin : j ∈ js
    · exact ih _ (by rw [put_size]; exact ht) hin (fun k hk => hu k (List.mem_cons_of_mem _ hk))
    · have hk : j = k := by
        cases List.mem_cons.1 hj with
        | inl e => exact e
        | inr e => exact absurd e hin
      subst hk
      rw [acts_get_other _ _ _ _ _ (fun k hk he => hin (hu k (List.mem_cons_of_mem _ hk) he ▸ hk))]
      show (a.put ((l[j]?).bind (·.dst)) (vs j)).tmps[t]? = _
      rw [hd, put_get_same _ _ _ ht]

theorem act_ext {a b : Act} (h : ∀ t : Nat, a.tmps[t]? = b.tmps[t]?) (hd : a.defers = b.defers) : a = b := by
  obtain ⟨t, d⟩ := a
  obtain ⟨t', d'⟩ := b
  simp only at hd
  subst hd
  have : t = t' := Array.ext_getElem? h
  rw [this]

/-- two lists of the same operations, no slot written twice: the same frame -/
theorem acts_ext (l : List Oper) (vs vs' : Nat → Value) (js ks : List Nat) (a : Act) (hm : ∀ j, j ∈ js ↔ j ∈ ks) (hv : ∀ j ∈ js, vs j = vs' j)
    (hu : ∀ j ∈ js, ∀ k ∈ js, ∀ t, (l[j]?).bind (·.dst) = some t → (l[k]?).bind (·.dst) = some t → k = j) : acts l vs js a = acts l vs' ks a := by
  refine act_ext (fun t => ?_) (by rw [acts_defers, acts_defers])
  by_cases h : ∃ j ∈ js, (l[j]?).bind (·.dst) = some t
  · obtain ⟨j, hj, hd⟩ := h
    by_cases ht : t < a.tmps.size
    · rw [acts_get_same l vs js a t ht j hj hd (fun k hk he => hu j hj k hk t hd he), acts_get_same l vs' ks a t ht j ((hm j).1 hj) hd (fun k hk he => hu j hj k ((hm k).2 hk) t hd he), hv j hj]
    · rw [Array.getElem?_eq_none (by rw [acts_size]; omega), Array.getElem?_eq_none (by rw [acts_size]; omega)]
  · rw [acts_get_other l vs js a t (fun j hj he => h ⟨j, hj, he⟩), acts_get_other l vs' ks a t (fun j hj he => h ⟨j, (hm j).2 hj, he⟩)]

theorem put_same {a b : Act} {d : Option Tmp} {v v' : Value} (hs : a.tmps.size = b.tmps.size) (h : a.put d v = a.put d v') : b.put d v = b.put d v' := by
  cases d with
  | none => rfl
  | some d =>
    by_cases hd : d < a.tmps.size
    · have h1 := put_get_same a v d hd
      have h2 := put_get_same a v' d hd
      rw [h, h2] at h1
      rw [Option.some.inj h1]
    · have hd' : ¬ d < b.tmps.size := hs ▸ hd
      have key : ∀ u : Value, b.put (some d) u = b := fun u => by
        simp only [Act.put]
        rw [Array.setIfInBounds_eq_of_size_le (Nat.le_of_not_lt hd')]
      rw [key, key]

/-- an operation walked at a frame that agrees on what it looks at -/
theorem part_run {P : Program} {ops : Array Oper} {o : Oper} {ai aS : Act} {w : World} {R : Value → Nat → Nat → World → Prop} {Q : Exit → Act → World → Prop} {K : Act → World → Prop} {i : Nat}
    (hi : ops[i]? = some o) (hs : ∀ cs b, o.op ≠ .select cs b) (hsize : ai.tmps.size = aS.tmps.size)
    (hag : ∀ t ∈ o.looksAt ops, ai.tmps[t]? = aS.tmps[t]?)
    (h : wpList P ops (PartEnd ai o.dst w R) [o] ai w) (hK : ∀ v w', Grow w w' → R v w.heap.size w'.heap.size w' → K (aS.put o.dst v) w') : wpOp P ops Q i K aS w := by
  have he : execOp aS.eval o = execOp ai.eval o := execOp_congr o hs (fun x hx => by
    cases x with
    | tmp t =>
      have := hag t (List.mem_append_left _ (List.mem_filterMap.2 ⟨.tmp t, by simpa using hx, rfl⟩))
      simp only [Act.eval]
      simp only [Array.getD_eq_getD_getElem?, this]
    | _ => rfl)
  have hw : Region.wanted o (yielded ops aS.tmps) = Region.wanted o (yielded ops ai.tmps) := by
    unfold Region.wanted
    cases hg : o.guard with
    | none => rfl
    | some gw =>
      obtain ⟨g, want⟩ := gw
      have hy : yielded ops aS.tmps g = yielded ops ai.tmps g := by
        unfold yielded
        cases ht : (ops[g]?).bind (·.dst) with
        | none => rfl
        | some t =>
          have := hag t (by simp [Oper.looksAt, hg, ht])
          simp [this]
      simp only [hy]
  have fin : ∀ v w', PartEnd ai o.dst w R .normal (ai.put o.dst v) w' → K (aS.put o.dst v) w' := by
    rintro v w' ⟨v', e, hg, hr⟩
    rw [put_same hsize e]
    exact hK v' w' hg hr
  unfold wpOp
  simp only [hi]
  rw [hw]
  unfold wpList at h
  split
  · rename_i hwant
    rw [if_pos hwant] at h
    rcases h with h | ⟨_, a, w', h⟩
    case inr => exact h.elim
    refine .inl ?_
    unfold Oper.wp at *
    rw [he]
    generalize (execOp ai.eval o).run P w = r at *
    cases r with
    | ok n w' =>
      cases n <;> simp only [Oper.upon] at h ⊢
      case value v => exact fin v w' h
      case skip => exact fin _ w' h
      case defer d =>
        obtain ⟨v', e, _⟩ := h
        have := congrArg (fun a => a.defers.length) e
        simp [put_defers] at this
      case enter f args =>
        refine Calls.mono h (fun e w'' he => ?_)
        cases e with
        | returned v => exact fin v w'' he
        | panicked c => exact he.elim
        | outgrown => obtain ⟨_, _, h⟩ := he; exact h.elim
      case row r args => exact Rows.mono h (fun v w'' he => fin v w'' he)
    | halt x w' => cases x <;> simp only [Oper.upon] at h ⊢ <;> exact h.elim
  · rename_i hwant
    rw [if_neg hwant] at h
    exact fin _ w h


theorem ready_spec {ops : Array Oper} {listed : Array Bool} {i : Nat} (h : i ∈ Region.ready .any ops listed) (hsz : listed.size = ops.size) :
    ∃ o, ops[i]? = some o ∧ listed[i]? = some false ∧ ∀ k ∈ direct o, listed.getD k false = true := by
  simp only [Region.ready, List.mem_filter, List.mem_range, Bool.and_eq_true] at h
  obtain ⟨hi, h1, h2⟩ := h
  have hi' : i < listed.size := by omega
  refine ⟨ops[i], by simp [hi], ?_, ?_⟩
  · simp [hi'] at h1 ⊢; exact h1
  · simp [hi] at h2
    intro k hk
    simp only [direct, List.mem_map, List.mem_filter] at hk
    obtain ⟨e, ⟨he, hb⟩, rfl⟩ := hk
    obtain ⟨j, hj, rfl⟩ := Array.getElem_of_mem (by simpa using he : e ∈ ops[i].after)
    have := h2 j hj
    simpa [hb] using this

theorem ready_nil {ops : Array Oper} {listed : Array Bool} (hsz : listed.size = ops.size) (hlex : ∀ (i : Nat) o, ops[i]? = some o → ∀ k ∈ direct o, k < i)
    (h : Region.ready .any ops listed = []) : ∀ i, i < ops.size → listed.getD i false = true := by
  intro i
  induction i using Nat.strongRecOn with
  | _ i ih =>
    intro hi
    apply Classical.byContradiction
    intro hc
    have hi' : i < listed.size := by omega
    have hmem : i ∈ Region.ready .any ops listed := by
      simp only [Region.ready, List.mem_filter, List.mem_range, Bool.and_eq_true]
      refine ⟨hi, ?_, ?_⟩
      · simp [hi'] at hc ⊢; exact hc
      · simp [hi]
        intro j hj
        by_cases hb : Region.binds .any ops[i].after[j] = true
        · have hk : (ops[i].after[j]).on ∈ direct ops[i] := by
            simp only [direct, List.mem_map, List.mem_filter]
            exact ⟨ops[i].after[j], ⟨by simp, hb⟩, rfl⟩
          have hlt := hlex i ops[i] (by simp [hi]) _ hk
          have := ih _ hlt (by omega)
          right
          simpa using this
        · left; simpa using hb
    rw [h] at hmem
    cases hmem


theorem partsB_parts {l : List Oper} {N : Nat} {bs : List (List Nat)} (h : partsB l N bs = true) :
    N ≤ l.length ∧ (∀ o ∈ l, ∀ cs b, o.op ≠ .select cs b) ∧ (∀ (i : Nat) o, l[i]? = some o → ∀ k ∈ direct o, k < i) ∧
    (∀ (i : Nat) o, l[i]? = some o → i < N → ∀ j ∈ bs.getD i [], j < N ∧ ∃ k ∈ direct o, k < N ∧ (k = j ∨ j ∈ bs.getD k [])) ∧
    (∀ (i : Nat) o, l[i]? = some o → i < N → ∀ j, j < N → j ≠ i → ∀ d, (l[j]?).bind (·.dst) = some d → o.dst ≠ some d ∧ (d ∈ o.looksAt l.toArray → j ∈ bs.getD i [])) ∧
    (∀ (i : Nat) o, l[i]? = some o → i < N → ∀ d, o.dst = some d → d ∉ o.looksAt l.toArray) ∧
    (∀ (i : Nat) o, l[i]? = some o → N ≤ i → ∀ j, j < i → j ∈ direct o ∨ (j < N ∧ ∃ k ∈ direct o, k < N ∧ j ∈ bs.getD k []) ∨ (N < i ∧ i - 1 ∈ direct o)) := by
  simp only [partsB, Bool.and_eq_true, decide_eq_true_eq, List.all_eq_true, List.mem_range] at h
  obtain ⟨⟨hN, hsel⟩, hall⟩ := h
  have at_ : ∀ (i : Nat) o, l[i]? = some o → i < l.length := fun i o h => (List.getElem?_eq_some_iff.1 h).1
  refine ⟨hN, ?_, ?_, ?_, ?_, ?_, ?_⟩
  · intro o ho cs b e
    have := hsel o ho
    rw [e] at this
    cases this
  · intro i o hi k hk
    have := hall i (at_ i o hi)
    simp only [hi, Bool.and_eq_true, List.all_eq_true, decide_eq_true_eq] at this
    exact this.1 k hk
  · intro i o hi hlt j hj
    have := hall i (at_ i o hi)
    simp only [hi, hlt, if_true, Bool.and_eq_true, List.all_eq_true, decide_eq_true_eq, List.any_eq_true, Bool.or_eq_true, beq_iff_eq, List.contains_iff_mem] at this
    obtain ⟨h1, k, hk, h2, h3⟩ := this.2.1.1 j hj
    exact ⟨h1, k, hk, h2, h3⟩
  · intro i o hi hlt j hj hne d hd
    have := hall i (at_ i o hi)
    simp only [hi, hlt, if_true, Bool.and_eq_true, List.all_eq_true, decide_eq_true_eq, List.mem_range] at this
    have h1 := this.2.1.2 j hj
    rw [hd] at h1
    simp only [Bool.or_eq_true, beq_iff_eq, Bool.and_eq_true, bne_iff_ne, Bool.not_eq_true', List.contains_iff_mem] at h1
    rcases h1 with h1 | ⟨h1, h2⟩
    · exact absurd h1 hne
    · refine ⟨h1, fun hm => ?_⟩
      rcases h2 with h2 | h2
      · exact absurd hm (by simpa using h2)
      · exact h2
  · intro i o hi hlt d hd hm
    have := hall i (at_ i o hi)
    simp only [hi, hlt, if_true, Bool.and_eq_true] at this
    have h1 := this.2.2
    rw [hd] at h1
    exact absurd hm (by simpa using h1)
  · intro i o hi hge j hj
    have := hall i (at_ i o hi)
    simp only [hi, show ¬ i < N by omega, if_false, Bool.and_eq_true, List.all_eq_true, List.mem_range, List.contains_iff_mem, Bool.or_eq_true, List.any_eq_true, decide_eq_true_eq] at this
    rcases this.2 j hj with (h | ⟨k, hk, ⟨h1, h2⟩, h3⟩) | ⟨h1, h3⟩
    · exact .inl h
    · exact .inr (.inl ⟨h2, k, hk, h1, h3⟩)
    · exact .inr (.inr ⟨h1, h3⟩)

/-- the tail: only its next operation is ready -/
theorem tail_run {P : Program} {l : List Oper} {N : Nat} {Q : Exit → Act → World → Prop}
    (hlex : ∀ (i : Nat) o, l[i]? = some o → ∀ k ∈ direct o, k < i) (htail : ∀ (i : Nat) o, l[i]? = some o → N < i → i - 1 ∈ direct o) :
    ∀ (fuel k : Nat) (listed : Array Bool) (a : Act) (w : World), k + fuel = l.length → N ≤ k → listed.size = l.length → (∀ i, i < l.length → (listed[i]? = some true ↔ i < k)) →
      wpList P l.toArray Q (l.drop k) a w → wpAny P .any l.toArray Q fuel listed a w := by
  intro fuel
  induction fuel with
  | zero =>
    intro k listed a w hk hN hsz hl h
    rw [List.drop_eq_nil_of_le (by omega)] at h
    refine ⟨?_, h⟩
    apply List.eq_nil_iff_forall_not_mem.2
    intro i hi
    obtain ⟨o, ho, hf, _⟩ := ready_spec hi (by simpa using hsz)
    have hlt : i < l.length := by simp at ho; exact (List.getElem?_eq_some_iff.1 ho).1
    have := (hl i hlt).2 (by omega)
    rw [this] at hf; cases hf
  | succ fuel ih =>
    intro k listed a w hk hN hsz hl h
    have hkl : k < l.length := by omega
    rw [List.drop_eq_getElem_cons hkl] at h
    refine ⟨fun hnil => ?_, fun i hi => ?_⟩
    · have := ready_nil (ops := l.toArray) (by simpa using hsz) (fun i o ho => hlex i o (by simpa using ho)) hnil k (by simpa using hkl)
      have hk2 : k < listed.size := by omega
      simp [hk2] at this
      have h2 := (hl k hkl).1 (by simp [hk2, this])
      omega
    · obtain ⟨o, ho, hf, hd⟩ := ready_spec hi (by simpa using hsz)
      have ho' : l[i]? = some o := by simpa using ho
      have hlt : i < l.length := (List.getElem?_eq_some_iff.1 ho').1
      have hki : k = i := by
        have h1 : ¬ i < k := fun hc => by have := (hl i hlt).2 hc; rw [this] at hf; cases hf
        rcases Nat.lt_or_ge k i with h2 | h2
        · have := hd (i - 1) (htail i o ho' (by omega))
          have hk2 : i - 1 < listed.size := by omega
          simp [hk2] at this
          have h3 := (hl (i - 1) (by omega)).1 (by simp [hk2, this])
          omega
        · omega
      subst hki
      have hgo : l[k] = o := by have := List.getElem?_eq_getElem hkl; rw [ho'] at this; exact (Option.some.inj this).symm
      rw [hgo] at h
      have hnext : ∀ a w, wpList P l.toArray Q (l.drop (k + 1)) a w → wpAny P .any l.toArray Q fuel (listed.setIfInBounds k true) a w := by
        intro a w h
        refine ih (k + 1) _ a w (by omega) (by omega) (by simpa using hsz) (fun i hi => ?_) h
        by_cases e : k = i
        · subst e; simp [show k < listed.size by omega]
        · rw [Array.getElem?_setIfInBounds_ne e, hl i hi]; omega
      unfold wpOp
      simp only [ho]
      unfold wpList at h
      split
      · rename_i hw
        rw [if_pos hw] at h
        exact h.imp (Oper.wp_mono hnext) id
      · rename_i hw
        rw [if_neg hw] at h
        exact hnext _ _ h


/-- the first N operations in whatever order, each walked once; then the tail -/
theorem wp_region_parts {P : Program} {id : Nat} {l : List Oper} {Q : Exit → Act → World → Prop} {a : Act} {w : World} (N : Nat) (bs : List (List Nat)) (hm : P.follows .mixedOrders = true) (hB : partsB l N bs = true)
    (Post : Nat → Value → Nat → Nat → World → Prop) (stable : ∀ i v lo hi w w', Post i v lo hi w → Grow w w' → Post i v lo hi w')
    (parts : ∀ i, i < N → ∀ o, l[i]? = some o → ∀ (vs : Nat → Value) (lo hi : Nat → Nat) (w' : World), Grow w.drew w' → (∀ j ∈ bs.getD i [], w.heap.size ≤ lo j ∧ lo j ≤ hi j ∧ hi j ≤ w'.heap.size ∧ Post j (vs j) (lo j) (hi j) w') →
      wpList P l.toArray (PartEnd (acts l vs (bs.getD i []) a) o.dst w' (Post i)) [o] (acts l vs (bs.getD i []) a) w')
    (tail : ∀ (vs : Nat → Value) (lo hi : Nat → Nat) (w' : World), Grow w.drew w' → (∀ j, j < N → w.heap.size ≤ lo j ∧ lo j ≤ hi j ∧ hi j ≤ w'.heap.size ∧ Post j (vs j) (lo j) (hi j) w') → (∀ i j, i < N → j < N → i ≠ j → hi i ≤ lo j ∨ hi j ≤ lo i) → wpList P l.toArray Q (l.drop N) (acts l vs (List.range N) a) w') :
    (Code.region id l.toArray true).wp P Q a w := by
  obtain ⟨hN, hsel, hlex, hbs, hdst, hself, htail⟩ := partsB_parts hB
  have htail' : ∀ (i : Nat) o, l[i]? = some o → N < i → i - 1 ∈ direct o := fun i o ho hi => (htail i o ho (by omega) (i - 1) (by omega)).elim (fun h => h) (fun h => h.elim (fun h => absurd h.1 (by omega)) (fun h => h.2))
  refine wp_region_any hm ?_
  have uniq : ∀ (D : List Nat), (∀ j ∈ D, j < N) → ∀ j ∈ D, ∀ k ∈ D, ∀ t, (l[j]?).bind (·.dst) = some t → (l[k]?).bind (·.dst) = some t → k = j := by
    intro D hD j hj k hk t h1 h2
    apply Classical.byContradiction
    intro hne
    have hjl : j < l.length := by have := hD j hj; omega
    have hlj : l[j]? = some l[j] := List.getElem?_eq_getElem hjl
    have := (hdst j l[j] hlj (hD j hj) k (hD k hk) hne t h2).1
    rw [hlj] at h1
    exact this h1
  -- what holds while operations of the first N are left
  have key : ∀ (fuel : Nat) (listed : Array Bool) (b : Act) (w' : World) (D : List Nat) (vs : Nat → Value) (lo hi : Nat → Nat), listed.size = l.length → (∀ j, j ∈ D ↔ j < N ∧ listed[j]? = some true) → D.length + fuel = l.length → D.Nodup →
      (∀ i, N ≤ i → i < l.length → listed[i]? = some false) → (∀ j ∈ D, ∀ k ∈ bs.getD j [], k ∈ D) → b = acts l vs D a → Grow w.drew w' → (∀ j ∈ D, w.heap.size ≤ lo j ∧ lo j ≤ hi j ∧ hi j ≤ w'.heap.size ∧ Post j (vs j) (lo j) (hi j) w') → (∀ i ∈ D, ∀ j ∈ D, i ≠ j → hi i ≤ lo j ∨ hi j ≤ lo i) →
      wpAny P .any l.toArray Q fuel listed b w' := by
    intro fuel
    induction fuel with
    | zero =>
      intro listed b w' D vs lo hi hsz hDm hlen hnd htl hcl hb hg hpost hdis
      -- all are done: then N is the whole
      have hDN : D.length ≤ N := by
        have h1 := hnd.length_le_of_subset (fun j hj => List.mem_range.2 ((hDm j).1 hj).1 : D ⊆ List.range N)
        simpa using h1
      have hNl : N = l.length := by omega
      have hall : ∀ j, j < N → j ∈ D := by
        intro j hj
        apply Classical.byContradiction
        intro hc
        have h1 := (List.nodup_cons.2 ⟨hc, hnd⟩).length_le_of_subset (fun k hk => List.mem_range.2 (by
          rcases List.mem_cons.1 hk with rfl | hk
          · exact hj
          · exact ((hDm k).1 hk).1) : (j :: D) ⊆ List.range N)
        simp at h1
        omega
      refine tail_run (N := N) hlex htail' 0 N listed b w' (by omega) (Nat.le_refl _) hsz (fun i hi => ⟨fun _ => by omega, fun h => ((hDm i).1 (hall i h)).2⟩) ?_
      have hE : b = acts l vs (List.range N) a := by
        rw [hb]
        exact acts_ext l vs vs D (List.range N) a (fun j => ⟨fun h => List.mem_range.2 ((hDm j).1 h).1, fun h => hall j (List.mem_range.1 h)⟩) (fun _ _ => rfl) (uniq D (fun j hj => ((hDm j).1 hj).1))
      rw [hE]
      exact tail vs lo hi w' hg (fun j hj => hpost j (hall j hj)) (fun i j hi hj => hdis i (hall i hi) j (hall j hj))
    | succ fuel ih =>
      intro listed b w' D vs lo hi hsz hDm hlen hnd htl hcl hb hg hpost hdis
      by_cases hfull : ∀ j, j < N → j ∈ D
      · have hDN : D.length = N := by
          have h1 : D.Perm (List.range N) := by
            refine (List.perm_ext_iff_of_nodup hnd List.nodup_range).2 (fun j => ?_)
            rw [List.mem_range]
            exact ⟨fun h => ((hDm j).1 h).1, hfull j⟩
          simpa using h1.length_eq
        refine tail_run (N := N) hlex htail' (fuel + 1) N listed b w' (by omega) (Nat.le_refl _) hsz (fun i hi => ⟨fun h => ?_, fun h => ((hDm i).1 (hfull i h)).2⟩) ?_
        · apply Classical.byContradiction
          intro hc
          rw [htl i (by omega) hi] at h; cases h
        · have hE : b = acts l vs (List.range N) a := by
            rw [hb]
            exact acts_ext l vs vs D (List.range N) a (fun j => ⟨fun h => List.mem_range.2 ((hDm j).1 h).1, fun h => hfull j (List.mem_range.1 h)⟩) (fun _ _ => rfl) (uniq D (fun j hj => ((hDm j).1 hj).1))
          rw [hE]
          exact tail vs lo hi w' hg (fun j hj => hpost j (hfull j hj)) (fun i j hi hj => hdis i (hfull i hi) j (hfull j hj))
      · refine ⟨fun hnil => ?_, fun i hir => ?_⟩
        · exfalso
          apply hfull
          intro j hj
          have := ready_nil (ops := l.toArray) (by simpa using hsz) (fun i o ho => hlex i o (by simpa using ho)) hnil j (by simp; omega)
          have hj2 : j < listed.size := by omega
          simp [hj2] at this
          exact (hDm j).2 ⟨hj, by simp [hj2, this]⟩
        · obtain ⟨o, ho, hf, hd⟩ := ready_spec hir (by simpa using hsz)
          have ho' : l[i]? = some o := by simpa using ho
          have hlt : i < l.length := (List.getElem?_eq_some_iff.1 ho').1
          have direct_in : ∀ k ∈ direct o, k < N → k ∈ D := by
            intro k hk hkN
            have := hd k hk
            have hk2 : k < listed.size := by omega
            simp [hk2] at this
            exact (hDm k).2 ⟨hkN, by simp [hk2, this]⟩
          have hiN : i < N := by
            apply Classical.byContradiction
            intro hc
            refine hfull (fun j hj => ?_)
            rcases htail i o ho' (by omega) j (by omega) with h | ⟨_, k, hk, hkN, h⟩ | ⟨hNi, hNd⟩
            · exact direct_in j h hj
            · exact hcl k (direct_in k hk hkN) j h
            · have h1 := hd (i - 1) hNd
              have h2 := htl (i - 1) (by omega) (by omega)
              rw [Array.getD_eq_getD_getElem?, h2] at h1; cases h1
          have hiD : i ∉ D := fun h => by have := ((hDm i).1 h).2; rw [this] at hf; cases hf
          have hbD : ∀ j ∈ bs.getD i [], j ∈ D := by
            intro j hj
            obtain ⟨_, k, hk, hkN, h⟩ := hbs i o ho' hiN j hj
            have hkD := direct_in k hk hkN
            rcases h with rfl | h
            · exact hkD
            · exact hcl k hkD j h
          have hrun := parts i hiN o ho' vs lo hi w' hg (fun j hj => hpost j (hbD j hj))
          have hag : ∀ t ∈ o.looksAt l.toArray, (acts l vs (bs.getD i []) a).tmps[t]? = b.tmps[t]? := by
            intro t ht
            rw [hb]
            by_cases h : ∃ j ∈ D, (l[j]?).bind (·.dst) = some t
            · obtain ⟨j, hj, hdj⟩ := h
              have hjN := ((hDm j).1 hj).1
              have hji : j ≠ i := fun e => hiD (e ▸ hj)
              have hjb := (hdst i o ho' hiN j hjN hji t hdj).2 ht
              by_cases hts : t < a.tmps.size
              · rw [acts_get_same l vs _ a t hts j hjb hdj (fun k hk he => uniq D (fun j hj => ((hDm j).1 hj).1) j hj k (hbD k hk) t hdj he),
                  acts_get_same l vs _ a t hts j hj hdj (fun k hk he => uniq D (fun j hj => ((hDm j).1 hj).1) j hj k hk t hdj he)]
              · rw [Array.getElem?_eq_none (by rw [acts_size]; exact Nat.le_of_not_lt hts), Array.getElem?_eq_none (by rw [acts_size]; exact Nat.le_of_not_lt hts)]
            · rw [acts_get_other l vs _ a t (fun j hj he => h ⟨j, hbD j hj, he⟩), acts_get_other l vs _ a t (fun j hj he => h ⟨j, hj, he⟩)]
          refine part_run (ops := l.toArray) ho (hsel o (List.mem_of_getElem? ho')) (by rw [acts_size, hb, acts_size]) hag hrun ?_
          intro v w2 hg2 hp2
          refine ih _ _ w2 (i :: D) (fun k => if k = i then v else vs k) (fun k => if k = i then w'.heap.size else lo k) (fun k => if k = i then w2.heap.size else hi k) (by simpa using hsz) (fun j => ?_) (by simp; omega) (List.nodup_cons.2 ⟨hiD, hnd⟩) (fun k hk hkl => ?_) (fun j hj k hk => ?_) ?_ (hg.trans hg2) (fun j hj => ?_) (fun p hp q hq hpq => ?_)
          · rw [List.mem_cons, hDm]
            by_cases e : i = j
            · subst e; simp [show i < listed.size by omega, hiN]
            · rw [Array.getElem?_setIfInBounds_ne e]
              constructor
              · rintro (h | h)
                · exact absurd h.symm e
                · exact h
              · exact .inr
          · rw [Array.getElem?_setIfInBounds_ne (by omega)]; exact htl k hk hkl
          · rcases List.mem_cons.1 hj with rfl | hj
            · exact List.mem_cons_of_mem _ (hbD k hk)
            · exact List.mem_cons_of_mem _ (hcl j hj k hk)
          · have h1 : acts l (fun k => if k = i then v else vs k) (D ++ [i]) a = b.put o.dst v := by
              unfold acts
              rw [List.foldl_append]
              have h2 : acts l (fun k => if k = i then v else vs k) D a = b := by
                rw [hb]
                exact acts_ext l _ _ D D a (fun _ => Iff.rfl) (fun j hj => if_neg (fun e : j = i => hiD (e ▸ hj))) (uniq D (fun j hj => ((hDm j).1 hj).1))
              unfold acts at h2
              rw [h2]
              simp [ho']
            rw [← h1]
            refine acts_ext l _ _ _ _ a (fun j => by simp; exact Or.comm) (fun _ _ => rfl) (uniq (D ++ [i]) (fun j hj => ?_))
            rcases List.mem_append.1 hj with hj | hj
            · exact ((hDm j).1 hj).1
            · simp at hj; omega
          · rcases List.mem_cons.1 hj with rfl | hj
            · have h1 := hg.size
              have h2 := hg2.size
              simp only [if_true]
              exact ⟨h1, h2, Nat.le_refl _, hp2⟩
            · have hne : j ≠ i := fun e => hiD (e ▸ hj)
              obtain ⟨h1, h2, h3, h4⟩ := hpost j hj
              have h5 := hg2.size
              simp only [if_neg hne]
              exact ⟨h1, h2, by omega, stable j _ _ _ _ _ h4 hg2⟩
          · have h5 := hg2.size
            rcases List.mem_cons.1 hp with ep | hp'
            · rcases List.mem_cons.1 hq with eq | hq'
              · exact absurd (ep.trans eq.symm) hpq
              · have hne : q ≠ i := fun e => hpq (ep.trans e.symm)
                simp only [if_pos ep, if_neg hne]
                exact .inr (hpost q hq').2.2.1
            · have hne : p ≠ i := fun e => hiD (e ▸ hp')
              rcases List.mem_cons.1 hq with eq | hq'
              · simp only [if_pos eq, if_neg hne]
                exact .inl (hpost p hp').2.2.1
              · have hne2 : q ≠ i := fun e => hiD (e ▸ hq')
                simp only [if_neg hne, if_neg hne2]
                exact hdis p hp' q hq' hpq
  refine key l.toArray.size (Array.replicate l.toArray.size false) a _ [] (fun _ => undef) (fun _ => 0) (fun _ => 0) (by simp) (fun j => ?_) (by simp) List.nodup_nil (fun i _ hi => by simp [hi]) (fun j hj => by cases hj) rfl (Grow.refl _) (fun j hj => by cases hj) (fun j hj => by cases hj)
  constructor
  · intro h; cases h
  · rintro ⟨_, h⟩
    rw [Array.getElem?_replicate] at h
    split at h <;> simp at h


/-- the frame behind the operations js, by the slots that they write -/
def actsD (ds : List (Option Tmp)) (vs : Nat → Value) (js : List Nat) (a : Act) : Act := js.foldl (fun a j => a.put (ds.getD j none) (vs j)) a

theorem actsD_eq (l : List Oper) (vs : Nat → Value) (js : List Nat) (a : Act) : actsD (l.map (·.dst)) vs js a = acts l vs js a := by
  unfold actsD acts
  congr 1
  funext a j
  congr 1
  rw [List.getD_eq_getElem?_getD, List.getElem?_map]
  cases l[j]? <;> rfl

/-- the rule with the slots written out -/
theorem wp_region_partsD {P : Program} {id : Nat} {l : List Oper} {Q : Exit → Act → World → Prop} {a : Act} {w : World} (N : Nat) (bs : List (List Nat)) (ds : List (Option Tmp)) (hm : P.follows .mixedOrders = true) (hB : partsB l N bs = true)
    (hds : l.map (·.dst) = ds) (Post : Nat → Value → Nat → Nat → World → Prop) (stable : ∀ i v lo hi w w', Post i v lo hi w → Grow w w' → Post i v lo hi w')
    (parts : ∀ i, i < N → ∀ o, l[i]? = some o → ∀ (vs : Nat → Value) (lo hi : Nat → Nat) (w' : World), Grow w w' → (∀ j ∈ bs.getD i [], w.heap.size ≤ lo j ∧ lo j ≤ hi j ∧ hi j ≤ w'.heap.size ∧ Post j (vs j) (lo j) (hi j) w') →
      wpList P l.toArray (PartEnd (actsD ds vs (bs.getD i []) a) o.dst w' (Post i)) [o] (actsD ds vs (bs.getD i []) a) w')
    (tail : ∀ (vs : Nat → Value) (lo hi : Nat → Nat) (w' : World), Grow w w' → (∀ j, j < N → w.heap.size ≤ lo j ∧ lo j ≤ hi j ∧ hi j ≤ w'.heap.size ∧ Post j (vs j) (lo j) (hi j) w') → (∀ i j, i < N → j < N → i ≠ j → hi i ≤ lo j ∨ hi j ≤ lo i) →
      wpList P l.toArray Q (l.drop N) (actsD ds vs (List.range N) a) w') :
    (Code.region id l.toArray true).wp P Q a w := by
  subst hds
  refine wp_region_parts N bs hm hB Post stable (fun i hi o ho vs lo h w' hg hp => ?_) (fun vs lo hi w' hg hp hd => ?_)
  · have := parts i hi o ho vs lo h w' ⟨hg.os, hg.tape, hg.output, hg.size, hg.block⟩ hp
    rw [actsD_eq] at this
    exact this
  · have := tail vs lo hi w' ⟨hg.os, hg.tape, hg.output, hg.size, hg.block⟩ hp hd
    rw [actsD_eq] at this
    exact this

end Go.Proofs.Ytdnjjdpenfhpeaa

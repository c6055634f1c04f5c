/- Who can be reached along edges: plain mathematics. Conditions: none. -/
namespace Go.Proofs.Ytjakekfalooebaa
namespace W

/-- reached along edges, in at least one step -/
inductive Rch (l : List (Int × Int)) : Int → Int → Prop
  | one {a b : Int} : (a, b) ∈ l → Rch l a b
  | snoc {a b c : Int} : Rch l a b → (b, c) ∈ l → Rch l a c

theorem Rch.trans {l : List (Int × Int)} {a b c : Int} (h : Rch l a b) (k : Rch l b c) : Rch l a c := by
  induction k with
  | one e => exact .snoc h e
  | snoc _ e ih => exact .snoc ih e
theorem Rch.mono {l m : List (Int × Int)} {a b : Int} (h : Rch l a b) (hs : ∀ e, e ∈ l → e ∈ m) : Rch m a b := by
  induction h with
  | one e => exact .one (hs _ e)
  | snoc _ e ih => exact .snoc ih (hs _ e)

def flip (l : List (Int × Int)) : List (Int × Int) := l.map fun e => (e.2, e.1)
theorem mem_flip {l : List (Int × Int)} {a b : Int} : (a, b) ∈ flip l ↔ (b, a) ∈ l := by
  simp only [flip, List.mem_map]
  constructor
  · rintro ⟨⟨x, y⟩, h, e⟩
    simp only [Prod.mk.injEq] at e
    obtain ⟨rfl, rfl⟩ := e
    exact h
  · intro h; exact ⟨(b, a), h, rfl⟩
theorem Rch.of_flip {l : List (Int × Int)} {a b : Int} (h : Rch (flip l) a b) : Rch l b a := by
  induction h with
  | one e => exact .one (mem_flip.1 e)
  | snoc _ e ih => exact (Rch.one (mem_flip.1 e)).trans ih
theorem Rch.to_flip {l : List (Int × Int)} {a b : Int} (h : Rch l a b) : Rch (flip l) b a := by
  induction h with
  | one e => exact .one (mem_flip.2 e)
  | snoc _ e ih => exact (Rch.one (mem_flip.2 e)).trans ih
theorem rch_flip {l : List (Int × Int)} {a b : Int} : Rch (flip l) a b ↔ Rch l b a := ⟨Rch.of_flip, Rch.to_flip⟩
theorem Rch.target {l : List (Int × Int)} {a b : Int} (h : Rch l a b) : b ∈ l.map Prod.snd := by
  cases h with
  | one e => exact List.mem_map.2 ⟨_, e, rfl⟩
  | snoc _ e => exact List.mem_map.2 ⟨_, e, rfl⟩
theorem Rch.source {l : List (Int × Int)} {a b : Int} (h : Rch l a b) : a ∈ l.map Prod.fst := by
  induction h with
  | one e => exact List.mem_map.2 ⟨_, e, rfl⟩
  | snoc _ _ ih => exact ih

theorem nodup_le : ∀ (a b : List Int), a.Nodup → (∀ x ∈ a, x ∈ b) → a.length ≤ b.length
  | [], _, _, _ => Nat.zero_le _
  | x :: r, b, h, hs => by
    rw [List.nodup_cons] at h
    have hx : x ∈ b := hs x (List.mem_cons_self ..)
    have := nodup_le r (b.erase x) h.2 (fun y hy => by
      have hne : y ≠ x := fun e => h.1 (e ▸ hy)
      exact (List.mem_erase_of_ne hne).2 (hs y (List.mem_cons_of_mem _ hy)))
    rw [List.length_erase_of_mem hx] at this
    have hp : 0 < b.length := List.length_pos_of_mem hx
    simp only [List.length_cons]; omega

/-- what is told who can be reached -/
structure Reached (L : List (Int × Int)) (f : Int) (out : List Int) : Prop where
  nd : out.Nodup
  iff : ∀ x, x ∈ out ↔ Rch L f x

theorem Reached.length {L : List (Int × Int)} {f : Int} {out : List Int} (h : Reached L f out) : out.length ≤ L.length := by
  have := nodup_le out (L.map Prod.snd) h.nd (fun x hx => ((h.iff x).1 hx).target)
  simpa using this

/-- amid the search: todo's first i are done, of the next one the first k edges -/
structure RI (L : List (Int × Int)) (f : Int) (out T : List Int) (i k : Nat) : Prop where
  nd : out.Nodup
  sub : ∀ x ∈ out, Rch L f x
  td : T = f :: out.filter (fun x => decide (x ≠ f))
  dn : ∀ j, j < i → ∀ x, T[j]? = some x → ∀ y, (x, y) ∈ L → y ∈ out
  cu : ∀ x, T[i]? = some x → ∀ y, (x, y) ∈ L.take k → y ∈ out

theorem RI.start (L : List (Int × Int)) (f : Int) : RI L f [] [f] 0 0 :=
  ⟨List.nodup_nil, by simp, rfl, by omega, by simp⟩

theorem RI.out_le {L : List (Int × Int)} {f : Int} {out T : List Int} {i k : Nat} (h : RI L f out T i k) : out.length ≤ L.length := by
  have := nodup_le out (L.map Prod.snd) h.nd (fun x hx => (h.sub x hx).target)
  simpa using this
theorem RI.T_le {L : List (Int × Int)} {f : Int} {out T : List Int} {i k : Nat} (h : RI L f out T i k) : T.length ≤ L.length + 1 := by
  have h1 := h.out_le
  rw [h.td]
  have := List.length_filter_le (fun x => decide (x ≠ f)) out
  simp only [List.length_cons]; omega
theorem RI.T_pos {L : List (Int × Int)} {f : Int} {out T : List Int} {i k : Nat} (h : RI L f out T i k) : 0 < T.length := by
  rw [h.td]; simp

theorem take_snoc {α : Type} (l : List α) (k : Nat) (e : α) (h : l[k]? = some e) : l.take (k + 1) = l.take k ++ [e] := by
  obtain ⟨hk, rfl⟩ := List.getElem?_eq_some_iff.1 h
  exact List.take_succ_eq_append_getElem hk

theorem RI.skip {L : List (Int × Int)} {f : Int} {out T : List Int} {i k : Nat} (h : RI L f out T i k) {a b x : Int} (he : L[k]? = some (a, b)) (hx : T[i]? = some x) (hn : a ≠ x ∨ b ∈ out) : RI L f out T i (k + 1) := by
  refine ⟨h.nd, h.sub, h.td, h.dn, fun x' hx' y hy => ?_⟩
  rw [hx] at hx'
  obtain rfl := Option.some.inj hx'
  rw [take_snoc _ _ _ he, List.mem_append] at hy
  rcases hy with hy | hy
  · exact h.cu x hx y hy
  · simp only [List.mem_singleton, Prod.mk.injEq] at hy
    obtain ⟨rfl, rfl⟩ := hy
    rcases hn with hn | hn
    · exact absurd rfl hn
    · exact hn

theorem RI.reach_T {L : List (Int × Int)} {f : Int} {out T : List Int} {i k : Nat} (h : RI L f out T i k) {x b : Int} (hx : T[i]? = some x) (he : (x, b) ∈ L) : Rch L f b := by
  have hm := List.mem_of_getElem? hx
  rw [h.td, List.mem_cons] at hm
  rcases hm with rfl | hm
  · exact .one he
  · exact .snoc (h.sub x (List.mem_filter.1 hm).1) he

theorem RI.add {L : List (Int × Int)} {f : Int} {out T : List Int} {i k : Nat} (h : RI L f out T i k) {b x : Int} (he : L[k]? = some (x, b)) (hx : T[i]? = some x) (hn : b ∉ out) :
    RI L f (out ++ [b]) (if b ≠ f then T ++ [b] else T) i (k + 1) := by
  have hmem : (x, b) ∈ L := List.mem_of_getElem? he
  have htd : (if b ≠ f then T ++ [b] else T) = f :: (out ++ [b]).filter (fun x => decide (x ≠ f)) := by
    rw [List.filter_append]
    by_cases hb : b = f
    · rw [if_neg (by simpa using hb), h.td]
      have : List.filter (fun x => decide (x ≠ f)) [b] = [] := by simp [hb]
      rw [this, List.append_nil]
    · rw [if_pos hb, h.td]
      have : List.filter (fun x => decide (x ≠ f)) [b] = [b] := by simp [hb]
      rw [this]; rfl
  have hpre : ∀ j y, j < T.length → (if b ≠ f then T ++ [b] else T)[j]? = some y → T[j]? = some y := by
    intro j y hj hy
    split at hy
    · rwa [List.getElem?_append_left hj] at hy
    · exact hy
  have hi : i < T.length := (List.getElem?_eq_some_iff.1 hx).1
  refine ⟨?_, ?_, htd, ?_, ?_⟩
  · rw [List.nodup_append]
    refine ⟨h.nd, by simp, ?_⟩
    intro y hy z hz
    simp only [List.mem_singleton] at hz
    intro e; exact hn (hz ▸ e ▸ hy)
  · intro y hy
    rw [List.mem_append, List.mem_singleton] at hy
    rcases hy with hy | rfl
    · exact h.sub y hy
    · exact h.reach_T hx hmem
  · intro j hj y hy z hz
    exact List.mem_append_left _ (h.dn j hj y (hpre j y (by omega) hy) z hz)
  · intro y hy z hz
    have hy' := hpre i y hi hy
    rw [hx] at hy'
    obtain rfl := Option.some.inj hy'
    rw [take_snoc _ _ _ he, List.mem_append] at hz
    rcases hz with hz | hz
    · exact List.mem_append_left _ (h.cu x hx z hz)
    · simp only [List.mem_singleton, Prod.mk.injEq, true_and] at hz
      subst hz
      exact List.mem_append_right _ (List.mem_singleton.2 rfl)

theorem RI.next {L : List (Int × Int)} {f : Int} {out T : List Int} {i : Nat} (h : RI L f out T i L.length) : RI L f out T (i + 1) 0 := by
  refine ⟨h.nd, h.sub, h.td, fun j hj x hx y hy => ?_, by simp⟩
  by_cases e : j = i
  · subst e
    exact h.cu x hx y (by rw [List.take_length]; exact hy)
  · exact h.dn j (by omega) x hx y hy

theorem RI.done {L : List (Int × Int)} {f : Int} {out T : List Int} {i k : Nat} (h : RI L f out T i k) (hi : T.length ≤ i) : Reached L f out := by
  have hall : ∀ x ∈ T, ∀ y, (x, y) ∈ L → y ∈ out := by
    intro x hx y hy
    obtain ⟨j, hj, e⟩ := List.getElem_of_mem hx
    exact h.dn j (by omega) x (by rw [List.getElem?_eq_getElem hj, e]) y hy
  have hf : f ∈ T := by rw [h.td]; exact List.mem_cons_self ..
  refine ⟨h.nd, fun x => ⟨h.sub x, fun hr => ?_⟩⟩
  induction hr with
  | one e => exact hall _ hf _ e
  | @snoc b c _ e ih =>
    by_cases hb : b = f
    · subst hb; exact hall _ hf _ e
    · refine hall b ?_ _ e
      rw [h.td]
      exact List.mem_cons_of_mem _ (List.mem_filter.2 ⟨ih, by simpa using hb⟩)

/-- who lies on a round with one, in order -/
structure IsCyc (l : List (Int × Int)) (f : Int) (c : List Int) : Prop where
  ord : c.Pairwise (· < ·)
  iff : ∀ x, x ∈ c ↔ Rch l f x ∧ Rch l x f

theorem sorted_eq : ∀ (a b : List Int), a.Pairwise (· < ·) → b.Pairwise (· < ·) → (∀ x, x ∈ a ↔ x ∈ b) → a = b
  | [], [], _, _, _ => rfl
  | [], y :: s, _, _, h => absurd ((h y).2 (List.mem_cons_self ..)) (by simp)
  | x :: r, [], _, _, h => absurd ((h x).1 (List.mem_cons_self ..)) (by simp)
  | x :: r, y :: s, ha, hb, h => by
    rw [List.pairwise_cons] at ha hb
    have hxy : x = y := by
      have h1 := (h x).1 (List.mem_cons_self ..)
      have h2 := (h y).2 (List.mem_cons_self ..)
      rw [List.mem_cons] at h1 h2
      rcases h1 with h1 | h1
      · exact h1
      · rcases h2 with h2 | h2
        · exact h2.symm
        · have := ha.1 y h2; have := hb.1 x h1; omega
    subst hxy
    have : r = s := sorted_eq r s ha.2 hb.2 (fun z => by
      have := h z
      rw [List.mem_cons, List.mem_cons] at this
      constructor
      · intro hz
        rcases this.1 (.inr hz) with e | e
        · subst e; have := ha.1 z hz; omega
        · exact e
      · intro hz
        rcases this.2 (.inr hz) with e | e
        · subst e; have := hb.1 z hz; omega
        · exact e)
    rw [this]

theorem IsCyc.eq {l : List (Int × Int)} {f : Int} {c d : List Int} (h : IsCyc l f c) (k : IsCyc l f d) : c = d :=
  sorted_eq c d h.ord k.ord (fun x => (h.iff x).trans (k.iff x).symm)
theorem IsCyc.nodup {l : List (Int × Int)} {f : Int} {c : List Int} (h : IsCyc l f c) : c.Nodup := by
  refine h.ord.imp ?_
  intro a b hab e; omega
theorem IsCyc.length {l : List (Int × Int)} {f : Int} {c : List Int} (h : IsCyc l f c) : c.length ≤ l.length := by
  have := nodup_le c (l.map Prod.snd) h.nodup (fun x hx => ((h.iff x).1 hx).1.target)
  simpa using this
theorem IsCyc.pos {l : List (Int × Int)} {f : Int} {c : List Int} (h : IsCyc l f c) : 0 < c.length ↔ Rch l f f := by
  constructor
  · intro hp
    match c, hp, h with
    | x :: r, _, h =>
      have := (h.iff x).1 (List.mem_cons_self ..)
      exact this.1.trans this.2
  · intro hr
    exact List.length_pos_of_mem ((h.iff f).2 ⟨hr, hr⟩)
theorem IsCyc.nil {l : List (Int × Int)} {f : Int} {c : List Int} (h : IsCyc l f c) (hn : ¬ Rch l f f) : c = [] := by
  rcases Nat.eq_zero_or_pos c.length with e | e
  · exact List.eq_nil_of_length_eq_zero e
  · exact absurd (h.pos.1 e) hn

/-- there and back, sorted: who lies on a round -/
theorem cyc_of {l : List (Int × Int)} {f : Int} {there back out c : List Int} (h1 : Reached l f there) (h2 : Reached (flip l) f back) (ho : out = there.filter (fun x => decide (x ∈ back)))
    (hp : ∀ x, x ∈ c ↔ x ∈ out) (hn : c.Nodup) (hs : c.Pairwise (· ≤ ·)) : IsCyc l f c := by
  refine ⟨?_, fun x => ?_⟩
  · have := List.Pairwise.and hs hn
    exact this.imp (fun h => by have := h.1; have := h.2; omega)
  · rw [hp x, ho, List.mem_filter, decide_eq_true_eq, h1.iff, h2.iff, rch_flip]

/-- amid a pass of the reference's search: it began with n0 numbers -/
structure RK (L : List (Int × Int)) (f : Int) (n0 : Nat) (out : List Int) (k : Nat) (again : Bool) : Prop where
  nd : out.Nodup
  sub : ∀ x ∈ out, Rch L f x
  no : again = false → ∀ a b, (a, b) ∈ L.take k → (a = f ∨ a ∈ out) → b ∈ out
  ge : n0 ≤ out.length
  yes : again = true → n0 < out.length

theorem RK.start {L : List (Int × Int)} {f : Int} {out : List Int} (nd : out.Nodup) (sub : ∀ x ∈ out, Rch L f x) : RK L f out.length out 0 false :=
  ⟨nd, sub, by simp, Nat.le_refl _, by simp⟩
theorem RK.out_le {L : List (Int × Int)} {f : Int} {n0 k : Nat} {out : List Int} {again : Bool} (h : RK L f n0 out k again) : out.length ≤ L.length := by
  have := nodup_le out (L.map Prod.snd) h.nd (fun x hx => (h.sub x hx).target)
  simpa using this
theorem RK.skip {L : List (Int × Int)} {f : Int} {n0 k : Nat} {out : List Int} {again : Bool} (h : RK L f n0 out k again) {a b : Int} (he : L[k]? = some (a, b)) (hn : (a = f ∨ a ∈ out) → b ∈ out) : RK L f n0 out (k + 1) again := by
  refine ⟨h.nd, h.sub, fun ha a' b' hm hf => ?_, h.ge, h.yes⟩
  rw [take_snoc _ _ _ he, List.mem_append, List.mem_singleton, Prod.mk.injEq] at hm
  rcases hm with hm | ⟨rfl, rfl⟩
  · exact h.no ha a' b' hm hf
  · exact hn hf
theorem RK.add {L : List (Int × Int)} {f : Int} {n0 k : Nat} {out : List Int} {again : Bool} (h : RK L f n0 out k again) {a b : Int} (he : L[k]? = some (a, b)) (hf : a = f ∨ a ∈ out) (hn : b ∉ out) : RK L f n0 (out ++ [b]) (k + 1) true := by
  refine ⟨?_, ?_, (by intro h; cases h), by have := h.ge; simp; omega, fun _ => by have := h.ge; simp; omega⟩
  · rw [List.nodup_append]
    refine ⟨h.nd, by simp, ?_⟩
    intro y hy z hz
    simp only [List.mem_singleton] at hz
    intro e; exact hn (hz ▸ e ▸ hy)
  · intro y hy
    rw [List.mem_append, List.mem_singleton] at hy
    rcases hy with hy | rfl
    · exact h.sub y hy
    · have hm : (a, y) ∈ L := List.mem_of_getElem? he
      rcases hf with rfl | hf
      · exact .one hm
      · exact .snoc (h.sub a hf) hm
theorem RK.done {L : List (Int × Int)} {f : Int} {n0 k : Nat} {out : List Int} (h : RK L f n0 out k false) (hk : L.length ≤ k) : Reached L f out := by
  have hall := h.no rfl
  rw [List.take_of_length_le hk] at hall
  refine ⟨h.nd, fun x => ⟨h.sub x, fun hr => ?_⟩⟩
  induction hr with
  | one e => exact hall _ _ e (.inl rfl)
  | snoc _ e ih => exact hall _ _ e (.inr ih)

/-- a number put into a rising list, once -/
def putL : List Int → Int → List Int
  | [], n => [n]
  | x :: r, n => if x < n then x :: putL r n else if x = n then x :: r else n :: x :: r

theorem mem_putL (l : List Int) (n x : Int) : x ∈ putL l n ↔ x ∈ l ∨ x = n := by
  induction l with
  | nil => simp [putL]
  | cons y r ih =>
    unfold putL
    split
    · rw [List.mem_cons, ih, List.mem_cons]
      constructor
      · rintro (h | h | h)
        · exact .inl (.inl h)
        · exact .inl (.inr h)
        · exact .inr h
      · rintro ((h | h) | h)
        · exact .inl h
        · exact .inr (.inl h)
        · exact .inr (.inr h)
    · split
      · rename_i h; subst h
        simp only [List.mem_cons]
        constructor
        · intro h; exact .inl h
        · rintro (h | h)
          · exact h
          · exact .inl h
      · simp only [List.mem_cons]
        constructor
        · rintro (h | h | h)
          · exact .inr h
          · exact .inl (.inl h)
          · exact .inl (.inr h)
        · rintro ((h | h) | h)
          · exact .inr (.inl h)
          · exact .inr (.inr h)
          · exact .inl h

theorem putL_sorted (l : List Int) (n : Int) (h : l.Pairwise (· < ·)) : (putL l n).Pairwise (· < ·) := by
  induction l with
  | nil => simp [putL]
  | cons y r ih =>
    rw [List.pairwise_cons] at h
    unfold putL
    split
    · rename_i hyn
      rw [List.pairwise_cons]
      refine ⟨fun z hz => ?_, ih h.2⟩
      rcases (mem_putL r n z).1 hz with hz | rfl
      · exact h.1 z hz
      · exact hyn
    · split
      · rw [List.pairwise_cons]; exact h
      · rename_i h1 h2
        rw [List.pairwise_cons, List.pairwise_cons]
        refine ⟨fun z hz => ?_, h⟩
        rw [List.mem_cons] at hz
        rcases hz with rfl | hz
        · omega
        · have := h.1 z hz; omega

theorem putL_length (l : List Int) (n : Int) : (putL l n).length ≤ l.length + 1 := by
  induction l with
  | nil => simp [putL]
  | cons y r ih =>
    unfold putL
    split
    · simp only [List.length_cons]; omega
    · split <;> simp

/-- where the search for the place ended -/
theorem putL_at (l : List Int) (n : Int) (k : Nat) (hk : k ≤ l.length) (hlt : ∀ x ∈ l.take k, x < n) :
    (l.length ≤ k → putL l n = l.take k ++ [n] ++ l.drop k) ∧ (∀ x, l[k]? = some x → ¬ x < n → x = n → putL l n = l.take k ++ [n] ++ l.drop (k + 1)) ∧ (∀ x, l[k]? = some x → ¬ x < n → ¬ x = n → putL l n = l.take k ++ [n] ++ l.drop k) := by
  induction l generalizing k with
  | nil =>
    simp at hk; subst hk
    simp [putL]
  | cons y r ih =>
    cases k with
    | zero =>
      refine ⟨by simp, ?_, ?_⟩
      · intro x hx h1 h2
        simp at hx; subst hx
        unfold putL
        rw [if_neg h1, if_pos h2]
        simp [h2]
      · intro x hx h1 h2
        simp at hx; subst hx
        unfold putL
        rw [if_neg h1, if_neg h2]
        simp
    | succ k =>
      have hy : y < n := hlt y (by simp)
      obtain ⟨i1, i2, i3⟩ := ih k (by simpa using hk) (fun x hx => hlt x (by rw [List.take_succ_cons]; exact List.mem_cons_of_mem _ hx))
      refine ⟨?_, ?_, ?_⟩
      · intro h
        unfold putL
        rw [if_pos hy, i1 (by simpa using h)]; simp
      · intro x hx h1 h2
        unfold putL
        rw [if_pos hy, i2 x (by simpa using hx) h1 h2]; simp
      · intro x hx h1 h2
        unfold putL
        rw [if_pos hy, i3 x (by simpa using hx) h1 h2]; simp

/-- amid the reference's Cycle: of far the first k are asked -/
structure RC (L : List (Int × Int)) (f : Int) (far out : List Int) (k : Nat) : Prop where
  ord : out.Pairwise (· < ·)
  iff : ∀ x, x ∈ out ↔ x ∈ far.take k ∧ Rch L x f
theorem RC.start (L : List (Int × Int)) (f : Int) (far : List Int) : RC L f far [] 0 := ⟨List.Pairwise.nil, by simp⟩
theorem RC.yes {L : List (Int × Int)} {f : Int} {far out : List Int} {k : Nat} (h : RC L f far out k) {x : Int} (hx : far[k]? = some x) (hr : Rch L x f) : RC L f far (putL out x) (k + 1) := by
  refine ⟨putL_sorted _ _ h.ord, fun y => ?_⟩
  rw [mem_putL, h.iff, take_snoc _ _ _ hx, List.mem_append, List.mem_singleton]
  constructor
  · rintro (⟨h1, h2⟩ | rfl)
    · exact ⟨.inl h1, h2⟩
    · exact ⟨.inr rfl, hr⟩
  · rintro ⟨h1 | rfl, h2⟩
    · exact .inl ⟨h1, h2⟩
    · exact .inr rfl
theorem RC.no {L : List (Int × Int)} {f : Int} {far out : List Int} {k : Nat} (h : RC L f far out k) {x : Int} (hx : far[k]? = some x) (hr : ¬ Rch L x f) : RC L f far out (k + 1) := by
  refine ⟨h.ord, fun y => ?_⟩
  rw [h.iff, take_snoc _ _ _ hx, List.mem_append, List.mem_singleton]
  constructor
  · rintro ⟨h1, h2⟩; exact ⟨.inl h1, h2⟩
  · rintro ⟨h1 | rfl, h2⟩
    · exact ⟨h1, h2⟩
    · exact absurd h2 hr
theorem RC.done {L : List (Int × Int)} {f : Int} {far out : List Int} {k : Nat} (h : RC L f far out k) (hr : Reached L f far) (hk : far.length ≤ k) : IsCyc L f out :=
  ⟨h.ord, fun x => by rw [h.iff, List.take_of_length_le hk, hr.iff]⟩
theorem RC.length {L : List (Int × Int)} {f : Int} {far out : List Int} {k : Nat} (h : RC L f far out k) : out.length ≤ far.length := by
  refine nodup_le out far (h.ord.imp (fun h e => by omega)) (fun x hx => List.mem_of_mem_take ((h.iff x).1 hx).1)

/-- the youngest of a round -/
structure IsVic (l : List (Int × Int)) (f : Int) (v : Int) (ok : Bool) : Prop where
  yes : ok = true → (Rch l f v ∧ Rch l v f) ∧ ∀ x, Rch l f x → Rch l x f → x ≤ v
  no : ok = false → v = 0 ∧ ¬ Rch l f f

theorem IsVic.eq {l : List (Int × Int)} {f v u : Int} {ok is : Bool} (h : IsVic l f v ok) (k : IsVic l f u is) : v = u ∧ ok = is := by
  cases ok <;> cases is
  · exact ⟨(h.no rfl).1.trans (k.no rfl).1.symm, rfl⟩
  · obtain ⟨⟨k1, k2⟩, _⟩ := k.yes rfl
    exact absurd (k1.trans k2) (h.no rfl).2
  · obtain ⟨⟨k1, k2⟩, _⟩ := h.yes rfl
    exact absurd (k1.trans k2) (k.no rfl).2
  · obtain ⟨⟨h1, h2⟩, h3⟩ := h.yes rfl
    obtain ⟨⟨k1, k2⟩, k3⟩ := k.yes rfl
    have := h3 u k1 k2
    have := k3 v h1 h2
    exact ⟨by omega, rfl⟩

theorem last_le : ∀ (c : List Int) (_ : c.Pairwise (· < ·)) (k : Nat) (v : Int), c[k]? = some v → k + 1 = c.length → ∀ x ∈ c, x ≤ v := by
  intro c hc k v hk hl x hx
  obtain ⟨j, hj, e⟩ := List.getElem_of_mem hx
  obtain ⟨hk', e2⟩ := List.getElem?_eq_some_iff.1 hk
  by_cases hjk : j = k
  · subst hjk; rw [← e, e2]; exact Int.le_refl _
  · have := List.pairwise_iff_getElem.1 hc j k hj hk' (by omega)
    omega

theorem IsCyc.vic {l : List (Int × Int)} {f : Int} {c : List Int} (h : IsCyc l f c) : (c = [] → IsVic l f 0 false) ∧ (∀ v, c[c.length - 1]? = some v → IsVic l f v true) := by
  refine ⟨fun e => ⟨(by intro h; cases h), fun _ => ⟨rfl, fun hr => ?_⟩⟩, fun v hv => ⟨fun _ => ⟨(h.iff v).1 (List.mem_of_getElem? hv), fun x h1 h2 => ?_⟩, (by intro h; cases h)⟩⟩
  · have := h.pos.2 hr; rw [e] at this; simp at this
  · have hp : 0 < c.length := List.length_pos_of_mem (List.mem_of_getElem? hv)
    exact last_le c h.ord (c.length - 1) v hv (by omega) x ((h.iff x).2 ⟨h1, h2⟩)

end W
end Go.Proofs.Ytjakekfalooebaa

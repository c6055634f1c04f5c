/- PoolCleans: the plain law: frames, first changes, last changes. Conditions: none. -/
import Derived.Test.YtdnjjdpenfhpeaaPlAwake
namespace Go.Proofs.Ytdnjjdpenfhpeaa
set_option linter.unusedSimpArgs false
set_option linter.unusedVariables false

def upd (f : Nat → Int) (q : Nat) (v : Int) : Nat → Int := fun x => if x = q then v else f x
def UniqF (F : List Fm) : Prop := ∀ (i j : Nat) (x y : Fm), F[i]? = some x → F[j]? = some y → i ≠ j → 0 ≤ x.page → x.page ≠ y.page
/-- frames hold just the pages that were put since they were driven out -/
structure CInv (F : List Fm) (fi la : Nat → Int) : Prop where
  fr : ∀ x ∈ F, (x.page < 0 ∧ x.dirty = false) ∨ ∃ q : Nat, q < 6 ∧ x.page = q ∧ x.dirty = true ∧ fi q = x.rc ∧ 0 < x.rc ∧ x.b = pageL 9 (la q)
  uniq : UniqF F
  has : ∀ q, q < 6 → fi q = 0 ∨ (0 < fi q ∧ ∃ x ∈ F, x.page = (q : Int))
theorem mem_at {α : Type} {l : List α} {x : α} (h : x ∈ l) : ∃ i : Nat, l[i]? = some x := by
  obtain ⟨i, hi, e⟩ := List.getElem_of_mem h
  exact ⟨i, by rw [List.getElem?_eq_getElem hi, e]⟩
theorem set_at {α : Type} {l : List α} {i j : Nat} {y z : α} (h : (l.set i y)[j]? = some z) : (j = i ∧ z = y) ∨ (j ≠ i ∧ l[j]? = some z) := by
  rw [List.getElem?_set] at h
  by_cases e : i = j
  · subst e
    rw [if_pos rfl] at h
    split at h
    · exact .inl ⟨rfl, (Option.some.inj h).symm⟩
    · cases h
  · rw [if_neg e] at h
    exact .inr ⟨fun e2 => e e2.symm, h⟩
theorem uniq_set {F : List Fm} (hu : UniqF F) {i : Nat} {y : Fm} (hy : 0 ≤ y.page → ∀ j z, F[j]? = some z → j ≠ i → z.page ≠ y.page) : UniqF (F.set i y) := by
  intro a b x z hx hz hab h0
  rcases set_at hx with ⟨e1, e2⟩ | ⟨ha, hx2⟩
  · rcases set_at hz with ⟨e3, e4⟩ | ⟨hb, hz2⟩
    · exact absurd (e1.trans e3.symm) hab
    · rw [e2] at h0 ⊢
      exact fun e => hy h0 b z hz2 hb e.symm
  · rcases set_at hz with ⟨e3, e4⟩ | ⟨hb, hz2⟩
    · rw [e4]
      exact fun e => hy (by rw [← e]; exact h0) a x hx2 ha e
    · exact hu a b x z hx2 hz2 hab h0
theorem findL_some {F : List Fm} {m : Int} {i : Nat} (h : findL F m = some i) : ∃ x, F[i]? = some x ∧ x.page = m ∧ 0 ≤ m := by
  obtain ⟨h1, h2, _⟩ := List.findIdx?_eq_some_iff_getElem.1 h
  exact ⟨F[i], List.getElem?_eq_getElem h1, isP_page h2⟩
theorem findL_none {F : List Fm} {m : Int} (h : findL F m = none) (hm : 0 ≤ m) {x : Fm} (hx : x ∈ F) : x.page ≠ m := by
  have h1 := List.findIdx?_eq_none_iff.1 h x hx
  intro e
  unfold isP at h1
  rw [if_pos e] at h1
  simp [hm] at h1
theorem findL_of {F : List Fm} {m : Int} (hm : 0 ≤ m) {x : Fm} (hx : x ∈ F) (hp : x.page = m) : ∃ i, findL F m = some i := by
  cases h : findL F m with
  | some i => exact ⟨i, rfl⟩
  | none => exact absurd hp (findL_none h hm hx)
theorem freeL_some {F : List Fm} {i : Nat} (h : freeL F = some i) : ∃ x, F[i]? = some x ∧ x.page < 0 := by
  obtain ⟨h1, h2, _⟩ := List.findIdx?_eq_some_iff_getElem.1 h
  exact ⟨F[i], List.getElem?_eq_getElem h1, by simpa [isE] using h2⟩
/-- there is room for a page that is not there -/
theorem room {F : List Fm} {pg : Nat} (hu : UniqF F) (hl : F.length = pg) (hp : ∀ x ∈ F, 0 ≤ x.page → x.page < (pg : Int)) {q : Nat} (hq : q < pg) (hno : ∀ x ∈ F, x.page ≠ (q : Int)) : ∃ i, freeL F = some i := by
  cases h : freeL F with
  | some i => exact ⟨i, rfl⟩
  | none =>
    exfalso
    have hall : ∀ x ∈ F, 0 ≤ x.page := fun x hx => by
      have := List.findIdx?_eq_none_iff.1 h x hx
      unfold isE at this
      simpa using this
    have hnd : (F.map (fun x => x.page.toNat)).Nodup := by
      unfold List.Nodup
      rw [List.pairwise_map, List.pairwise_iff_getElem]
      intro i j hi hj hij e
      have hx := hall F[i] (List.getElem_mem hi)
      have hy := hall F[j] (List.getElem_mem hj)
      exact hu i j F[i] F[j] (List.getElem?_eq_getElem hi) (List.getElem?_eq_getElem hj) (by omega) hx (by omega)
    have hnq : q ∉ F.map (fun x => x.page.toNat) := by
      intro hm
      obtain ⟨x, hx, e⟩ := List.mem_map.1 hm
      have := hall x hx
      exact hno x hx (by omega)
    have hlen := (List.nodup_cons.2 ⟨hnq, hnd⟩).length_le_of_subset (l₂ := List.range pg) (by
      intro k hk
      rw [List.mem_range]
      rcases List.mem_cons.1 hk with rfl | hk
      · exact hq
      · obtain ⟨x, hx, rfl⟩ := List.mem_map.1 hk
        have h1 := hall x hx
        have h2 := hp x hx h1
        omega)
    simp only [List.length_cons, List.length_map, List.length_range, hl] at hlen
    omega
theorem CInv.page {F : List Fm} {fi la : Nat → Int} (h : CInv F fi la) {x : Fm} (hx : x ∈ F) {q : Nat} (hp : x.page = (q : Int)) : x.dirty = true ∧ fi q = x.rc ∧ 0 < x.rc ∧ x.b = pageL 9 (la q) ∧ q < 6 := by
  rcases h.fr x hx with ⟨h1, _⟩ | ⟨q', h0, h1, h2, h3, h4, h5⟩
  · omega
  · obtain rfl : q = q' := by omega
    exact ⟨h2, h3, h4, h5, h0⟩
theorem CInv.put {F : List Fm} {fi la : Nat → Int} (h : CInv F fi la) {i q : Nat} (hq : q < 6) {x : Fm} (hx : F[i]? = some x) (hor : x.page = (q : Int) ∨ (x.page < 0 ∧ ∀ z ∈ F, z.page ≠ (q : Int))) (y : Fm) (k : Int) (hy1 : y.page = (q : Int)) (hy2 : y.dirty = true) (hy3 : 0 < y.rc) (hy4 : y.b = pageL 9 k) :
    CInv (F.set i y) (upd fi q y.rc) (upd la q k) := by
  have hne : ∀ j z, F[j]? = some z → j ≠ i → z.page ≠ (q : Int) := by
    intro j z hz hji
    rcases hor with e | ⟨_, e⟩
    · rw [← e]; exact fun e2 => h.uniq i j x z hx hz (fun e => hji e.symm) (by omega) e2.symm
    · exact e z (List.mem_of_getElem? hz)
  refine ⟨fun z hz => ?_, uniq_set h.uniq (fun _ j z hz hj => by rw [hy1]; exact hne j z hz hj), fun p hp => ?_⟩
  · obtain ⟨j, hj⟩ := mem_at hz
    rcases set_at hj with ⟨rfl, rfl⟩ | ⟨hji, hj⟩
    · exact .inr ⟨q, hq, hy1, hy2, by simp [upd], hy3, by simp [upd, hy4]⟩
    · rcases h.fr z (List.mem_of_getElem? hj) with h1 | ⟨q', h0, h1, h2, h3, h4, h5⟩
      · exact .inl h1
      · have hqq : q' ≠ q := fun e => hne j z hj hji (by rw [h1, e])
        exact .inr ⟨q', h0, h1, h2, by simp [upd, hqq, h3], h4, by simp [upd, hqq, h5]⟩
  · by_cases e : p = q
    · subst e
      refine .inr ⟨by simpa [upd] using hy3, y, List.mem_of_getElem? (List.getElem?_set_self (List.getElem?_eq_some_iff.1 hx).1), hy1⟩
    · rcases h.has p hp with h0 | ⟨h0, z, hz, hzp⟩
      · exact .inl (by simp [upd, e, h0])
      · refine .inr ⟨by simpa [upd, e] using h0, z, ?_, hzp⟩
        obtain ⟨j, hj⟩ := mem_at hz
        have hji : j ≠ i := by
          rintro rfl
          rw [hx] at hj
          obtain rfl := Option.some.inj hj
          rcases hor with e1 | ⟨e1, _⟩ <;> omega
        exact List.mem_of_getElem? (by rw [List.getElem?_set_ne (fun e => hji e.symm)]; exact hj)
theorem CInv.free {F : List Fm} {fi la : Nat → Int} (h : CInv F fi la) {i q : Nat} (hq : q < 6) {x : Fm} (hx : F[i]? = some x) (hp : x.page = (q : Int)) : CInv (F.set i Fm.free) (upd fi q 0) la := by
  have hne : ∀ j z, F[j]? = some z → j ≠ i → z.page ≠ (q : Int) := fun j z hz hji => by
    rw [← hp]; exact fun e2 => h.uniq i j x z hx hz (fun e => hji e.symm) (by omega) e2.symm
  refine ⟨fun z hz => ?_, uniq_set h.uniq (fun h0 => absurd h0 (by decide)), fun p hp' => ?_⟩
  · obtain ⟨j, hj⟩ := mem_at hz
    rcases set_at hj with ⟨rfl, rfl⟩ | ⟨hji, hj⟩
    · exact .inl ⟨by decide, rfl⟩
    · rcases h.fr z (List.mem_of_getElem? hj) with h1 | ⟨q', h0, h1, h2, h3, h4, h5⟩
      · exact .inl h1
      · have hqq : q' ≠ q := fun e => hne j z hj hji (by rw [h1, e])
        exact .inr ⟨q', h0, h1, h2, by simp [upd, hqq, h3], h4, h5⟩
  · by_cases e : p = q
    · exact .inl (by simp [upd, e])
    · rcases h.has p hp' with h0 | ⟨h0, z, hz, hzp⟩
      · exact .inl (by simp [upd, e, h0])
      · refine .inr ⟨by simpa [upd, e] using h0, z, ?_, hzp⟩
        obtain ⟨j, hj⟩ := mem_at hz
        have hji : j ≠ i := by
          rintro rfl
          rw [hx] at hj
          obtain rfl := Option.some.inj hj
          omega
        exact List.mem_of_getElem? (by rw [List.getElem?_set_ne (fun e => hji e.symm)]; exact hj)
theorem CInv.new (n : Nat) : CInv (List.replicate n Fm.free) (fun _ => 0) (fun _ => 0) := by
  refine ⟨fun x hx => ?_, fun i j x y hx hy hij h0 => ?_, fun q hq => .inl rfl⟩
  · rw [List.eq_of_mem_replicate hx]; exact .inl ⟨by decide, rfl⟩
  · rw [List.eq_of_mem_replicate (List.mem_of_getElem? hx)] at h0
    exact absurd h0 (by decide)
theorem getD_at {F : List Fm} {i : Nat} {x : Fm} (h : F[i]? = some x) : F.getD i Fm.free = x := by rw [List.getD_eq_getElem?_getD, h]; rfl
/-- Put, in the law -/
theorem cl_put {p : Pl} {fi la : Nat → Int} (h : CInv p.F fi la) (hl : p.F.length = 6) {q : Nat} (hq : q < 6) (k : Int) (hk : 1 ≤ k) :
    (p.put 6 step0 () (q : Nat) (pageL 9 k) k).1 = 0 ∧ CInv (p.put 6 step0 () (q : Nat) (pageL 9 k) k).2.1.F (if fi q = 0 then upd fi q k else fi) (upd la q k) ∧ (p.put 6 step0 () (q : Nat) (pageL 9 k) k).2.1.wr = p.wr ∧ (p.put 6 step0 () (q : Nat) (pageL 9 k) k).2.1.P = p.P := by
  have hupd : upd fi q (fi q) = fi := by funext x; unfold upd; split <;> simp_all
  have hbl := pageL_len 9 k
  obtain ⟨b, hb⟩ : ∃ b, pageL 9 k = b := ⟨_, rfl⟩
  rw [hb] at hbl ⊢
  unfold Pl.put
  rw [if_pos ⟨by omega, by show (q : Int) < ((6 : Nat) : Int); omega, hbl, hk⟩]
  cases hf : findL p.F (q : Nat) with
  | some i =>
    obtain ⟨x, hx, hxp, _⟩ := findL_some hf
    obtain ⟨h1, h2, h3, h4, _⟩ := h.page (List.mem_of_getElem? hx) hxp
    simp only [Pl.putAt, getD_at hx]
    rw [if_pos ⟨hxp, h1⟩]
    refine ⟨trivial, ?_, trivial, trivial⟩
    have := h.put hq hx (.inl hxp) ⟨(q : Nat), b, true, true, x.rc, k⟩ k rfl rfl h3 hb.symm
    rw [if_neg (by omega)]
    simp only [← h2, hupd] at this
    rw [← h2]
    exact this
  | none =>
    have hno : ∀ z ∈ p.F, z.page ≠ ((q : Nat) : Int) := fun z hz => findL_none hf (by omega) hz
    obtain ⟨i, hi⟩ := room h.uniq hl (fun x hx h0 => by
      rcases h.fr x hx with ⟨h1, _⟩ | ⟨q', h0', h1, _⟩
      · omega
      · rw [h1]; omega) hq hno
    obtain ⟨x, hx, hxp⟩ := freeL_some hi
    have hfr : p.free step0 () = (0, i, p, ()) := by unfold Pl.free; rw [hi]
    have h0 : fi q = 0 := (h.has q hq).resolve_right (fun ⟨_, z, hz, e⟩ => hno z hz e)
    simp only [hfr, if_true, Pl.putAt, getD_at hx]
    rw [if_neg (by rintro ⟨e, _⟩; omega)]
    refine ⟨trivial, ?_, trivial, trivial⟩
    rw [if_pos h0]
    exact h.put hq hx (.inr ⟨hxp, hno⟩) ⟨(q : Nat), b, true, true, k, k⟩ k rfl rfl (by show 0 < k; omega) hb.symm
/-- Evict, in the law: nothing was there -/
theorem cl_evict0 {p : Pl} {fi la : Nat → Int} (h : CInv p.F fi la) {q : Nat} (h0 : fi q = 0) : p.evict step0 () (q : Nat) = (0, p, ()) := by
  unfold Pl.evict
  cases hf : findL p.F (q : Nat) with
  | none => rfl
  | some i =>
    obtain ⟨x, hx, hxp, _⟩ := findL_some hf
    obtain ⟨h1, h2, h3, h4, _⟩ := h.page (List.mem_of_getElem? hx) hxp
    omega
theorem cl_evict1 {p : Pl} {fi la : Nat → Int} (h : CInv p.F fi la) {q : Nat} (hq : q < 6) (h0 : 0 < fi q) :
    (p.evict step0 () (q : Nat)).1 = 0 ∧ CInv (p.evict step0 () (q : Nat)).2.1.F (upd fi q 0) la ∧ (p.evict step0 () (q : Nat)).2.1.wr = p.wr + 1 ∧ (p.evict step0 () (q : Nat)).2.1.P q = pageL 9 (la q) := by
  obtain ⟨_, z, hz, hzp⟩ := (h.has q hq).resolve_left (by omega)
  obtain ⟨i, hi⟩ := findL_of (by omega) hz hzp
  obtain ⟨x, hx, hxp, _⟩ := findL_some hi
  obtain ⟨h1, h2, h3, h4, _⟩ := h.page (List.mem_of_getElem? hx) hxp
  have hc := Pl.clean_ok (step := step0) (p := p) (s := ()) (rs := ()) (getD_at hx) h1 rfl
  unfold Pl.evict
  rw [hi]
  simp only [hc, if_true, List.set_set]
  refine ⟨trivial, h.free hq hx hxp, trivial, ?_⟩
  unfold putP
  rw [if_pos (by rw [hxp]; rfl), h4]
/-- what Dirty must tell -/
def expD (fi : Nat → Int) (n : Nat) : List (Int × Int) := (List.range n).filterMap fun q => if fi q = 0 then none else some ((q : Int), fi q)
theorem expD_succ (fi : Nat → Int) (n : Nat) : expD fi (n + 1) = if fi n = 0 then expD fi n else expD fi n ++ [((n : Int), fi n)] := by
  unfold expD
  rw [List.range_succ, List.filterMap_append]
  by_cases h : fi n = 0 <;> simp [h]
theorem expD_lt (fi : Nat → Int) : ∀ (n : Nat) (x : Int × Int), x ∈ expD fi n → 0 ≤ x.1 ∧ x.1 < (n : Int)
  | n, x, h => by
    unfold expD at h
    obtain ⟨q, hq, e⟩ := List.mem_filterMap.1 h
    rw [List.mem_range] at hq
    split at e
    · cases e
    · obtain rfl := Option.some.inj e
      exact ⟨by show (0 : Int) ≤ (q : Int); omega, by show (q : Int) < (n : Int); omega⟩
theorem expD_sorted (fi : Nat → Int) : ∀ n, (expD fi n).Pairwise fun a b => a.1 < b.1
  | 0 => List.Pairwise.nil
  | n + 1 => by
    rw [expD_succ]
    split
    · exact expD_sorted fi n
    · rw [List.pairwise_append]
      refine ⟨expD_sorted fi n, List.pairwise_singleton _ _, fun a ha b hb => ?_⟩
      rw [List.mem_singleton] at hb
      subst hb
      exact (expD_lt fi n a ha).2
theorem key_ext {l m : List (Int × Int)} (hl : l.Pairwise fun a b => a.1 < b.1) (hm : m.Pairwise fun a b => a.1 < b.1) (h : ∀ x, x ∈ l ↔ x ∈ m) : l = m := by
  induction l generalizing m with
  | nil =>
    cases m with
    | nil => rfl
    | cons y r => exact absurd ((h y).2 (List.mem_cons_self ..)) (List.not_mem_nil)
  | cons x s ih =>
    cases m with
    | nil => exact absurd ((h x).1 (List.mem_cons_self ..)) (List.not_mem_nil)
    | cons y r =>
      rw [List.pairwise_cons] at hl hm
      have hxy : x = y := by
        rcases List.mem_cons.1 ((h x).1 (List.mem_cons_self ..)) with e | e
        · exact e
        · rcases List.mem_cons.1 ((h y).2 (List.mem_cons_self ..)) with e2 | e2
          · exact e2.symm
          · have h1 := hl.1 y e2
            have h2 := hm.1 x e
            omega
      subst hxy
      congr 1
      refine ih hl.2 hm.2 (fun z => ⟨fun hz => ?_, fun hz => ?_⟩)
      · rcases List.mem_cons.1 ((h z).1 (List.mem_cons_of_mem _ hz)) with e | e
        · subst e; exact absurd (hl.1 z hz) (by omega)
        · exact e
      · rcases List.mem_cons.1 ((h z).2 (List.mem_cons_of_mem _ hz)) with e | e
        · subst e; exact absurd (hm.1 z hz) (by omega)
        · exact e
theorem dirty_keys {F : List Fm} (hu : UniqF F) (hd : ∀ x ∈ F, x.dirty = true → 0 ≤ x.page) : (dirtyRaw F).Pairwise fun a b => a.1 ≠ b.1 := by
  unfold dirtyRaw
  rw [List.pairwise_map]
  have : F.Pairwise fun x y => x.dirty = true → x.page ≠ y.page := by
    rw [List.pairwise_iff_getElem]
    intro i j hi hj hij hx
    exact hu i j F[i] F[j] (List.getElem?_eq_getElem hi) (List.getElem?_eq_getElem hj) (by omega) (hd _ (List.getElem_mem hi) hx)
  have h2 := this.filter (fun x => x.dirty)
  refine (List.pairwise_iff_getElem.2 ?_ : (F.filter (·.dirty)).Pairwise _)
  intro i j hi hj hij
  exact (List.pairwise_iff_getElem.1 h2) i j hi hj hij (List.mem_filter.1 (List.getElem_mem hi)).2
theorem dirty_strict {F : List Fm} {c : List (Int × Int)} (hu : UniqF F) (hd : ∀ x ∈ F, x.dirty = true → 0 ≤ x.page) (h : IsDirty F c) : c.Pairwise fun a b => a.1 < b.1 := by
  have h1 : c.Pairwise fun a b => a.1 ≠ b.1 := (h.perm.pairwise_iff (fun e1 e2 => e1 e2.symm)).2 (dirty_keys hu hd)
  have h2 := h.ord
  rw [List.pairwise_iff_getElem] at *
  intro i j hi hj hij
  have a := h1 i j hi hj hij
  have b := h2 i j hi hj hij
  omega
theorem CInv.dirty {F : List Fm} {fi la : Nat → Int} (h : CInv F fi la) {c : List (Int × Int)} (hc : IsDirty F c) : c = expD fi 6 := by
  refine key_ext (dirty_strict h.uniq (fun x hx hd => ?_) hc) (expD_sorted fi 6) (fun x => ?_)
  · rcases h.fr x hx with ⟨_, h2⟩ | ⟨q, _, h1, _⟩
    · rw [hd] at h2; cases h2
    · omega
  rw [hc.perm.mem_iff, dirtyRaw, List.mem_map]
  unfold expD
  rw [List.mem_filterMap]
  constructor
  · rintro ⟨y, hy, rfl⟩
    obtain ⟨hy1, hy2⟩ := List.mem_filter.1 hy
    rcases h.fr y hy1 with ⟨_, h2⟩ | ⟨q, h0, h1, h2, h3, h4, h5⟩
    · rw [hy2] at h2; cases h2
    · exact ⟨q, List.mem_range.2 h0, by rw [if_neg (by omega), h1, h3]⟩
  · rintro ⟨q, hq, e⟩
    rw [List.mem_range] at hq
    split at e
    · cases e
    · next hne =>
      obtain rfl := Option.some.inj e
      obtain ⟨_, y, hy, hyp⟩ := (h.has q hq).resolve_left hne
      obtain ⟨h1, h2, _⟩ := h.page hy hyp
      exact ⟨y, List.mem_filter.2 ⟨hy, h1⟩, by rw [hyp, h2]⟩
end Go.Proofs.Ytdnjjdpenfhpeaa

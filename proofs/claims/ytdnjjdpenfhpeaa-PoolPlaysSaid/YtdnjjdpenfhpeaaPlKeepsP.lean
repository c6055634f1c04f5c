/- PoolKeeps: the plain law. Conditions: none. -/
import Derived.Test.YtdnjjdpenfhpeaaPlCleansP
namespace Go.Proofs.Ytdnjjdpenfhpeaa
set_option linter.unusedSimpArgs false
set_option linter.unusedVariables false

/-- a force that keeps the greatest LSN -/
def stepK (t l : Int) : Int × Int := (0, max t l)
/-- what a page holds that was put last with v (0: never) -/
def cont (v : Int) : List UInt8 := if 0 < v then pageL 7 v else zpage
theorem cont_len (v : Int) : (cont v).length = 512 := by
  unfold cont
  split
  · exact pageL_len _ _
  · exact List.length_replicate
structure KInv (F : List Fm) (P : Nat → List UInt8) (top : Int) (is : Nat → Int) : Prop where
  fr : ∀ x ∈ F, (x.page < 0 ∧ x.dirty = false) ∨ ∃ q : Nat, q < 10 ∧ x.page = q ∧ x.b = cont (is q) ∧ (x.dirty = true → x.lsn = is q ∧ 0 < is q) ∧ (x.dirty = false → P q = cont (is q))
  uniq : UniqF F
  out : ∀ q : Nat, q < 10 → (∀ x ∈ F, x.page ≠ (q : Int)) → P q = cont (is q)
  disk : ∀ q : Nat, q < 10 → P q = zpage ∨ ∃ v, 1 ≤ v ∧ v ≤ top ∧ P q = pageL 7 v
theorem KInv.page {F : List Fm} {P : Nat → List UInt8} {top : Int} {is : Nat → Int} (h : KInv F P top is) {x : Fm} (hx : x ∈ F) {q : Nat} (hp : x.page = (q : Int)) : q < 10 ∧ x.b = cont (is q) ∧ (x.dirty = true → x.lsn = is q ∧ 0 < is q) ∧ (x.dirty = false → P q = cont (is q)) := by
  rcases h.fr x hx with ⟨h1, _⟩ | ⟨q', h0, h1, h2, h3, h4⟩
  · omega
  · obtain rfl : q = q' := by omega
    exact ⟨h0, h2, h3, h4⟩
/-- frames that differ by their marks alone -/
def SameF (F F' : List Fm) : Prop := F'.length = F.length ∧ ∀ (i : Nat) (x : Fm), F[i]? = some x → ∃ m, F'[i]? = some { x with marked := m }
theorem SameF.refl (F : List Fm) : SameF F F := ⟨rfl, fun i x h => ⟨x.marked, h⟩⟩
theorem SameF.trans {F G H : List Fm} (h : SameF F G) (k : SameF G H) : SameF F H := ⟨k.1.trans h.1, fun i x hx => by
  obtain ⟨m, hm⟩ := h.2 i x hx
  obtain ⟨m2, hm2⟩ := k.2 i _ hm
  exact ⟨m2, hm2⟩⟩
theorem SameF.set {F : List Fm} {i : Nat} {x : Fm} (hx : F[i]? = some x) (m : Bool) : SameF F (F.set i { x with marked := m }) := by
  refine ⟨List.length_set, fun j y hy => ?_⟩
  by_cases e : i = j
  · subst e
    rw [hx] at hy
    obtain rfl := Option.some.inj hy
    exact ⟨m, List.getElem?_set_self (List.getElem?_eq_some_iff.1 hx).1⟩
  · exact ⟨y.marked, by rw [List.getElem?_set_ne e]; exact hy⟩
theorem SameF.back {F F' : List Fm} (h : SameF F F') {i : Nat} {y : Fm} (hy : F'[i]? = some y) : ∃ x m, F[i]? = some x ∧ y = { x with marked := m } := by
  have hi : i < F.length := by rw [← h.1]; exact (List.getElem?_eq_some_iff.1 hy).1
  obtain ⟨m, hm⟩ := h.2 i F[i] (List.getElem?_eq_getElem hi)
  rw [hy] at hm
  exact ⟨F[i], m, List.getElem?_eq_getElem hi, Option.some.inj hm⟩
theorem KInv.same {F F' : List Fm} {P : Nat → List UInt8} {top : Int} {is : Nat → Int} (h : KInv F P top is) (hs : SameF F F') : KInv F' P top is := by
  refine ⟨fun y hy => ?_, fun i j x y hx hy hij h0 => ?_, fun q hq hno => h.out q hq (fun x hx => ?_), h.disk⟩
  · obtain ⟨i, hi⟩ := mem_at hy
    obtain ⟨x, m, hx, rfl⟩ := hs.back hi
    exact h.fr x (List.mem_of_getElem? hx)
  · obtain ⟨a, m, ha, rfl⟩ := hs.back hx
    obtain ⟨b, m2, hb, rfl⟩ := hs.back hy
    exact h.uniq i j a b ha hb hij h0
  · obtain ⟨i, hi⟩ := mem_at hx
    obtain ⟨m, hm⟩ := hs.2 i x hi
    exact hno { x with marked := m } (List.mem_of_getElem? hm)
theorem sweep_same {n : Nat} : ∀ (m : Nat) (F : List Fm) (h : Nat), SameF F (sweep n m F h).1
  | 0, F, h => SameF.refl F
  | m + 1, F, h => by
    rw [sweep]
    split
    · cases hx : F[h]? with
      | none =>
        have : F.set h { F.getD h Fm.free with marked := false } = F := by
          rw [List.set_eq_of_length_le]
          exact List.getElem?_eq_none_iff.1 hx
        rw [this]
        exact sweep_same m F _
      | some x =>
        rw [getD_at hx]
        exact (SameF.set hx false).trans (sweep_same m _ _)
    · exact SameF.refl F
/-- a frame is written -/
theorem KInv.clean {F : List Fm} {P : Nat → List UInt8} {top : Int} {is : Nat → Int} (h : KInv F P top is) {i : Nat} {x : Fm} (hx : F[i]? = some x) (hd : x.dirty = true) :
    KInv (F.set i { x with dirty := false }) (putP P x.page.toNat x.b) (max top x.lsn) is := by
  obtain ⟨q, hq, hp, hb, h1, h2⟩ := (h.fr x (List.mem_of_getElem? hx)).resolve_left (by rintro ⟨_, e⟩; rw [hd] at e; cases e)
  obtain ⟨hl, h0⟩ := h1 hd
  have hqn : x.page.toNat = q := by rw [hp]; rfl
  rw [hqn]
  have hne : ∀ j z, F[j]? = some z → j ≠ i → z.page ≠ (q : Int) := fun j z hz hji => by
    rw [← hp]; exact fun e2 => h.uniq i j x z hx hz (fun e => hji e.symm) (by omega) e2.symm
  refine ⟨fun z hz => ?_, uniq_set h.uniq (fun _ j z hz hj => by show z.page ≠ x.page; rw [hp]; exact hne j z hz hj), fun r hr hno => ?_, fun r hr => ?_⟩
  · obtain ⟨j, hj⟩ := mem_at hz
    rcases set_at hj with ⟨e1, e2⟩ | ⟨hji, hj⟩
    · rw [e2]
      refine .inr ⟨q, hq, hp, hb, fun e => ?_, fun _ => ?_⟩
      · cases e
      · unfold putP; rw [if_pos rfl, hb]
    · rcases h.fr z (List.mem_of_getElem? hj) with h1 | ⟨r, r0, r1, r2, r3, r4⟩
      · exact .inl h1
      · have hrq : r ≠ q := fun e => hne j z hj hji (by rw [r1, e])
        exact .inr ⟨r, r0, r1, r2, r3, fun e => by unfold putP; rw [if_neg hrq]; exact r4 e⟩
  · have hrq : r ≠ q := fun e => hno _ (List.mem_of_getElem? (List.getElem?_set_self (List.getElem?_eq_some_iff.1 hx).1)) (by show x.page = _; rw [hp, e])
    unfold putP
    rw [if_neg hrq]
    refine h.out r hr (fun z hz => ?_)
    obtain ⟨j, hj⟩ := mem_at hz
    by_cases e : i = j
    · subst e
      rw [hx] at hj
      obtain rfl := Option.some.inj hj
      rw [hp]; omega
    · exact hno z (List.mem_of_getElem? (by rw [List.getElem?_set_ne e]; exact hj))
  · unfold putP
    by_cases e : r = q
    · rw [if_pos e, hb, cont, if_pos h0]
      exact .inr ⟨is q, by omega, by omega, rfl⟩
    · rw [if_neg e]
      rcases h.disk r hr with h1 | ⟨v, v1, v2, v3⟩
      · exact .inl h1
      · exact .inr ⟨v, v1, by omega, v3⟩
theorem KInv.more {F : List Fm} {P : Nat → List UInt8} {top top' : Int} {is : Nat → Int} (h : KInv F P top is) (ht : top ≤ top') : KInv F P top' is :=
  ⟨h.fr, h.uniq, h.out, fun q hq => (h.disk q hq).imp id (fun ⟨v, a, b, c⟩ => ⟨v, a, by omega, c⟩)⟩
/-- a frame that is clean is let go -/
theorem KInv.drop {F : List Fm} {P : Nat → List UInt8} {top : Int} {is : Nat → Int} (h : KInv F P top is) {i : Nat} {x : Fm} (hx : F[i]? = some x) (hd : x.dirty = false) : KInv (F.set i Fm.free) P top is := by
  refine ⟨fun z hz => ?_, uniq_set h.uniq (fun h0 => absurd h0 (by decide)), fun r hr hno => ?_, h.disk⟩
  · obtain ⟨j, hj⟩ := mem_at hz
    rcases set_at hj with ⟨e1, e2⟩ | ⟨hji, hj⟩
    · rw [e2]; exact .inl ⟨by decide, rfl⟩
    · exact h.fr z (List.mem_of_getElem? hj)
  · by_cases e : x.page = (r : Int)
    · exact (h.page (List.mem_of_getElem? hx) e).2.2.2 hd
    · refine h.out r hr (fun z hz => ?_)
      obtain ⟨j, hj⟩ := mem_at hz
      by_cases e2 : i = j
      · subst e2
        rw [hx] at hj
        obtain rfl := Option.some.inj hj
        exact e
      · exact hno z (List.mem_of_getElem? (by rw [List.getElem?_set_ne e2]; exact hj))
theorem max_facts (a b : Int) : a ≤ max a b ∧ (∀ c, a ≤ c → b ≤ c → max a b ≤ c) := ⟨by omega, fun c h1 h2 => by omega⟩
/-- what clean and a dropped frame leave -/
structure KStep (p p' : Pl) (top top' : Int) (is : Nat → Int) : Prop where
  inv : KInv p'.F p'.P top' is
  le : top ≤ top'
  up : ∀ N, top ≤ N → (∀ q, q < 10 → is q ≤ N) → top' ≤ N
  wr : p'.wr ≤ p.wr + 1
  len : p'.F.length = p.F.length
theorem clean_facts {p : Pl} {top : Int} {is : Nat → Int} (h : KInv p.F p.P top is) {i : Nat} {x : Fm} (hx : p.F[i]? = some x) :
    (p.clean stepK top i).1 = 0 ∧ KStep p (p.clean stepK top i).2.1 top (p.clean stepK top i).2.2 is ∧ (p.clean stepK top i).2.1.F = p.F.set i { x with dirty := false } ∧ (p.clean stepK top i).2.1.hand = p.hand := by
  cases hd : x.dirty with
  | true =>
    rw [Pl.clean_ok (getD_at hx) hd (rs := max top x.lsn) rfl]
    refine ⟨rfl, ⟨h.clean hx hd, (max_facts _ _).1, fun N h1 h2 => (max_facts _ _).2 N h1 ?_, Nat.le_refl _, List.length_set⟩, rfl, rfl⟩
    obtain ⟨q, hq, hp, hb, h3, h4⟩ := (h.fr x (List.mem_of_getElem? hx)).resolve_left (by rintro ⟨_, e⟩; rw [hd] at e; cases e)
    rw [(h3 hd).1]; exact h2 q hq
  | false =>
    rw [Pl.clean_no (by rw [getD_at hx]; exact hd)]
    refine ⟨rfl, ⟨h, Int.le_refl _, fun N h1 _ => h1, Nat.le_succ _, rfl⟩, ?_, rfl⟩
    show p.F = _
    have : ({ x with dirty := false } : Fm) = x := by cases x; simp at hd; subst hd; rfl
    rw [this]
    apply List.ext_getElem?
    intro j
    rw [List.getElem?_set]
    split
    · next e => subst e; rw [hx, if_pos (List.getElem?_eq_some_iff.1 hx).1]
    · rfl
/-- Evict, in the law -/
theorem kp_evict {p : Pl} {top : Int} {is : Nat → Int} (h : KInv p.F p.P top is) {q : Nat} (hq : q < 10) :
    (p.evict stepK top (q : Nat)).1 = 0 ∧ KStep p (p.evict stepK top (q : Nat)).2.1 top (p.evict stepK top (q : Nat)).2.2 is ∧ findL (p.evict stepK top (q : Nat)).2.1.F (q : Nat) = none := by
  unfold Pl.evict
  cases hf : findL p.F (q : Nat) with
  | none => exact ⟨rfl, ⟨h, Int.le_refl _, fun N h1 _ => h1, Nat.le_succ _, rfl⟩, hf⟩
  | some i =>
    obtain ⟨x, hx, hxp, _⟩ := findL_some hf
    obtain ⟨h1, h2, h3, _⟩ := clean_facts h hx
    simp only [h1, if_true]
    have hxi : (p.clean stepK top i).2.1.F[i]? = some { x with dirty := false } := by rw [h3]; exact List.getElem?_set_self (List.getElem?_eq_some_iff.1 hx).1
    refine ⟨trivial, ⟨h2.inv.drop hxi rfl, h2.le, h2.up, h2.wr, by rw [List.length_set]; exact h2.len⟩, ?_⟩
    rw [h3, List.set_set]
    refine List.findIdx?_eq_none_iff.2 (fun z hz => ?_)
    obtain ⟨j, hj⟩ := mem_at hz
    unfold isP
    rw [if_neg]
    rcases set_at hj with ⟨e1, e2⟩ | ⟨hji, hj⟩
    · rw [e2]; show ¬ (-1 : Int) = _; omega
    · rw [← hxp]; exact fun e2 => h.uniq i j x z hx hj (fun e => hji e.symm) (by omega) e2.symm
/-- a frame is made free -/
theorem kp_free {p : Pl} {top : Int} {is : Nat → Int} (h : KInv p.F p.P top is) {n : Nat} (hok : p.ok 10 n) :
    (p.free stepK top).1 = 0 ∧ KStep p (p.free stepK top).2.2.1 top (p.free stepK top).2.2.2 is ∧ (∃ x, (p.free stepK top).2.2.1.F[(p.free stepK top).2.1]? = some x ∧ x.page < 0 ∧ x.dirty = false) ∧
    (∀ q : Nat, (∀ x ∈ p.F, x.page ≠ (q : Int)) → ∀ x ∈ (p.free stepK top).2.2.1.F, x.page ≠ (q : Int)) ∧ (∀ q : Nat, (∀ x ∈ p.F, x.page ≠ (q : Int)) → (p.free stepK top).2.2.1.P q = p.P q) := by
  unfold Pl.free
  cases hf : freeL p.F with
  | some i =>
    obtain ⟨x, hx, hxp⟩ := freeL_some hf
    refine ⟨rfl, ⟨h, Int.le_refl _, fun N h1 _ => h1, Nat.le_succ _, rfl⟩, ⟨x, hx, hxp, ?_⟩, fun q h => h, fun q _ => rfl⟩
    rcases h.fr x (List.mem_of_getElem? hx) with ⟨_, e⟩ | ⟨r, _, e, _⟩
    · exact e
    · omega
  | none =>
    have hs : SameF p.F p.swept.1 := sweep_same _ _ _
    have hi : p.swept.2.2 < p.F.length := sweep_lt (by rw [hok.len]; have := hok.n1; omega) _ _ _ (by rw [hok.len]; exact hok.hand)
    obtain ⟨m, hm⟩ := hs.2 _ _ (List.getElem?_eq_getElem hi)
    have hk : KInv (Pl.mk p.swept.1 p.swept.2.1 p.wr p.P).F (Pl.mk p.swept.1 p.swept.2.1 p.wr p.P).P top is := h.same hs
    obtain ⟨h1, h2, h3, h4⟩ := clean_facts hk hm
    simp only [Pl.freed]
    generalize hc : Pl.clean stepK { p with F := p.swept.1, hand := p.swept.2.1 } top p.swept.2.2 = c at *
    generalize p.swept.2.2 = i at *
    rw [if_pos h1]
    have hlen : i < p.swept.1.length := by rw [hs.1]; exact hi
    have hxi : c.2.1.F[i]? = some { ({ p.F[i] with marked := m } : Fm) with dirty := false } := by rw [h3]; exact List.getElem?_set_self hlen
    refine ⟨rfl, ⟨h2.inv.drop hxi rfl, h2.le, h2.up, h2.wr, by show (c.2.1.F.set i Fm.free).length = _; rw [List.length_set, h2.len]; exact hs.1⟩, ⟨Fm.free, by show (c.2.1.F.set i Fm.free)[i]? = _; rw [h3, List.set_set]; exact List.getElem?_set_self hlen, by decide, rfl⟩, ?_, ?_⟩
    · intro q hno z hz
      have hz' : z ∈ c.2.1.F.set i Fm.free := hz
      rw [h3, List.set_set] at hz'
      obtain ⟨j, hj⟩ := mem_at hz'
      rcases set_at hj with ⟨e1, e2⟩ | ⟨hji, hj⟩
      · rw [e2]; show ¬ (-1 : Int) = _; omega
      · obtain ⟨y, m2, hy, rfl⟩ := hs.back hj
        exact hno y (List.mem_of_getElem? hy)
    · intro q hno
      show c.2.1.P q = p.P q
      rw [← hc]
      have hpi : (p.F[i]).page ≠ (q : Int) := hno _ (List.getElem_mem hi)
      cases hd : (p.F[i]).dirty with
      | true =>
        rw [Pl.clean_ok (x := { p.F[i] with marked := m }) (getD_at hm) hd (rs := max top (p.F[i]).lsn) rfl]
        show putP p.P (p.F[i]).page.toNat _ q = _
        unfold putP
        rw [if_neg]
        rcases h.fr _ (List.getElem_mem hi) with ⟨_, e⟩ | ⟨r, _, e, _⟩
        · rw [hd] at e; cases e
        · rw [e] at hpi ⊢; intro e2; apply hpi; rw [e2]; rfl
      | false =>
        rw [Pl.clean_no (by show (p.swept.1.getD i Fm.free).dirty = false; rw [getD_at hm]; exact hd)]
/-- a page is put into a frame -/
theorem KInv.put {F : List Fm} {P : Nat → List UInt8} {top : Int} {is : Nat → Int} (h : KInv F P top is) {i q : Nat} (hq : q < 10) {x : Fm} (hx : F[i]? = some x) (hor : x.page = (q : Int) ∨ (x.page < 0 ∧ ∀ z ∈ F, z.page ≠ (q : Int))) (y : Fm) (v : Int) (hy1 : y.page = (q : Int)) (hy2 : y.b = cont v) (hy3 : y.dirty = true → y.lsn = v ∧ 0 < v) (hy4 : y.dirty = false → P q = cont v) :
    KInv (F.set i y) P top (upd is q v) := by
  have hne : ∀ j z, F[j]? = some z → j ≠ i → z.page ≠ (q : Int) := by
    intro j z hz hji
    rcases hor with e | ⟨_, e⟩
    · rw [← e]; exact fun e2 => h.uniq i j x z hx hz (fun e => hji e.symm) (by omega) e2.symm
    · exact e z (List.mem_of_getElem? hz)
  refine ⟨fun z hz => ?_, uniq_set h.uniq (fun _ j z hz hj => by rw [hy1]; exact hne j z hz hj), fun r hr hno => ?_, h.disk⟩
  · obtain ⟨j, hj⟩ := mem_at hz
    rcases set_at hj with ⟨e1, e2⟩ | ⟨hji, hj⟩
    · rw [e2]
      exact .inr ⟨q, hq, hy1, by simp [upd, hy2], fun e => by simpa [upd] using hy3 e, fun e => by simpa [upd] using hy4 e⟩
    · rcases h.fr z (List.mem_of_getElem? hj) with h1 | ⟨r, r0, r1, r2, r3, r4⟩
      · exact .inl h1
      · have hrq : r ≠ q := fun e => hne j z hj hji (by rw [r1, e])
        exact .inr ⟨r, r0, r1, by simp [upd, hrq, r2], fun e => by simpa [upd, hrq] using r3 e, fun e => by simpa [upd, hrq] using r4 e⟩
  · have hrq : r ≠ q := fun e => hno y (List.mem_of_getElem? (List.getElem?_set_self (List.getElem?_eq_some_iff.1 hx).1)) (by rw [hy1, e])
    have : upd is q v r = is r := by simp [upd, hrq]
    rw [this]
    refine h.out r hr (fun z hz => ?_)
    obtain ⟨j, hj⟩ := mem_at hz
    by_cases e : i = j
    · subst e
      rw [hx] at hj
      obtain rfl := Option.some.inj hj
      rcases hor with e | ⟨e, _⟩ <;> omega
    · exact hno z (List.mem_of_getElem? (by rw [List.getElem?_set_ne e]; exact hj))
theorem upd_self (f : Nat → Int) (q : Nat) : upd f q (f q) = f := by funext x; unfold upd; split <;> simp_all
theorem cont_put {k : Int} (h : 0 < k) : cont k = pageL 7 k := by unfold cont; rw [if_pos h]
/-- Put, in the law -/
theorem kp_put {p : Pl} {top : Int} {is : Nat → Int} (h : KInv p.F p.P top is) {n : Nat} (hok : p.ok 10 n) {q : Nat} (hq : q < 10) (k : Int) (hk : 1 ≤ k) :
    (p.put 10 stepK top (q : Nat) (pageL 7 k) k).1 = 0 ∧ KInv (p.put 10 stepK top (q : Nat) (pageL 7 k) k).2.1.F (p.put 10 stepK top (q : Nat) (pageL 7 k) k).2.1.P (p.put 10 stepK top (q : Nat) (pageL 7 k) k).2.2 (upd is q k) ∧
    (∀ N, top ≤ N → (∀ q, q < 10 → is q ≤ N) → (p.put 10 stepK top (q : Nat) (pageL 7 k) k).2.2 ≤ N) ∧ (p.put 10 stepK top (q : Nat) (pageL 7 k) k).2.1.wr ≤ p.wr + 1 := by
  have hbl := pageL_len 7 k
  have hcb := cont_put (show 0 < k by omega)
  obtain ⟨b, hb⟩ : ∃ b, pageL 7 k = b := ⟨_, rfl⟩
  rw [hb] at hbl hcb ⊢
  unfold Pl.put
  rw [if_pos ⟨by omega, by show (q : Int) < ((10 : Nat) : Int); omega, hbl, hk⟩]
  cases hf : findL p.F (q : Nat) with
  | some i =>
    obtain ⟨x, hx, hxp, _⟩ := findL_some hf
    simp only [Pl.putAt, getD_at hx]
    exact ⟨trivial, h.put hq hx (.inl hxp) ⟨(q : Nat), b, true, true, _, k⟩ k rfl hcb.symm (fun _ => ⟨rfl, by omega⟩) (fun e => by cases e), fun N h1 _ => h1, Nat.le_succ _⟩
  | none =>
    have hno : ∀ z ∈ p.F, z.page ≠ ((q : Nat) : Int) := fun z hz => findL_none hf (by omega) hz
    obtain ⟨h1, h2, ⟨x, hx, hxp, _⟩, h4, _⟩ := kp_free h hok
    simp only [h1, if_true, Pl.putAt, getD_at hx]
    exact ⟨trivial, h2.inv.put hq hx (.inr ⟨hxp, h4 q hno⟩) ⟨(q : Nat), b, true, true, _, k⟩ k rfl hcb.symm (fun _ => ⟨rfl, by omega⟩) (fun e => by cases e), h2.up, h2.wr⟩
/-- Get, in the law -/
theorem kp_get {p : Pl} {top : Int} {is : Nat → Int} (h : KInv p.F p.P top is) {n : Nat} (hok : p.ok 10 n) {q : Nat} (hq : q < 10) :
    (p.get 10 stepK top (q : Nat)).1 = 0 ∧ (p.get 10 stepK top (q : Nat)).2.1 = cont (is q) ∧ KInv (p.get 10 stepK top (q : Nat)).2.2.1.F (p.get 10 stepK top (q : Nat)).2.2.1.P (p.get 10 stepK top (q : Nat)).2.2.2 is ∧
    (∀ N, top ≤ N → (∀ q, q < 10 → is q ≤ N) → (p.get 10 stepK top (q : Nat)).2.2.2 ≤ N) ∧ (p.get 10 stepK top (q : Nat)).2.2.1.wr ≤ p.wr + 1 := by
  unfold Pl.get
  cases hf : findL p.F (q : Nat) with
  | some i =>
    obtain ⟨x, hx, hxp, _⟩ := findL_some hf
    obtain ⟨_, h2, _⟩ := h.page (List.mem_of_getElem? hx) hxp
    simp only [getD_at hx]
    exact ⟨trivial, h2, h.same (SameF.set hx true), fun N h1 _ => h1, Nat.le_succ _⟩
  | none =>
    have hno : ∀ z ∈ p.F, z.page ≠ ((q : Nat) : Int) := fun z hz => findL_none hf (by omega) hz
    obtain ⟨h1, h2, ⟨x, hx, hxp, _⟩, h4, h5⟩ := kp_free h hok
    have hpq := h.out q hq hno
    simp only []
    rw [if_pos ⟨by omega, by omega⟩, Int.toNat_natCast]
    simp only [Pl.got, h1, if_true]
    have := h2.inv.put hq hx (.inr ⟨hxp, h4 q hno⟩) ⟨(q : Nat), p.P q, false, true, 0, 0⟩ (is q) rfl hpq (fun e => by cases e) (fun _ => (h5 q hno).trans hpq)
    rw [upd_self] at this
    exact ⟨trivial, hpq, this, h2.up, h2.wr⟩
theorem KInv.new (n : Nat) : KInv (List.replicate n Fm.free) P0 0 (fun _ => 0) := by
  refine ⟨fun x hx => ?_, fun i j x y hx hy hij h0 => ?_, fun q hq _ => rfl, fun q hq => .inl rfl⟩
  · rw [List.eq_of_mem_replicate hx]; exact .inl ⟨by decide, rfl⟩
  · rw [List.eq_of_mem_replicate (List.mem_of_getElem? hx)] at h0
    exact absurd h0 (by decide)
theorem page_first (a b : Int) : (pageL a b)[0]? = some (pbyte a b 0) := by
  unfold pageL
  rw [List.getElem?_map, List.getElem?_range (by decide)]
  rfl
theorem pbyte_first (a b : Int) (h0 : 0 ≤ b) (h1 : b < 256) : pbyte a b 0 = UInt8.ofNat b.toNat := by
  unfold pbyte
  congr 1
  simp
  omega
/-- no page on the device is one of a later LSN -/
theorem KInv.apart {F : List Fm} {P : Nat → List UInt8} {top : Int} {is : Nat → Int} (h : KInv F P top is) {q : Nat} (hq : q < 10) (ht : 0 ≤ top) {l : Int} (hl : top < l) (hl2 : l ≤ 200) : P q ≠ pageL 7 l := by
  intro e
  have h1 := page_first 7 l
  rw [pbyte_first 7 l (by omega) (by omega)] at h1
  have hinj : ∀ a b : Int, 0 ≤ a → a < 256 → 0 ≤ b → b < 256 → UInt8.ofNat a.toNat = UInt8.ofNat b.toNat → a = b := by
    intro a b a0 a1 b0 b1 e
    have := congrArg UInt8.toNat e
    rw [UInt8.toNat_ofNat', UInt8.toNat_ofNat'] at this
    omega
  rcases h.disk q hq with h2 | ⟨v, v1, v2, v3⟩
  · rw [← e, h2] at h1
    have h3 : zpage[0]? = some (UInt8.ofNat (0 : Int).toNat) := by unfold zpage; rw [List.getElem?_replicate, if_pos (by decide)]; rfl
    rw [h3] at h1
    have := hinj 0 l (by omega) (by omega) (by omega) (by omega) (Option.some.inj h1)
    omega
  · rw [← e, v3, page_first, pbyte_first 7 v (by omega) (by omega)] at h1
    have := hinj v l (by omega) (by omega) (by omega) (by omega) (Option.some.inj h1)
    omega
end Go.Proofs.Ytdnjjdpenfhpeaa

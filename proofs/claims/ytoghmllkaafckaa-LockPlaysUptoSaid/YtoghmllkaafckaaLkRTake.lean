/- The document's table that may be written; Take, walked. Conditions: at most 2^20 locks and wants. -/
import Derived.Test.YtoghmllkaafckaaLkRAsk
namespace Go.Proofs.Ytoghmllkaafckaa
set_option linter.unusedSimpArgs false
set_option linter.unusedVariables false
open Go.RowKit

theorem holdsOf : SliceOf Try.prog 43 72 (.agg #[.int .i64 0, .string ByteArray.empty, .int .i64 0]) 3 32 := ⟨Try.underlying43, by kernel_rfl, rfl, by decide⟩

/-- the document's table, its slice in a row of its own -/
structure TabQ (w : World) (G tb : Nat) (v : Value) (n : Nat) (L : List Hd) : Prop where
  box : Box w tb [v]
  own : w.ownsRow G 72 3 v n (hcells L)
  sep : ¬ v.ownBlock = some tb
  len : L.length = n
theorem TabQ.read {w : World} {G tb n : Nat} {v : Value} {L : List Hd} (h : TabQ w G tb v n L) : ∃ ao c, v = .slice ao n c ∧ TabR w tb n c ao L := by
  obtain ⟨ao, c, e⟩ := (Reads.of_own h.own).shape
  subst e
  exact ⟨ao, c, rfl, h.box, Reads.of_own h.own, h.len⟩
theorem TabQ.grow {X : Nat → Prop} {w w' : World} {G tb n : Nat} {v : Value} {L : List Hd} (h : TabQ w G tb v n L) (hg : GrowX X w w') (h1 : ¬ X tb) (h2 : ∀ q, v.ownBlock = some q → ¬ X q) : TabQ w' G tb v n L :=
  ⟨h.box.growx hg h1, own_growx h.own hg h2, h.sep, h.len⟩
theorem TabQ.below {w w' : World} {G tb n : Nat} {v : Value} {L : List Hd} (h : TabQ w G tb v n L) (hb : Below w.heap.size w w') : TabQ w' G tb v n L :=
  h.grow (X := fun _ => False) (grow_below hb) (fun h => h) (fun _ _ h => h)
def TabQStep (G tb : Nat) (v : Value) (P : List Hd → Prop) (N : Nat) (w w' : World) : Prop :=
  ∃ (v' : Value) (n' : Nat) (M : List Hd), P M ∧ TabQ w' G tb v' n' M ∧ n' ≤ N ∧ (∀ q, v'.ownBlock = some q → v.ownBlock = some q ∨ w.heap.size ≤ q) ∧ GrowX (fun k => k = tb ∨ v.ownBlock = some k) w w'

/-- of the wants the first k are taken -/
structure RTook (M : List Hd) (id : Int) (l : List Wn) (k : Nat) (T : List Hd) : Prop where
  uniq : Uniq T
  iff : ∀ x : Hd, x ∈ T ↔ (x ∈ M ∧ ¬ (x.1 = id ∧ wanted (l.take k) x.2.1)) ∨ (x.1 = id ∧ wanted (l.take k) x.2.1 ∧ x.2.2 = goal M id l x.2.1)
theorem wanted_take {l : List Wn} {k : Nat} {n : ByteArray} (h : wanted (l.take k) n) : wanted l n := by
  obtain ⟨w, h1, h2⟩ := h; exact ⟨w, List.mem_of_mem_take h1, h2⟩
theorem RTook.goal {M T : List Hd} {id : Int} {l : List Wn} {k : Nat} (hM : Uniq M) (h : RTook M id l k T) (n : ByteArray) : goal T id l n = Go.Proofs.Ytoghmllkaafckaa.goal M id l n := by
  unfold Go.Proofs.Ytoghmllkaafckaa.goal
  by_cases hw : wanted (l.take k) n
  · have : modeL T id n = Go.Proofs.Ytoghmllkaafckaa.goal M id l n := modeL_some h.uniq ((h.iff _).2 (.inr ⟨rfl, hw, rfl⟩))
    rw [this]
    exact goalF_idem l n _
  · have : modeL T id n = modeL M id n := by
      by_cases he : ∃ m, (id, n, m) ∈ M
      · obtain ⟨m, hm⟩ := he
        rw [modeL_some hM hm]
        exact modeL_some h.uniq ((h.iff _).2 (.inl ⟨hm, fun e => hw e.2⟩))
      · rw [modeL_none (fun m hm => he ⟨m, hm⟩)]
        refine modeL_none (fun m hm => ?_)
        rcases (h.iff _).1 hm with ⟨h1, _⟩ | ⟨_, h2, _⟩
        · exact he ⟨m, h1⟩
        · exact hw h2
    rw [this]
theorem RTook.skip {M T : List Hd} {id : Int} {l : List Wn} {k : Nat} (h : RTook M id l k T) (hk : k < l.length) (hm : isM l[k].2 = false) : RTook M id l (k + 1) T := by
  have hw : ∀ n, wanted (l.take (k + 1)) n ↔ wanted (l.take k) n := by
    intro n
    rw [List.take_succ_eq_append_getElem hk, wanted_snoc]
    simp [hm]
  refine ⟨h.uniq, fun x => ?_⟩
  rw [hw]; exact h.iff x
theorem RTook.add {M T : List Hd} {id : Int} {l : List Wn} {k : Nat} (hM : Uniq M) (h : RTook M id l k T) (hk : k < l.length) (hm : isM l[k].2 = true) (hno : ∀ x ∈ T, ¬ (x.1 = id ∧ x.2.1 = l[k].1)) : RTook M id l (k + 1) (T ++ [(id, l[k].1, Go.Proofs.Ytoghmllkaafckaa.goal M id l l[k].1)]) := by
  have hw : ∀ n, wanted (l.take (k + 1)) n ↔ wanted (l.take k) n ∨ l[k].1 = n := by
    intro n
    rw [List.take_succ_eq_append_getElem hk, wanted_snoc]
    simp [hm]
  refine ⟨?_, fun x => ?_⟩
  · unfold Uniq
    rw [List.pairwise_append]
    exact ⟨h.uniq, List.pairwise_singleton _ _, fun a ha b hb => by rw [List.mem_singleton] at hb; subst hb; exact hno a ha⟩
  · rw [List.mem_append, List.mem_singleton, hw, h.iff]
    obtain ⟨x1, x2, x3⟩ := x
    simp only [Prod.mk.injEq]
    constructor
    · rintro ((⟨h1, h2⟩ | ⟨h1, h2, h3⟩) | ⟨rfl, rfl, rfl⟩)
      · by_cases hq : x1 = id ∧ l[k].1 = x2
        · exact absurd ⟨hq.1, hq.2.symm⟩ (hno _ ((h.iff _).2 (.inl ⟨h1, h2⟩)))
        · exact .inl ⟨h1, fun hq2 => hq2.2.elim (fun h4 => h2 ⟨hq2.1, h4⟩) (fun h4 => hq ⟨hq2.1, h4⟩)⟩
      · exact .inr ⟨h1, .inl h2, h3⟩
      · exact .inr ⟨rfl, .inr rfl, rfl⟩
    · rintro (⟨h1, h2⟩ | ⟨h1, h2 | h2, h3⟩)
      · exact .inl (.inl ⟨h1, fun hq => h2 ⟨hq.1, .inl hq.2⟩⟩)
      · exact .inl (.inr ⟨h1, h2, h3⟩)
      · subst h2; exact .inr ⟨h1, rfl, h3⟩
theorem uniq_set {T : List Hd} (hu : Uniq T) {i : Nat} {id : Int} {n : ByteArray} {m m' : Int} (hi : T[i]? = some (id, n, m)) : Uniq (T.set i (id, n, m')) := by
  unfold Uniq at *
  rw [List.pairwise_iff_getElem] at *
  obtain ⟨hil, he⟩ := List.getElem?_eq_some_iff.1 hi
  intro a b ha hb hab
  rw [List.length_set] at ha hb
  have h1 := hu a b ha hb hab
  rw [List.getElem_set, List.getElem_set]
  split
  · rename_i e; subst e
    rw [if_neg (by omega)]
    rw [he] at h1
    exact h1
  · split
    · rename_i e; subst e
      rw [he] at h1
      exact h1
    · exact h1
theorem RTook.set {M T : List Hd} {id : Int} {l : List Wn} {k : Nat} (hM : Uniq M) (h : RTook M id l k T) (hk : k < l.length) (hm : isM l[k].2 = true) {i : Nat} {m : Int} (hi : T[i]? = some (id, l[k].1, m)) : RTook M id l (k + 1) (T.set i (id, l[k].1, Go.Proofs.Ytoghmllkaafckaa.goal M id l l[k].1)) := by
  have hw : ∀ n, wanted (l.take (k + 1)) n ↔ wanted (l.take k) n ∨ l[k].1 = n := by
    intro n
    rw [List.take_succ_eq_append_getElem hk, wanted_snoc]
    simp [hm]
  have hil := (List.getElem?_eq_some_iff.1 hi).1
  have hmem : ∀ x : Hd, x ∈ T.set i (id, l[k].1, Go.Proofs.Ytoghmllkaafckaa.goal M id l l[k].1) ↔ (x ∈ T ∧ ¬ (x.1 = id ∧ x.2.1 = l[k].1)) ∨ x = (id, l[k].1, Go.Proofs.Ytoghmllkaafckaa.goal M id l l[k].1) := by
    intro x
    constructor
    · intro hx
      obtain ⟨j, hj⟩ := List.getElem?_of_mem hx
      rw [List.getElem?_set] at hj
      split at hj
      · right
        try rw [if_pos hil] at hj
        injection hj with hj
        exact hj.symm
      · rename_i hij
        left
        refine ⟨List.mem_of_getElem? hj, fun hq => hij ?_⟩
        have hjl := (List.getElem?_eq_some_iff.1 hj).1
        have e1 := (List.getElem?_eq_some_iff.1 hi).2
        have e2 := (List.getElem?_eq_some_iff.1 hj).2
        have hu := h.uniq
        unfold Uniq at hu
        rw [List.pairwise_iff_getElem] at hu
        rcases Nat.lt_trichotomy i j with hlt | e | hlt
        · exact absurd ⟨by rw [e1, e2, hq.1], by rw [e1, e2, hq.2]⟩ (hu i j hil hjl hlt)
        · exact e
        · exact absurd ⟨by rw [e1, e2, hq.1], by rw [e1, e2, hq.2]⟩ (hu j i hjl hil hlt)
    · rintro (⟨hx, hq⟩ | rfl)
      · obtain ⟨j, hj⟩ := List.getElem?_of_mem hx
        refine List.mem_of_getElem? (i := j) ?_
        rw [List.getElem?_set, if_neg (fun e => ?_)]
        · exact hj
        · subst e
          rw [hi] at hj
          injection hj with hj
          subst hj
          exact hq ⟨rfl, rfl⟩
      · exact List.mem_of_getElem? (i := i) (by rw [List.getElem?_set_self hil])
  refine ⟨uniq_set h.uniq hi, fun x => ?_⟩
  rw [hmem, hw, h.iff]
  obtain ⟨x1, x2, x3⟩ := x
  simp only [Prod.mk.injEq]
  constructor
  · rintro (⟨⟨h1, h2⟩ | ⟨h1, h2, h3⟩, hq⟩ | ⟨rfl, rfl, rfl⟩)
    · exact .inl ⟨h1, fun hq2 => hq2.2.elim (fun h4 => h2 ⟨hq2.1, h4⟩) (fun h4 => hq ⟨hq2.1, h4.symm⟩)⟩
    · exact .inr ⟨h1, .inl h2, h3⟩
    · exact .inr ⟨rfl, .inr rfl, rfl⟩
  · rintro (⟨h1, h2⟩ | ⟨h1, h2, h3⟩)
    · exact .inl ⟨.inl ⟨h1, fun hq => h2 ⟨hq.1, .inl hq.2⟩⟩, fun hq => h2 ⟨hq.1, .inr hq.2.symm⟩⟩
    · by_cases hq : x2 = l[k].1
      · subst hq; exact .inr ⟨h1, rfl, h3⟩
      · rcases h2 with h2 | h2
        · exact .inl ⟨.inr ⟨h1, h2, h3⟩, fun hq2 => hq hq2.2⟩
        · exact absurd h2.symm hq
theorem RTook.start {M : List Hd} (hM : Uniq M) (id : Int) (l : List Wn) : RTook M id l 0 M := ⟨hM, fun x => ⟨fun h => .inl ⟨h, fun hq => by obtain ⟨w, h1, _⟩ := hq.2; simp at h1⟩, fun h => h.elim (fun h => h.1) (fun h => by obtain ⟨w, h1, _⟩ := h.2.1; simp at h1)⟩⟩
theorem RTook.done {M T : List Hd} {id : Int} {l : List Wn} (hM : Uniq M) (h : RTook M id l l.length T) (x : Hd) : x ∈ T ↔ x ∈ tookL M id l := by
  rw [h.iff, List.take_length, mem_tookL]

theorem Reads.growx {X : Nat → Prop} {K n : Nat} {w w' : World} {v : Value} {xs : List Value} (h : Reads K w v n xs) (hg : GrowX X w w') (hX : ∀ b, v.ownBlock = some b → ¬ X b) : Reads K w' v n xs := by
  obtain ⟨ao, c, rfl, hl, hc, hr⟩ := h
  refine ⟨ao, c, rfl, hl, hc, fun h0 => ?_⟩
  obtain ⟨b, o, rfl, hb, hcell⟩ := hr h0
  refine ⟨b, o, rfl, Nat.lt_of_lt_of_le hb hg.size, fun j u hj => ?_⟩
  rw [← hcell j u hj]
  exact World.cell?_of_block (w := w) (hg.block b hb (hX b rfl))

def WRt15 (tb bl ol : Nat) (al : Option Addr) (nl cl kx : Nat) (id m0 : Int) (y1 : ByteArray) (vt : Value) (HS G n : Nat) (L : List Hd) (j b o : Nat) : Prop := (j = 14 ∧ vt.ownBlock = some b)
def PRt15 (tb bl ol : Nat) (al : Option Addr) (nl cl kx : Nat) (id m0 : Int) (y1 : ByteArray) (vt : Value) (HS G n : Nat) (L : List Hd) (i : Nat) (v : Value) (lo hi : Nat) (w : World) : Prop :=
  match i with
  | 0 => v = .pointer (some ⟨tb, 0, none⟩)
  | 1 => v = .pointer (some ⟨tb, 0, none⟩)
  | 2 => v = .pointer (some ⟨tb, 0, none⟩)
  | 3 => v = .pointer (some ⟨tb, 0, none⟩)
  | 4 => v = vt
  | 5 => v = .int .i64 id
  | 6 => v = .slice al nl cl
  | 7 => v = .int .i64 ((kx : Nat) : Int)
  | 8 => v = .pointer (some ⟨bl, ol, none⟩)
  | 9 => v = .pointer (some ⟨bl, ol, none⟩)
  | 10 => v = .string y1
  | 11 => v = .int .i64 m0
  | 12 => v = .agg #[.int .i64 id, .string y1, .int .i64 m0]
  | 13 => v = .slice (some ⟨lo, 0, none⟩) 1 1 ∧ HS ≤ lo ∧ lo < w.heap.size ∧ w.cell? ⟨lo, 0, none⟩ = some (.int .i64 id) ∧ w.cell? ⟨lo, 1, none⟩ = some (.string y1) ∧ w.cell? ⟨lo, 2, none⟩ = some (.int .i64 m0)
  | 14 => ∃ ob cp, v = .slice (some ⟨ob, 0, none⟩) (n + 1) cp ∧ w.ownsRow G 72 3 v (n + 1) (hcells (L ++ [(id, y1, m0)])) ∧ (vt.ownBlock = some ob ∨ HS ≤ ob)
  | 15 => v = .pointer (some ⟨tb, 0, none⟩)
  | 16 => v = .pointer (some ⟨tb, 0, none⟩)
  | _ => True
theorem PRt15_stable (tb bl ol : Nat) (al : Option Addr) (nl cl kx : Nat) (id m0 : Int) (y1 : ByteArray) (vt : Value) (HS G n : Nat) (L : List Hd) (hsb : ∀ k, vt.ownBlock = some k → k < HS) : ∀ i j, i < 17 → j < 17 → j ≠ i → j ∉ ([[], [], [1], [1, 2], [1, 2, 3], [], [], [], [6, 7], [6, 7, 8], [6, 7, 8, 9], [], [5, 6, 7, 8, 9, 10, 11], [5, 6, 7, 8, 9, 10, 11, 12], [1, 2, 3, 4, 5, 6, 7, 8, 9, 10, 11, 12, 13], [0, 1, 2, 3, 4, 5, 6, 7, 8, 9, 10, 11, 12, 13, 14], [0, 1, 2, 3, 4, 5, 6, 7, 8, 9, 10, 11, 12, 13, 14, 15]] : List (List Nat)).getD i [] → ∀ v lo hi w w', PRt15 tb bl ol al nl cl kx id m0 y1 vt HS G n L i v lo hi w → GrowC (WRt15 tb bl ol al nl cl kx id m0 y1 vt HS G n L j) w w' → PRt15 tb bl ol al nl cl kx id m0 y1 vt HS G n L i v lo hi w' := by
  intro i j hi hj hne hbs v lo hj2 w w' h hg
  match i, hi with
  | 0, _ =>
    simp only [PRt15] at h ⊢
    exact h
  | 1, _ =>
    simp only [PRt15] at h ⊢
    exact h
  | 2, _ =>
    simp only [PRt15] at h ⊢
    exact h
  | 3, _ =>
    simp only [PRt15] at h ⊢
    exact h
  | 4, _ =>
    simp only [PRt15] at h ⊢
    exact h
  | 5, _ =>
    simp only [PRt15] at h ⊢
    exact h
  | 6, _ =>
    simp only [PRt15] at h ⊢
    exact h
  | 7, _ =>
    simp only [PRt15] at h ⊢
    exact h
  | 8, _ =>
    simp only [PRt15] at h ⊢
    exact h
  | 9, _ =>
    simp only [PRt15] at h ⊢
    exact h
  | 10, _ =>
    simp only [PRt15] at h ⊢
    exact h
  | 11, _ =>
    simp only [PRt15] at h ⊢
    exact h
  | 12, _ =>
    simp only [PRt15] at h ⊢
    exact h
  | 13, _ =>
    simp only [PRt15] at h ⊢
    exact ⟨h.1, h.2.1, Nat.lt_of_lt_of_le h.2.2.1 hg.size, (hg.cell _ _ h.2.2.1 (fun hw => by simp only [WRt15] at hw; have := hsb _ hw.2; omega)).trans h.2.2.2.1, (hg.cell _ _ h.2.2.1 (fun hw => by simp only [WRt15] at hw; have := hsb _ hw.2; omega)).trans h.2.2.2.2.1, (hg.cell _ _ h.2.2.1 (fun hw => by simp only [WRt15] at hw; have := hsb _ hw.2; omega)).trans h.2.2.2.2.2⟩
  | 14, _ =>
    simp only [PRt15] at h ⊢
    obtain ⟨ob, cp, e, ho, hor⟩ := h
    exact ⟨ob, cp, e, own_growx (X := fun _ => False) ho (GrowX.of_growC hg (fun k o hw => hne hw.1)) (fun _ _ h => h), hor⟩
  | 15, _ =>
    simp only [PRt15] at h ⊢
    exact h
  | 16, _ =>
    simp only [PRt15] at h ⊢
    exact h
  | (q + 17), hq => exact absurd hq (by omega)

set_option maxRecDepth 100000 in
set_option maxHeartbeats 12800000 in
theorem rtake_any (M : List Hd) (hM : Uniq M) (G tb n : Nat) (v : Value) (hn : n ≤ 1048576) (id : Int) (l : List Wn) (vl : Value) (nl : Nat) (hl : l.length = nl) (hnl : nl ≤ 1048576) (w : World) (hGw : G ≤ w.heap.size) (ht : TabQ w G tb v n M) (hv : Reads 2 w vl nl (wcells l))
    (hsl : ∀ b, vl.ownBlock = some b → b < w.heap.size ∧ b ≠ tb ∧ ¬ v.ownBlock = some b) :
    Calls Try.prog 20 #[.pointer (some ⟨tb, 0, none⟩), .int .i64 id, vl] w fun e w' => ∃ c : List Int, IsAsk M id l c ∧ e = .returned (.bool (decide (c.length = 0))) ∧
      TabQStep G tb v (fun T => Uniq T ∧ ∀ x, x ∈ T ↔ x ∈ (if c.length = 0 then tookL M id l else M)) (n + nl) w w' := by
  obtain ⟨av, cv, rfl⟩ := hv.shape
  obtain ⟨ao, c0, rfl, hr⟩ := ht.read
  have HL := Lib.hid hl
  have HT := Lib.hid ht
  have HR := Lib.hid hr
  have HV := Lib.hid hv
  have HSL := Lib.hid hsl
  have HM := Lib.hid hM
  clear ht hr hv hl hsl hM
  go_enter Try.func20, Try.ntmps20
  go_wp2_with fail
  refine (rask_any M tb n c0 ao hn id l _ nl HL.out hnl w HR.out HV.out).mono ?_
  rintro e w2 ⟨c, ac, m, cc, rfl, hask, hcm, hm40, _, hb2⟩
  have HASK := Lib.hid hask
  have HT2 := Lib.hid (HT.out.below hb2)
  have HV2 := Lib.hid (HV.out.below hb2 (Nat.le_refl _))
  have HB2 := Lib.hid hb2
  have hG2 : G ≤ w2.heap.size := by have := hb2.size; omega
  have HCM := Lib.hid hcm
  clear hask hcm hb2
  by_cases hm0 : 0 < m
  · have hmb : decide (0 < m) = true := by simpa using hm0
    go_wp2_with fail
    go_ret
    have hc0 : ¬ c.length = 0 := by rw [HCM.out]; omega
    refine ⟨c, HASK.out, by simp [hc0], _, n, M, ⟨HM.out, fun x => by rw [if_neg hc0]⟩, HT2.out, by omega, fun q e => .inl e, grow_below HB2.out⟩
  have hm00 : m = 0 := by omega
  subst hm00
  have HC0 : Hid (c.length = 0) := HCM
  have HWR : Hid (∀ q, (Value.slice ao n c0).ownBlock = some q → q < w.heap.size) := Lib.hid (fun q e => (HT.out.own.lt q e).2)
  have htw : tb < w.heap.size := HT.out.box.lt
  go_wp2_with fail
  go_loopw [7] (fun i wr => ∃ (k nk : Nat) (vk : Value) (T : List Hd), k ≤ nl ∧ i = .int .i64 k ∧ nk ≤ n + k ∧ RTook M id l k T ∧ TabQ wr G tb vk nk T ∧
      (∀ q, vk.ownBlock = some q → (Value.slice ao n c0).ownBlock = some q ∨ w.heap.size ≤ q) ∧ GrowX (fun k => k = tb ∨ (Value.slice ao n c0).ownBlock = some k) w wr) (fun i _ => nl - (intOf i).toNat)
  case atStart => exact ⟨0, n, _, M, Nat.zero_le _, rfl, by omega, RTook.start HM.out id l, HT2.out, fun q e => .inl e, grow_below HB2.out⟩
  case round =>
    obtain ⟨k, nk, vk, T, hk, rfl, hnk, hrt, htk, hvk, hgk⟩ := hrel
    have HRT := Lib.hid hrt
    have HTK := Lib.hid htk
    have HVK := Lib.hid hvk
    have HGK := Lib.hid hgk
    have HVW := Lib.hid (HV.out.growx hgk (fun b e h => (HSL.out b e).2.1 (h.elim (fun h => h) (fun h => absurd h (HSL.out b e).2.2))))
    have hsw : w.heap.size ≤ wr.heap.size := hgk.size
    clear hrt htk hvk hgk
    by_cases hlt : k < nl
    · have hkl : k < l.length := by rw [HL.out]; exact hlt
      have HSKIP := Lib.hid (fun h => HRT.out.skip hkl h)
      have HADD := Lib.hid (fun h1 h2 => HRT.out.add HM.out hkl h1 h2)
      have HSET := Lib.hid (fun h1 (i : Nat) (m : Int) (h2 : T[i]? = some (id, l[k].1, m)) => HRT.out.set HM.out hkl h1 h2)
      have HGO := Lib.hid (HRT.out.goal HM.out l[k].1)
      obtain ⟨b, o, c', e, hb, _, hc1, hc2⟩ := Wns.at HVW.out k hlt l[k] (List.getElem?_eq_getElem hkl)
      injection e with e1 e2 e3
      subst e1 e3
      have hbs := HSL.out b rfl
      generalize l[k] = y at *
      obtain ⟨y1, y2⟩ := y
      simp only at hc1 hc2
      clear hkl e2 HRT
      cases hm : isM y2 with
      | false =>
        have HSK := Lib.hid (HSKIP.out hm)
        clear HSKIP HADD HSET
        go_wp2_with (go_at_call 29; refine (rmode_any _ _).mono ?_; rintro e w' ⟨rfl, rfl⟩)
        go_roundw
        case rel => exact ⟨k + 1, nk, vk, T, by omega, by go_num, by omega, HSK.out, HTK.out, HVK.out, HGK.out⟩
        case measure => simp [intOf]; omega
      | true =>
        have HAD := Lib.hid (fun h => HADD.out hm h)
        have HSE := Lib.hid (HSET.out hm)
        obtain ⟨m0, hm0'⟩ : ∃ m0, goal M id l y1 = m0 := ⟨_, rfl⟩
        rw [hm0'] at HAD HSE HGO
        clear HSKIP HADD HSET hm0'
        obtain ⟨ak, ck, rfl, hrk⟩ := HTK.out.read
        have HRK := Lib.hid hrk
        have hct := HTK.out.box.cell 0 _ rfl
        clear hrk
        go_wp2_with (first
          | (go_at_call 29; refine (rmode_any _ _).mono ?_; rintro e w' ⟨rfl, rfl⟩)
          | (go_at_call 41; refine (tgoal_any T tb nk ck ak (by omega) id l _ nl HL.out (by omega) y1 _ HRK.out HVW.out).mono ?_; rintro e w' ⟨rfl, rfl⟩; rw [HGO.out]))
        clear hct
        obtain ⟨wq, hwq⟩ : ∃ wq, w' = wq := ⟨_, rfl⟩
        rw [hwq] at HTK HGK HVW HRK hsw ⊢
        rw [hwq] at hc1 hc2 hb
        clear hwq
        have HC1 := Lib.hid hc1
        have HC2 := Lib.hid hc2
        have hkn2 : k + 1 ≤ nl := by omega
        clear hc1 hc2 hlt
        go_loopw [9, 10] (fun sa si wr => ∃ (i : Nat) (ai : Option Nat), i ≤ nk ∧ si = .int .i64 i ∧ sa = .int .i64 (atI ai) ∧ Hid ((ai = none → ∀ x ∈ T.take i, ¬ (x.1 = id ∧ x.2.1 = y1)) ∧ (∀ a, ai = some a → a < nk ∧ ∃ m, T[a]? = some (id, y1, m))) ∧ Below wq.heap.size wq wr) (fun _ si _ => nk - (intOf si).toNat)
        case atStart => exact ⟨0, none, Nat.zero_le _, rfl, rfl, Lib.hid ⟨fun _ x hx => by simp at hx, fun a h => by cases h⟩, Below.refl _ _⟩
        case round =>
          obtain ⟨i, ai, hi, rfl, rfl, HAI, hnx⟩ := hrel
          have HTR := Lib.hid (HRK.out.below hnx (Nat.le_refl _))
          have HNX := Lib.hid hnx
          have hct := HTR.out.box.cell 0 _ rfl
          have hd2 := (hnx.cell (p := ⟨b, o + k * 2, none⟩) hb).trans HC1.out
          clear hnx
          by_cases hin : i < nk
          · have hiT : i < T.length := by rw [HTR.out.len]; exact hin
            have hts : T.take (i + 1) = T.take i ++ [T[i]] := List.take_succ_eq_append_getElem hiT
            have hTi : T[i]? = some T[i] := List.getElem?_eq_getElem hiT
            obtain ⟨bt, ot, c', e, hbt, _, hd3, hd4, _⟩ := Hds.at HTR.out.reads i hin T[i] hTi
            injection e with e1 e2 e3
            subst e1 e3
            generalize T[i] = x at *
            obtain ⟨x1, x2, x3⟩ := x
            simp only at hd3 hd4
            have HTS := Lib.hid hts
            have HTI := Lib.hid hTi
            clear hts hTi hiT e2
            have hno : ¬ (x1 = id ∧ x2 = y1) → Hid ((ai = none → ∀ x ∈ T.take (i + 1), ¬ (x.1 = id ∧ x.2.1 = y1)) ∧ (∀ a, ai = some a → a < nk ∧ ∃ m, T[a]? = some (id, y1, m))) := fun h => Lib.hid ⟨fun h0 x hx => by
              rw [HTS.out, List.mem_append, List.mem_singleton] at hx
              rcases hx with hx | rfl
              · exact HAI.out.1 h0 x hx
              · exact h, HAI.out.2⟩
            have HNO := Lib.hid hno
            clear hno
            by_cases h1 : x1 = id
            · have hb1 : (x1 == id) = true := by simp [h1]
              by_cases h2 : x2 = y1
              · have hb2 : (x2.toList == y1.toList) = true := str_eq h2
                have HY : Hid (T[i]? = some (id, y1, x3)) := Lib.hid (by rw [HTI.out, h1, h2])
                clear h1 h2 HNO HTI
                go_wp2_with fail
                go_quiet (fail)
                have hq := below_dn (Below.refl wr.heap.size wr) nq
                go_wp2_with fail
                go_roundw
                case rel => exact ⟨i + 1, some i, by omega, by go_num, rfl, Lib.hid ⟨(fun h => by cases h), (fun a h => by injection h with h; subst h; exact ⟨hin, x3, HY.out⟩)⟩, HNX.out.trans (hq.mono HNX.out.size)⟩
                case measure => simp [intOf]; omega
              · have hb2 : (x2.toList == y1.toList) = false := str_ne h2
                have HN2 := HNO.out (fun h => h2 h.2)
                clear h1 h2 HNO HTI
                go_wp2_with fail
                go_quiet (fail)
                have hq := below_dn (Below.refl wr.heap.size wr) nq
                go_wp2_with fail
                go_roundw
                case rel => exact ⟨i + 1, ai, by omega, by go_num, rfl, HN2, HNX.out.trans (hq.mono HNX.out.size)⟩
                case measure => simp [intOf]; omega
            · have hb1 : (x1 == id) = false := by simp [h1]
              have HN2 := HNO.out (fun h => h1 h.1)
              clear h1 HNO HTI
              go_wp2_with fail
              go_quiet (fail)
              have hq := below_dn (Below.refl wr.heap.size wr) nq
              go_wp2_with fail
              go_roundw
              case rel => exact ⟨i + 1, ai, by omega, by go_num, rfl, HN2, HNX.out.trans (hq.mono HNX.out.size)⟩
              case measure => simp [intOf]; omega
          · obtain rfl : nk = i := by omega
            have hall : T.take nk = T := List.take_of_length_le (Nat.le_of_eq HTR.out.len)
            rw [hall] at HAI
            have hqs := HNX.out.size
            cases ai with
            | none =>
              have HNM := Lib.hid (HAI.out.1 rfl)
              have HLT2 := Lib.hid (HAD.out HNM.out)
              clear HAI HSE HAD hall
              have hneg : ((-1 : Int) < 0) := by omega
              simp only [atI]
              obtain ⟨HS, hHS0⟩ : ∃ q, wr.heap.size = q := ⟨_, rfl⟩
              have HHS := Lib.hid hHS0
              clear hHS0
              have htq := HTK.out.below HNX.out
              obtain ⟨w4, hw4⟩ : ∃ w4, wr = w4 := ⟨_, rfl⟩
              rw [hw4] at htq HHS HNX HTR hct hd2 hqs ⊢
              clear hw4
              have bt := htq.box
              have HOT := Lib.hid htq.own
              have HSEP := Lib.hid htq.sep
              have hG4 : G ≤ w4.heap.size := by omega
              have hsb : ∀ q, (Value.slice ak nk ck).ownBlock = some q → q < HS := fun q e => by have := (htq.own.lt q e).2; have := HHS.out; omega
              have NB : Hid (∀ q, q = tb ∨ q < G → ¬ (Value.slice ak nk ck).ownBlock = some q) := Lib.hid (fun q hq e => by
                rcases hq with rfl | hq
                · exact HSEP.out e
                · have := (HOT.out.lt q e).1; omega)
              have hB : Below 0 w4 w4 := Below.refl _ _
              have hblt : b < w4.heap.size := by omega
              have hdl := hd2
              have hnk21 : nk ≤ 2097152 := by omega
              go_wp2_with fail
              clear htq hct hd2
              refine wp_region_partsDC (WRt15 tb b (o + k * 2) (some ⟨b, o, none⟩) nl cv k id m0 y1 (Value.slice ak nk ck) HS G nk T) 17 [[], [], [1], [1, 2], [1, 2, 3], [], [], [], [6, 7], [6, 7, 8], [6, 7, 8, 9], [], [5, 6, 7, 8, 9, 10, 11], [5, 6, 7, 8, 9, 10, 11, 12], [1, 2, 3, 4, 5, 6, 7, 8, 9, 10, 11, 12, 13], [0, 1, 2, 3, 4, 5, 6, 7, 8, 9, 10, 11, 12, 13, 14], [0, 1, 2, 3, 4, 5, 6, 7, 8, 9, 10, 11, 12, 13, 14, 15]] [some 77, some 78, some 79, some 80, some 81, some 82, some 83, some 84, some 85, some 86, some 87, some 88, some 89, some 90, some 91, some 92, some 93, none] (by kernel_rfl) (by kernel_rfl) rfl (PRt15 tb b (o + k * 2) (some ⟨b, o, none⟩) nl cv k id m0 y1 (Value.slice ak nk ck) HS G nk T) (PRt15_stable tb b (o + k * 2) (some ⟨b, o, none⟩) nl cv k id m0 y1 (Value.slice ak nk ck) HS G nk T hsb) ?pRt15 ?_
              case pRt15 =>
                intro i hi o ho vs lo hx_ w' hg hp
                match i, hi with
                | 0, _ =>
                  obtain rfl := Option.some.inj ho
                  clear ho
                  simp only [actsD, List.getD_cons_zero, List.getD_cons_succ, List.foldl_cons, List.foldl_nil, Act.put, List.setIfInBounds_toArray, List.set_cons_succ, List.set_cons_zero]
                  have hsz := hg.size
                  go_wp2
                  exact ⟨_, rfl, GrowC.refl _, rfl⟩
                | 1, _ =>
                  obtain rfl := Option.some.inj ho
                  clear ho
                  simp only [actsD, List.getD_cons_zero, List.getD_cons_succ, List.foldl_cons, List.foldl_nil, Act.put, List.setIfInBounds_toArray, List.set_cons_succ, List.set_cons_zero]
                  have hsz := hg.size
                  go_wp2
                  exact ⟨_, rfl, GrowC.refl _, rfl⟩
                | 2, _ =>
                  obtain rfl := Option.some.inj ho
                  clear ho
                  simp only [actsD, List.getD_cons_zero, List.getD_cons_succ, List.foldl_cons, List.foldl_nil, Act.put, List.setIfInBounds_toArray, List.set_cons_succ, List.set_cons_zero]
                  obtain ⟨_, _, _, h1⟩ := hp 1 (by simp)
                  simp only [PRt15] at h1
                  have hsz := hg.size
                  rw [h1]
                  go_wp2
                  exact ⟨_, rfl, GrowC.refl _, rfl⟩
                | 3, _ =>
                  obtain rfl := Option.some.inj ho
                  clear ho
                  simp only [actsD, List.getD_cons_zero, List.getD_cons_succ, List.foldl_cons, List.foldl_nil, Act.put, List.setIfInBounds_toArray, List.set_cons_succ, List.set_cons_zero]
                  obtain ⟨_, _, _, h2⟩ := hp 2 (by simp)
                  simp only [PRt15] at h2
                  have hsz := hg.size
                  rw [h2]
                  go_wp2
                  exact ⟨_, rfl, GrowC.refl _, rfl⟩
                | 4, _ =>
                  obtain rfl := Option.some.inj ho
                  clear ho
                  simp only [actsD, List.getD_cons_zero, List.getD_cons_succ, List.foldl_cons, List.foldl_nil, Act.put, List.setIfInBounds_toArray, List.set_cons_succ, List.set_cons_zero]
                  obtain ⟨_, _, _, h3⟩ := hp 3 (by simp)
                  simp only [PRt15] at h3
                  have hsz := hg.size
                  rw [h3]
                  have e0 := (hg.cell (tb) 0 bt.lt (by rintro ⟨j, _, hne, hb, hw⟩; simp only [WRt15] at hw; obtain ⟨e9, _⟩ := hw; subst e9; exact hb (by decide))).trans (bt.cell 0 _ rfl)
                  go_wp2
                  exact ⟨_, rfl, GrowC.refl _, rfl⟩
                | 5, _ =>
                  obtain rfl := Option.some.inj ho
                  clear ho
                  simp only [actsD, List.getD_cons_zero, List.getD_cons_succ, List.foldl_cons, List.foldl_nil, Act.put, List.setIfInBounds_toArray, List.set_cons_succ, List.set_cons_zero]
                  have hsz := hg.size
                  go_wp2
                  exact ⟨_, rfl, GrowC.refl _, rfl⟩
                | 6, _ =>
                  obtain rfl := Option.some.inj ho
                  clear ho
                  simp only [actsD, List.getD_cons_zero, List.getD_cons_succ, List.foldl_cons, List.foldl_nil, Act.put, List.setIfInBounds_toArray, List.set_cons_succ, List.set_cons_zero]
                  have hsz := hg.size
                  go_wp2
                  exact ⟨_, rfl, GrowC.refl _, rfl⟩
                | 7, _ =>
                  obtain rfl := Option.some.inj ho
                  clear ho
                  simp only [actsD, List.getD_cons_zero, List.getD_cons_succ, List.foldl_cons, List.foldl_nil, Act.put, List.setIfInBounds_toArray, List.set_cons_succ, List.set_cons_zero]
                  have hsz := hg.size
                  go_wp2
                  exact ⟨_, rfl, GrowC.refl _, rfl⟩
                | 8, _ =>
                  obtain rfl := Option.some.inj ho
                  clear ho
                  simp only [actsD, List.getD_cons_zero, List.getD_cons_succ, List.foldl_cons, List.foldl_nil, Act.put, List.setIfInBounds_toArray, List.set_cons_succ, List.set_cons_zero]
                  obtain ⟨_, _, _, h6⟩ := hp 6 (by simp)
                  simp only [PRt15] at h6
                  obtain ⟨_, _, _, h7⟩ := hp 7 (by simp)
                  simp only [PRt15] at h7
                  have hsz := hg.size
                  rw [h6, h7]
                  go_wp2
                  exact ⟨_, rfl, GrowC.refl _, rfl⟩
                | 9, _ =>
                  obtain rfl := Option.some.inj ho
                  clear ho
                  simp only [actsD, List.getD_cons_zero, List.getD_cons_succ, List.foldl_cons, List.foldl_nil, Act.put, List.setIfInBounds_toArray, List.set_cons_succ, List.set_cons_zero]
                  obtain ⟨_, _, _, h8⟩ := hp 8 (by simp)
                  simp only [PRt15] at h8
                  have hsz := hg.size
                  rw [h8]
                  go_wp2
                  exact ⟨_, rfl, GrowC.refl _, rfl⟩
                | 10, _ =>
                  obtain rfl := Option.some.inj ho
                  clear ho
                  simp only [actsD, List.getD_cons_zero, List.getD_cons_succ, List.foldl_cons, List.foldl_nil, Act.put, List.setIfInBounds_toArray, List.set_cons_succ, List.set_cons_zero]
                  obtain ⟨_, _, _, h9⟩ := hp 9 (by simp)
                  simp only [PRt15] at h9
                  have hsz := hg.size
                  rw [h9]
                  have e0 := (hg.cell b (o + k * 2) hblt (by rintro ⟨j, _, hne, hb, hw⟩; simp only [WRt15] at hw; obtain ⟨e9, _⟩ := hw; subst e9; exact hb (by decide))).trans hdl
                  go_wp2
                  exact ⟨_, rfl, GrowC.refl _, rfl⟩
                | 11, _ =>
                  obtain rfl := Option.some.inj ho
                  clear ho
                  simp only [actsD, List.getD_cons_zero, List.getD_cons_succ, List.foldl_cons, List.foldl_nil, Act.put, List.setIfInBounds_toArray, List.set_cons_succ, List.set_cons_zero]
                  have hsz := hg.size
                  go_wp2
                  exact ⟨_, rfl, GrowC.refl _, rfl⟩
                | 12, _ =>
                  obtain rfl := Option.some.inj ho
                  clear ho
                  simp only [actsD, List.getD_cons_zero, List.getD_cons_succ, List.foldl_cons, List.foldl_nil, Act.put, List.setIfInBounds_toArray, List.set_cons_succ, List.set_cons_zero]
                  obtain ⟨_, _, _, h5⟩ := hp 5 (by simp)
                  simp only [PRt15] at h5
                  obtain ⟨_, _, _, h10⟩ := hp 10 (by simp)
                  simp only [PRt15] at h10
                  obtain ⟨_, _, _, h11⟩ := hp 11 (by simp)
                  simp only [PRt15] at h11
                  have hsz := hg.size
                  rw [h5, h10, h11]
                  go_wp2
                  exact ⟨_, rfl, GrowC.refl _, rfl⟩
                | 13, _ =>
                  obtain rfl := Option.some.inj ho
                  clear ho
                  simp only [actsD, List.getD_cons_zero, List.getD_cons_succ, List.foldl_cons, List.foldl_nil, Act.put, List.setIfInBounds_toArray, List.set_cons_succ, List.set_cons_zero]
                  obtain ⟨_, _, _, h12⟩ := hp 12 (by simp)
                  simp only [PRt15] at h12
                  have hsz := hg.size
                  rw [h12]
                  have hbx := Box.new w' #[.int .i64 id, .string y1, .int .i64 m0] 72 rfl
                  go_wp2
                  exact ⟨_, rfl, GrowC.of_grow ((Grow.refl _).alloc _), rfl, (by have h9 := HHS.out; have h8 : w4.drew.heap.size = w4.heap.size := rfl; omega), by simp, hbx.cell 0 _ rfl, hbx.cell 1 _ rfl, hbx.cell 2 _ rfl⟩
                | 14, _ =>
                  obtain rfl := Option.some.inj ho
                  clear ho
                  simp only [actsD, List.getD_cons_zero, List.getD_cons_succ, List.foldl_cons, List.foldl_nil, Act.put, List.setIfInBounds_toArray, List.set_cons_succ, List.set_cons_zero]
                  obtain ⟨_, _, _, h4⟩ := hp 4 (by simp)
                  simp only [PRt15] at h4
                  obtain ⟨_, _, _, h13⟩ := hp 13 (by simp)
                  simp only [PRt15] at h13
                  have hsz := hg.size
                  rw [h4]
                  obtain ⟨e8, _, hlt8, c80, c81, c82⟩ := h13
                  rw [e8]
                  have HOw := Lib.hid (own_growx (X := fun _ => False) HOT.out (GrowX.of_growC hg (fun k o hw => by obtain ⟨j, _, hne, _, hw⟩ := hw; exact hne hw.1)) (fun _ _ h => h))
                  go_wp2_with (at_builtin; refine wpList_append_k holdsOf (.tmp 81) (.tmp 90) rfl rfl (base := G) rfl HOw.out rfl rfl (news := [.int .i64 id, .string y1, .int .i64 m0]) (by intro j u hu; rw [Addr.add_lit]; match j, hu with | 0, hu => (simp at hu; subst hu; exact c80) | 1, hu => (simp at hu; subst hu; exact c81) | 2, hu => (simp at hu; subst hu; exact c82) | (q + 3), hu => (simp at hu)) (by intro u hu; simp at hu; rcases hu with rfl | rfl | rfl <;> rfl) (by omega) (by omega) (by omega) (by omega) ?_; intro ob cp wq hownq hgrq horq)
                  exact ⟨_, rfl, hgrq.mono (by intro k o hk; exact ⟨rfl, hk.1⟩), ob, cp, rfl, by rw [hcells_append]; exact hownq, horq.imp (fun h => h) (fun h => by have h9 := HHS.out; have h8 : w4.drew.heap.size = w4.heap.size := rfl; omega)⟩
                | 15, _ =>
                  obtain rfl := Option.some.inj ho
                  clear ho
                  simp only [actsD, List.getD_cons_zero, List.getD_cons_succ, List.foldl_cons, List.foldl_nil, Act.put, List.setIfInBounds_toArray, List.set_cons_succ, List.set_cons_zero]
                  obtain ⟨_, _, _, h0⟩ := hp 0 (by simp)
                  simp only [PRt15] at h0
                  have hsz := hg.size
                  rw [h0]
                  go_wp2
                  exact ⟨_, rfl, GrowC.refl _, rfl⟩
                | 16, _ =>
                  obtain rfl := Option.some.inj ho
                  clear ho
                  simp only [actsD, List.getD_cons_zero, List.getD_cons_succ, List.foldl_cons, List.foldl_nil, Act.put, List.setIfInBounds_toArray, List.set_cons_succ, List.set_cons_zero]
                  obtain ⟨_, _, _, h15⟩ := hp 15 (by simp)
                  simp only [PRt15] at h15
                  have hsz := hg.size
                  rw [h15]
                  go_wp2
                  exact ⟨_, rfl, GrowC.refl _, rfl⟩
                | (q + 17), hq => exact absurd hq (by omega)
              intro vS lo hi w5 hg hp hd
              obtain ⟨_, _, _, h0⟩ := hp 0 (by decide)
              obtain ⟨_, _, _, h1⟩ := hp 1 (by decide)
              obtain ⟨_, _, _, h2⟩ := hp 2 (by decide)
              obtain ⟨_, _, _, h3⟩ := hp 3 (by decide)
              obtain ⟨_, _, _, h4⟩ := hp 4 (by decide)
              obtain ⟨_, _, _, h5⟩ := hp 5 (by decide)
              obtain ⟨_, _, _, h6⟩ := hp 6 (by decide)
              obtain ⟨_, _, _, h7⟩ := hp 7 (by decide)
              obtain ⟨_, _, _, h8⟩ := hp 8 (by decide)
              obtain ⟨_, _, _, h9⟩ := hp 9 (by decide)
              obtain ⟨_, _, _, h10⟩ := hp 10 (by decide)
              obtain ⟨_, _, _, h11⟩ := hp 11 (by decide)
              obtain ⟨_, _, _, h12⟩ := hp 12 (by decide)
              obtain ⟨_, _, _, h13⟩ := hp 13 (by decide)
              obtain ⟨_, _, _, h14⟩ := hp 14 (by decide)
              obtain ⟨_, _, _, h15⟩ := hp 15 (by decide)
              obtain ⟨_, _, _, h16⟩ := hp 16 (by decide)
              simp only [PRt15] at h0 h1 h2 h3 h4 h5 h6 h7 h8 h9 h10 h11 h12 h13 h14 h15 h16
              clear hp hd
              have hsz := hg.size
              replace bt := bt.grow hg (by intro i _; rintro ⟨j, _, hw⟩; simp only [WRt15] at hw; exact NB.out _ (by first | (exact .inl rfl) | (exact .inr (by omega))) hw.2)
              replace hB := hB.trans (hg.below (fun k hk => ⟨by omega, fun o => by rintro ⟨j, _, hw⟩; simp only [WRt15] at hw; exact NB.out _ (by first | (exact .inl rfl) | (exact .inr (by omega))) hw.2⟩))
              have hr : List.range 17 = [0, 1, 2, 3, 4, 5, 6, 7, 8, 9, 10, 11, 12, 13, 14, 15, 16] := rfl
              rw [hr]
              clear hr
              simp only [List.drop_succ_cons, List.drop_zero, List.drop_nil, actsD, List.getD_cons_zero, List.getD_cons_succ, List.foldl_cons, List.foldl_nil, Act.put, List.setIfInBounds_toArray, List.set_cons_succ, List.set_cons_zero, h0, h1, h2, h3, h4, h5, h6, h7, h8, h9, h10, h11, h12, h15, h16]
              clear h0 h1 h2 h3 h4 h5 h6 h7 h8 h9 h10 h11 h12 h15 h16
              obtain ⟨ob, cp, e14, ho14, hor14⟩ := h14
              simp only [e14]
              rw [e14] at ho14
              clear h13
              have ct := bt.cell 0 _ rfl
              have ft := bt.free
              have HBT := Lib.hid bt
              have HO9 := Lib.hid ho14
              have HOR := Lib.hid hor14
              have hgrow4 : GrowX (fun q => (Value.slice ak nk ck).ownBlock = some q) w4 w5 := GrowX.of_growC hg (fun q o hw => by obtain ⟨j, _, hw⟩ := hw; simp only [WRt15] at hw; exact hw.2)
              have HGZ := Lib.hid ((HGK.out.trans (grow_below HNX.out)).step hgrow4 (fun q hq e => (HVK.out q e).elim (fun e => .inr e) (fun e => by omega)))
              have HVZ : Hid (∀ q, (Value.slice (some ⟨ob, 0, none⟩) (nk + 1) cp).ownBlock = some q → (Value.slice ao n c0).ownBlock = some q ∨ w.heap.size ≤ q) := Lib.hid (fun q e => by
                have e' : ob = q := by simpa [Value.ownBlock] using e
                subst e'
                rcases HOR.out with e2 | e2
                · exact HVK.out _ e2
                · right; have := HHS.out; omega)
              have HNT : Hid (¬ (Value.slice (some ⟨ob, 0, none⟩) (nk + 1) cp).ownBlock = some tb) := Lib.hid (fun e => by
                have e' : ob = tb := by simpa [Value.ownBlock] using e
                subst e'
                rcases HOR.out with e2 | e2
                · exact HSEP.out e2
                · have := HHS.out; omega)
              have HLN : Hid ((T ++ [(id, y1, m0)]).length = nk + 1) := Lib.hid (by
                have := HO9.out.1
                rw [hcells_length] at this
                omega)
              clear hg e14 ho14 hor14 bt hB HOT hgrow4
              go_wp2_with fail
              have hTZ : TabQ (w5.setCell ⟨tb, 0, none⟩ (.slice (some ⟨ob, 0, none⟩) (nk + 1) cp)) G tb (.slice (some ⟨ob, 0, none⟩) (nk + 1) cp) (nk + 1) (T ++ [(id, y1, m0)]) :=
                ⟨HBT.out.setCell 0 _, own_growx HO9.out (growX_setCell w5 tb 0 _) (fun q e1 e2 => HNT.out (by rw [e1, e2])), HNT.out, HLN.out⟩
              have hGZ := HGZ.out.trans ((growX_setCell w5 tb 0 (.slice (some ⟨ob, 0, none⟩) (nk + 1) cp)).mono (fun k hk => .inl hk))
              go_roundw
              case rel => exact ⟨k + 1, nk + 1, _, _, by omega, by go_num, by omega, HLT2.out, hTZ, HVZ.out, hGZ⟩
              case measure => simp [intOf]; omega
            | some a =>
              obtain ⟨hank, mm, hTa⟩ := HAI.out.2 a rfl
              have HTA := Lib.hid hTa
              have HLT2 := Lib.hid (HSE.out a mm hTa)
              clear HAI HSE HAD hTa
              have hneg : ¬ (((a : Nat) : Int) < 0) := by omega
              simp only [atI]
              have htq := HTK.out.below HNX.out
              obtain ⟨w4, hw4⟩ : ∃ w4, wr = w4 := ⟨_, rfl⟩
              rw [hw4] at htq HNX HTR hct hd2 hqs ⊢
              clear hw4
              have HTQ := Lib.hid htq
              obtain ⟨ob, hob⟩ : ∃ ob, ak = some ⟨ob, 0, none⟩ := by
                rcases htq.own.2 with ⟨h1, h2⟩ | ⟨g', cap', cur, e0, _⟩
                · omega
                · injection e0 with e1; exact ⟨g', e1⟩
              subst hob
              obtain ⟨b3, o3, c3, e3, hb3, _, _, _, hs3⟩ := Hds.at (Reads.of_own htq.own) a hank _ HTA.out
              injection e3 with e1 e2 e3
              injection e1 with e1
              injection e1 with e1 e4
              subst e1 e4 e3
              simp only [Nat.zero_add] at hs3
              have hfz : w4.frozen? ⟨ob, a * 3 + 2, none⟩ = false := own_free htq.own rfl _
              clear htq e2
              go_wp2_with fail
              have hset : (((hcells T).set (a * 3 + 2) (.int .i64 m0))) = hcells (T.set a (id, y1, m0)) := by
                have h1 := hcells_set T a (id, y1, m0) (by have := HTQ.out.len; omega)
                obtain ⟨g1, g2, g3⟩ := hcells_at T a _ HTA.out
                rw [← h1]
                have e5 : (hcells T).set (a * 3) (Value.int .i64 id) = hcells T := List.ext_getElem? (fun q => by
                  rw [List.getElem?_set]; split
                  · rename_i e; subst e; rw [if_pos (List.getElem?_eq_some_iff.1 g1).1, g1]
                  · rfl)
                have e6 : (hcells T).set (a * 3 + 1) (Value.string y1) = hcells T := List.ext_getElem? (fun q => by
                  rw [List.getElem?_set]; split
                  · rename_i e; subst e; rw [if_pos (List.getElem?_eq_some_iff.1 g2).1, g2]
                  · rfl)
                simp only [e5, e6]
              have hown6 := own_set HTQ.out.own rfl (a * 3 + 2) (by omega) (.int .i64 m0)
              rw [hset] at hown6
              have hTZ : TabQ (w4.setCell ⟨ob, a * 3 + 2, none⟩ (.int .i64 m0)) G tb (.slice (some ⟨ob, 0, none⟩) nk ck) nk (T.set a (id, y1, m0)) :=
                ⟨HTQ.out.box.growx (growX_setCell w4 ob (a * 3 + 2) _) (fun e => HTQ.out.sep (by rw [e]; rfl)), hown6, HTQ.out.sep, by rw [List.length_set]; exact HTQ.out.len⟩
              have hGZ := (HGK.out.trans (grow_below HNX.out)).step (growX_setCell w4 ob (a * 3 + 2) (.int .i64 m0)) (fun q hq e => (HVK.out q (by rw [e]; rfl)).elim (fun e => .inr e) (fun e => by omega))
              go_roundw
              case rel => exact ⟨k + 1, nk, _, _, by omega, by go_num, by omega, HLT2.out, hTZ, HVK.out, hGZ⟩
              case measure => simp [intOf]; omega
    · obtain rfl : nl = k := by omega
      go_wp2_with fail
      go_ret
      refine ⟨c, HASK.out, by simp [HC0.out], vk, nk, T, ⟨HRT.out.uniq, fun x => ?_⟩, HTK.out, by omega, HVK.out, HGK.out⟩
      rw [if_pos HC0.out]
      have := HRT.out
      rw [← HL.out] at this
      exact this.done HM.out x
end Go.Proofs.Ytoghmllkaafckaa

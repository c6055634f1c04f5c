/- What the locks of layer 14 come to, plain mathematics. Conditions: none. -/
import Derived.Test.YtoghmllkaafckaaLkTake
namespace Go.Proofs.Ytoghmllkaafckaa
set_option linter.unusedSimpArgs false
set_option linter.unusedVariables false

theorem lt_ext {a b : List Int} (ha : a.Pairwise (· < ·)) (hb : b.Pairwise (· < ·)) (h : ∀ x, x ∈ a ↔ x ∈ b) : a = b := by
  induction a generalizing b with
  | nil =>
    cases b with
    | nil => rfl
    | cons y r => exact absurd ((h y).2 List.mem_cons_self) (by simp)
  | cons x r ih =>
    cases b with
    | nil => exact absurd ((h x).1 List.mem_cons_self) (by simp)
    | cons y s =>
      rw [List.pairwise_cons] at ha hb
      have e : x = y := by
        have h1 := (h x).1 List.mem_cons_self
        have h2 := (h y).2 List.mem_cons_self
        rw [List.mem_cons] at h1 h2
        rcases h1 with h1 | h1
        · exact h1
        · rcases h2 with h2 | h2
          · exact h2.symm
          · have := hb.1 x h1; have := ha.1 y h2; omega
      subst e
      congr 1
      refine ih ha.2 hb.2 (fun z => ?_)
      have := h z
      rw [List.mem_cons, List.mem_cons] at this
      constructor
      · intro hz
        rcases this.1 (.inr hz) with rfl | h3
        · exact absurd (ha.1 z hz) (by omega)
        · exact h3
      · intro hz
        rcases this.2 (.inr hz) with rfl | h3
        · exact absurd (hb.1 z hz) (by omega)
        · exact h3
theorem IsAsk.eq {L M : List Hd} {id : Int} {l : List Wn} {c d : List Int} (hL : Uniq L) (hM : Uniq M) (hs : ∀ x, x ∈ L ↔ x ∈ M) (h : IsAsk L id l c) (k : IsAsk M id l d) : c = d := by
  refine lt_ext h.ord k.ord (fun x => ?_)
  rw [h.iff, k.iff]
  constructor
  · rintro ⟨g, h1, h2, h3, h4, h5⟩; exact ⟨g, (hs g).1 h1, h2, h3, h4, by rw [← goal_congr hL hM hs]; exact h5⟩
  · rintro ⟨g, h1, h2, h3, h4, h5⟩; exact ⟨g, (hs g).2 h1, h2, h3, h4, by rw [goal_congr hL hM hs]; exact h5⟩
theorem IsAsk.nil {L : List Hd} {id : Int} {l : List Wn} {c : List Int} (h : IsAsk L id l c) (hn : ∀ g ∈ L, g.1 ≠ id → wanted l g.2.1 → fitsB g.2.2 (goal L id l g.2.1) = true) : c = [] := by
  cases c with
  | nil => rfl
  | cons x r =>
    obtain ⟨g, h1, rfl, h3, h4, h5⟩ := (h.iff x).1 List.mem_cons_self
    rw [hn g h1 h3 h4] at h5
    cases h5
theorem IsAsk.fit {L : List Hd} {id : Int} {l : List Wn} (h : IsAsk L id l []) {g : Hd} (h1 : g ∈ L) (h2 : g.1 ≠ id) (h3 : wanted l g.2.1) : fitsB g.2.2 (goal L id l g.2.1) = true := by
  cases hf : fitsB g.2.2 (goal L id l g.2.1) with
  | true => rfl
  | false => exact absurd ((h.iff g.1).2 ⟨g, h1, rfl, h2, h3, hf⟩) (by simp)

theorem mem_takeF {id : Int} {L : List Hd} {w : Wn} {h : Hd} : h ∈ takeF id L w ↔ (h ∈ L ∧ ¬ (h.1 = id ∧ h.2.1 = w.1)) ∨ h = (id, w.1, w.2) := by
  unfold takeF
  rw [List.mem_append, List.mem_filter, List.mem_singleton]
  simp only [Bool.not_eq_true', decide_eq_false_iff_not]
theorem uniq_takeF {id : Int} {L : List Hd} (w : Wn) (hu : Uniq L) : Uniq (takeF id L w) := by
  unfold Uniq takeF
  rw [List.pairwise_append]
  refine ⟨List.Pairwise.filter _ hu, List.pairwise_singleton _ _, fun a ha b hb => ?_⟩
  rw [List.mem_singleton] at hb
  subst hb
  have := (List.mem_filter.1 ha).2
  simp only [Bool.not_eq_true', decide_eq_false_iff_not] at this
  exact this
theorem uniq_takeL {id : Int} {L : List Hd} (W : List Wn) (hu : Uniq L) : Uniq (takeL L id W) := by
  induction W generalizing L with
  | nil => exact hu
  | cons w r ih => exact ih (uniq_takeF w hu)
theorem mem_takeL {id : Int} {W : List Wn} : ∀ {L : List Hd} {h : Hd}, (W.map (·.1)).Nodup → (h ∈ takeL L id W ↔ (h ∈ L ∧ ¬ (h.1 = id ∧ h.2.1 ∈ W.map (·.1))) ∨ (h.1 = id ∧ h.2 ∈ W)) := by
  induction W with
  | nil => intro L h _; simp [takeL]
  | cons w r ih =>
    intro L h hn
    rw [List.map_cons, List.nodup_cons] at hn
    show h ∈ takeL (takeF id L w) id r ↔ _
    rw [ih hn.2, mem_takeF]
    obtain ⟨h1, h2, h3⟩ := h
    obtain ⟨w1, w2⟩ := w
    simp only [List.map_cons, List.mem_cons, Prod.mk.injEq]
    constructor
    · rintro (⟨(⟨ha, hb⟩ | ⟨rfl, rfl, rfl⟩), hc⟩ | ⟨rfl, hc⟩)
      · refine .inl ⟨ha, ?_⟩
        rintro ⟨e, h4 | h4⟩
        · exact hb ⟨e, h4⟩
        · exact hc ⟨e, h4⟩
      · exact .inr ⟨rfl, .inl ⟨rfl, rfl⟩⟩
      · exact .inr ⟨rfl, .inr hc⟩
    · rintro (⟨ha, hb⟩ | ⟨rfl, (⟨rfl, rfl⟩ | hc)⟩)
      · exact .inl ⟨.inl ⟨ha, fun e => hb ⟨e.1, .inl e.2⟩⟩, fun e => hb ⟨e.1, .inr e.2⟩⟩
      · exact .inl ⟨.inr ⟨rfl, rfl, rfl⟩, fun e => hn.1 e.2⟩
      · exact .inr ⟨rfl, hc⟩

/-- what a Take that may be leaves -/
def tookL (L : List Hd) (id : Int) (l : List Wn) : List Hd := takeL L id (whole L id l)
theorem mem_tookL {L : List Hd} {id : Int} {l : List Wn} {h : Hd} : h ∈ tookL L id l ↔ (h ∈ L ∧ ¬ (h.1 = id ∧ wanted l h.2.1)) ∨ (h.1 = id ∧ wanted l h.2.1 ∧ h.2.2 = goal L id l h.2.1) := by
  have hw := whole_is L id l
  unfold tookL
  rw [mem_takeL hw.once]
  have hn : ∀ n, n ∈ (whole L id l).map (·.1) ↔ wanted l n := by
    intro n
    rw [List.mem_map]
    constructor
    · rintro ⟨⟨a, b⟩, h1, rfl⟩; exact ((hw.iff a b).1 h1).1
    · intro h1; exact ⟨(n, goal L id l n), (hw.iff _ _).2 ⟨h1, rfl⟩, rfl⟩
  rw [hn]
  obtain ⟨h1, h2, h3⟩ := h
  rw [hw.iff]
theorem uniq_tookL {L : List Hd} (hu : Uniq L) (id : Int) (l : List Wn) : Uniq (tookL L id l) := uniq_takeL _ hu
theorem uniq_releaseL {L : List Hd} (hu : Uniq L) (id : Int) : Uniq (releaseL L id) := List.Pairwise.filter _ hu
theorem mem_releaseL {L : List Hd} {id : Int} {h : Hd} : h ∈ releaseL L id ↔ h ∈ L ∧ h.1 ≠ id := by
  unfold releaseL; rw [List.mem_filter]; simp
theorem uniq_nil : Uniq [] := List.Pairwise.nil

/-- no two hold on one name what does not fit -/
def SafeL (L : List Hd) : Prop := ∀ g ∈ L, ∀ h ∈ L, g.1 ≠ h.1 → g.2.1 = h.2.1 → fitsB g.2.2 h.2.2 = true
theorem safe_nil : SafeL [] := fun g hg => by cases hg
theorem safe_release {L : List Hd} (h : SafeL L) (id : Int) : SafeL (releaseL L id) := fun a ha b hb => h a (mem_releaseL.1 ha).1 b (mem_releaseL.1 hb).1
theorem safe_took {L : List Hd} (hs : SafeL L) {id : Int} {l : List Wn} (ha : IsAsk L id l []) : SafeL (tookL L id l) := by
  intro g hg h hh hne hn
  rcases mem_tookL.1 hg with ⟨g1, g2⟩ | ⟨g1, g2, g3⟩ <;> rcases mem_tookL.1 hh with ⟨h1, h2⟩ | ⟨h1, h2, h3⟩
  · exact hs g g1 h h1 hne hn
  · rw [h3, ← hn]
    exact ha.fit g1 (fun e => hne (by rw [e, h1])) (by rw [hn]; exact h2)
  · rw [fits_symm, g3, hn]
    exact ha.fit h1 (fun e => hne (by rw [g1, e])) (by rw [← hn]; exact g2)
  · exact absurd (g1.trans h1.symm) hne

theorem mem_heldRaw {L : List Hd} {id : Int} {x : Wn} : x ∈ heldRaw id L ↔ (id, x) ∈ L := by
  unfold heldRaw
  rw [List.mem_map]
  constructor
  · rintro ⟨⟨a, b⟩, h, rfl⟩
    rw [List.mem_filter] at h
    have := h.2
    simp at this
    subst this
    exact h.1
  · intro h
    exact ⟨(id, x), List.mem_filter.2 ⟨h, by simp⟩, rfl⟩
theorem nodup_of_uniq {L : List Hd} (hu : Uniq L) : L.Nodup := List.Pairwise.imp (fun h e => h (by rw [e]; exact ⟨rfl, rfl⟩)) hu
theorem perm_of_same {L M : List Hd} (hL : Uniq L) (hM : Uniq M) (h : ∀ x, x ∈ L ↔ x ∈ M) : L.Perm M := (List.perm_ext_iff_of_nodup (nodup_of_uniq hL) (nodup_of_uniq hM)).2 h
theorem heldRaw_perm {L M : List Hd} (h : L.Perm M) (id : Int) : (heldRaw id L).Perm (heldRaw id M) := (h.filter _).map _
theorem heldRaw_release (L : List Hd) (id : Int) : heldRaw id (releaseL L id) = [] := by
  apply List.eq_nil_iff_forall_not_mem.2
  intro x hx
  exact (mem_releaseL.1 (mem_heldRaw.1 hx)).2 rfl
theorem took_again {L : List Hd} (hu : Uniq L) (id : Int) (l : List Wn) (x : Hd) : x ∈ tookL (tookL L id l) id l ↔ x ∈ tookL L id l := by
  have hg : ∀ n, wanted l n → goal (tookL L id l) id l n = goal L id l n := by
    intro n hw
    have : modeL (tookL L id l) id n = goal L id l n := modeL_some (uniq_tookL hu id l) (mem_tookL.2 (.inr ⟨rfl, hw, rfl⟩))
    unfold goal at this ⊢
    rw [this, goalF_idem]
  rw [mem_tookL (L := tookL L id l)]
  constructor
  · rintro (⟨h1, h2⟩ | ⟨h1, h2, h3⟩)
    · exact h1
    · exact mem_tookL.2 (.inr ⟨h1, h2, by rw [h3, hg _ h2]⟩)
  · intro h
    by_cases hw : x.1 = id ∧ wanted l x.2.1
    · right
      rcases mem_tookL.1 h with ⟨_, h2⟩ | ⟨h1, h2, h3⟩
      · exact absurd hw h2
      · exact ⟨h1, h2, by rw [h3, hg _ h2]⟩
    · exact .inl ⟨h, hw⟩
theorem took_ids {L : List Hd} {p : Int → Prop} (h : ∀ x ∈ L, p x.1) {id : Int} (hp : p id) (l : List Wn) : ∀ x ∈ tookL L id l, p x.1 := by
  intro x hx
  rcases mem_tookL.1 hx with ⟨h1, _⟩ | ⟨h1, _⟩
  · exact h x h1
  · rw [h1]; exact hp
theorem ask_own {L : List Hd} {id : Int} {l : List Wn} {c : List Int} (h : IsAsk L id l c) (hi : ∀ x ∈ L, x.1 = id) : c = [] := h.nil (fun g hg hne _ => absurd (hi g hg) hne)
theorem not_wanted_nil (n : ByteArray) : ¬ wanted [] n := fun ⟨w, hw, _⟩ => by cases hw
theorem ask_nothing {L : List Hd} {id : Int} {c : List Int} (h : IsAsk L id [] c) : c = [] := h.nil (fun g _ _ hw => absurd hw (not_wanted_nil _))
end Go.Proofs.Ytoghmllkaafckaa

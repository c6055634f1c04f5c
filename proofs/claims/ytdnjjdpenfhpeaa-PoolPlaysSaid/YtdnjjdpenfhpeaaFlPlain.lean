/- Plain: what a lay leaves on a device that does not fail. -/
import Derived.Test.YtdnjjdpenfhpeaaFlLay
namespace Go.Proofs.Ytdnjjdpenfhpeaa
set_option linter.unusedSimpArgs false
set_option linter.unusedVariables false

/-- a device that does not fail -/
structure Dv.good (D : Dv) : Prop where
  ok : D.ok
  fuse : D.fuse = -1
  dead : D.dead = false
theorem Dv.good.burn {D : Dv} (h : D.good) : D.burn.1 = true ∧ D.burn.2.fuse = D.fuse ∧ D.burn.2.dead = D.dead := by
  have hf := h.fuse
  rcases Dv.burn_cases D with hc | hc | hc
  · omega
  · omega
  · exact ⟨hc.2.2.1, hc.2.2.2.1, hc.2.2.2.2.1⟩
theorem Dv.good.write {D : Dv} (h : D.good) (i : Nat) (l : List UInt8) (hi : i < D.l.length) (hl : l.length = 128) : (D.write i l).good ∧ (D.write i l).l = D.l ∧ (D.write i l).c = D.c ++ [(i, l)] := by
  obtain ⟨h1, h2, h3⟩ := h.burn
  obtain ⟨f1, f2, f3⟩ := Dv.write_facts h1 i l
  refine ⟨⟨?_, ?_, f1.trans h.dead⟩, f2, f3⟩
  · have hok := Dv.burn_ok h.ok
    obtain ⟨b1, b2⟩ := Dv.burn_l D
    unfold Dv.write
    rw [if_pos h1]
    refine ⟨hok.l, fun x hx => ?_, hok.n, hok.f1, hok.f2⟩
    rcases List.mem_append.1 hx with hx | hx
    · exact hok.c x hx
    · rw [List.mem_singleton.1 hx]; exact ⟨by rw [b1]; exact hi, hl⟩
  · unfold Dv.write
    rw [if_pos h1]
    exact h2.trans h.fuse
theorem Dv.good.sync {D : Dv} (h : D.good) : D.sync.good ∧ D.sync.l.length = D.l.length ∧ D.sync.c = [] ∧ ∀ i, D.sync.sec i = D.sec i := by
  obtain ⟨h1, h2, h3⟩ := h.burn
  obtain ⟨b1, b2⟩ := Dv.burn_l D
  have hok := Dv.burn_ok h.ok
  have hsec : ∀ i, padS ((setAll D.burn.2.l D.burn.2.c).getD i []) = overC i D.burn.2.c (padS (D.burn.2.l.getD i [])) := setAll_sec _ _ hok.c
  unfold Dv.sync
  rw [if_pos h1]
  refine ⟨⟨⟨?_, (fun x hx => by cases hx), ?_, hok.f1, hok.f2⟩, h2.trans h.fuse, h3.trans h.dead⟩, ?_, rfl, fun i => ?_⟩
  · have hc := hok.c
    have hl := hok.l
    revert hc hl
    generalize D.burn.2.c = c
    generalize D.burn.2.l = l
    induction c generalizing l with
    | nil => intro _ hl; exact hl
    | cons x r ih =>
      intro hc hl
      refine ih (l.set x.1 x.2) (fun y hy => ?_) (fun s hs => ?_)
      · rw [List.length_set]; exact hc y (List.mem_cons_of_mem _ hy)
      · rcases List.mem_or_eq_of_mem_set hs with hs | rfl
        · exact hl s hs
        · exact .inr (hc x (List.mem_cons_self ..)).2
  · show (setAll D.burn.2.l D.burn.2.c).length ≤ 8192
    rw [setAll_length]; exact hok.n
  · show (setAll D.burn.2.l D.burn.2.c).length = _
    rw [setAll_length, b1]
  · show padS ((setAll D.burn.2.l D.burn.2.c).getD i []) = _
    rw [hsec, b1, b2]; rfl
theorem Dv.good.layR {q : Nat} {b : List UInt8} : ∀ (m k : Nat) (D : Dv), D.good → q + k + m ≤ D.l.length → b.length = 128 * (k + m) →
    (Dv.layR q b m k D).1 = true ∧ (Dv.layR q b m k D).2.good ∧ (Dv.layR q b m k D).2.l.length = D.l.length ∧ (Dv.layR q b m k D).2.c = [] ∧
    ∀ i, (Dv.layR q b m k D).2.sec i = if q + k ≤ i ∧ i < q + k + m then chunk b (i - q) else D.sec i
  | 0, k, D, h, hq, hb => by
    obtain ⟨h1, h2, h3, h4⟩ := h.sync
    refine ⟨h.burn.1, h1, h2, h3, fun i => ?_⟩
    rw [if_neg (by omega)]
    exact h4 i
  | m + 1, k, D, h, hq, hb => by
    rw [Dv.layR, if_pos h.burn.1]
    have hc : (chunk b k).length = 128 := chunk_len hb (by omega)
    obtain ⟨w1, w2, w3⟩ := h.write (q + k) (chunk b k) (by omega) hc
    obtain ⟨h1, h2, h3, h4, h5⟩ := Dv.good.layR (q := q) (b := b) m (k + 1) _ w1 (by rw [w2]; omega) (by omega)
    refine ⟨h1, h2, h3.trans (by rw [w2]), h4, fun i => ?_⟩
    rw [h5]
    have hs : (D.write (q + k) (chunk b k)).sec i = if q + k = i then chunk b k else D.sec i := by
      unfold Dv.sec
      rw [w2, w3, overC_snoc]
    rw [hs]
    by_cases e1 : q + k = i
    · subst e1
      rw [if_neg (by omega), if_pos rfl, if_pos (by omega)]
      congr 1; omega
    · rw [if_neg e1]
      by_cases e2 : q + (k + 1) ≤ i ∧ i < q + (k + 1) + m
      · rw [if_pos e2, if_pos (by omega)]
      · rw [if_neg e2, if_neg (by omega)]
/-- four sectors of a page are the page -/
theorem secsD_ext {D D' : Dv} {q : Nat} : ∀ {n : Nat}, (∀ i, q ≤ i → i < q + n → D.sec i = D'.sec i) → secsD D q n = secsD D' q n
  | 0, _ => rfl
  | n + 1, h => by
    rw [secsD, secsD, secsD_ext (fun i h1 h2 => h i h1 (by omega)), h (q + n) (by omega) (by omega)]
theorem secsD_chunks {D : Dv} {q : Nat} {b : List UInt8} : ∀ {n : Nat}, 128 * n ≤ b.length → (∀ k, k < n → D.sec (q + k) = chunk b k) → secsD D q n = b.take (128 * n)
  | 0, _, _ => by simp [secsD]
  | n + 1, hb, h => by
    rw [secsD, secsD_chunks (by omega) (fun k hk => h k (by omega)), h n (by omega), chunk]
    rw [show 128 * (n + 1) = 128 * n + 128 by omega, List.take_add]
end Go.Proofs.Ytdnjjdpenfhpeaa

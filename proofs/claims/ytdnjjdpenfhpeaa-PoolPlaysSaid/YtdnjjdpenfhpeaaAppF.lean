/- append to a slice with no spare room; slices of slices with the same cells throughout. Conditions: none. -/
import Derived.Test.YtdnjjdpenfhpeaaBox
import Derived.ArgAppend
namespace Go.Proofs.Ytdnjjdpenfhpeaa
set_option linter.unusedSimpArgs false
set_option linter.unusedVariables false
open Go.RowKit

/-- append of nothing -/
theorem run_append_zero {P : Program} {w : World} (t ty e : TypeId) (i : TypeInfo) (ht : P.underlying t = some (.slice e)) (hi : P.info? e = some i) (ao ao2 : Option Addr) (n c c2 : Nat) (hc : n ≤ c) (hno : ao = none → n = 0 ∧ c = 0) :
    (Builtin.append_ #[t, t] ty #[.slice ao n c, .slice ao2 0 c2]).run P w = .ok (.slice ao n c) w := by
  have hl0 : ∀ a : Addr, (loadCells a 0).run P w = .ok #[] w := fun a => rfl
  have hs0 : ∀ a : Addr, (storeCells a []).run P w = .ok () w := fun a => rfl
  cases ao with
  | none =>
    obtain ⟨rfl, rfl⟩ := hno rfl
    cases ao2 <;> simp [Builtin.append_, run_underlying ht, sizeOf, typeInfo, hi, Builtin.lenOf, Builtin.firstCells, hl0, Result.andThen]
  | some a =>
    cases ao2 <;> simp [Builtin.append_, run_underlying ht, sizeOf, typeInfo, hi, Builtin.lenOf, Builtin.firstCells, hl0, hs0, hc, Result.andThen]

theorem run_append_full {P : Program} {w : World} {t e : TypeId} {z : Value} {bytes : Nat} (T : SliceOf P t e z 1 bytes) (ty : TypeId)
    {ao : Option Addr} {n : Nat} {xs : List Value} (hr : Reads 1 w (.slice ao n n) n xs) {ao2 : Option Addr} {m c2 : Nat} {ys : List Value} (hr2 : Reads 1 w (.slice ao2 m c2) m ys) (h1 : ∀ u ∈ ys, u.oneCell' = true)
    (h63 : n + m ≤ 1152921504606846976) (hbytes : (n + m) * bytes ≤ 140737488355328) :
    ∃ ao' c' w', (Builtin.append_ #[t, t] ty #[.slice ao n n, .slice ao2 m c2]).run P w = .ok (.slice ao' (n + m) c') w' ∧ n + m ≤ c' ∧ Grow w w' ∧
      ((m = 0 ∧ ao' = ao ∧ c' = n ∧ w' = w) ∨ (∃ g, ao' = some ⟨g, 0, none⟩ ∧ w.heap.size ≤ g ∧ w'.ownsRow w.heap.size e 1 (.slice ao' (n + m) c') (n + m) (xs ++ ys))) := by
  obtain ⟨i, hi, hz0, hz1, hz2⟩ := info_parts T.info
  rcases Nat.eq_zero_or_pos m with e0 | hm
  · subst e0
    by_cases hno : ao = none ∧ 0 < n
    · exfalso
      obtain ⟨e1, h2⟩ := hno
      obtain ⟨_, _, b, off, h, _⟩ := hr.some_addr h2
      rw [e1] at h; cases h
    · refine ⟨ao, n, w, run_append_zero t ty e i T.und hi ao ao2 n n c2 (Nat.le_refl _) (fun h => ?_), Nat.le_refl _, Grow.refl _, .inl ⟨rfl, rfl, rfl, rfl⟩⟩
      have : n = 0 := by
        rcases Nat.eq_zero_or_pos n with h1 | h1
        · exact h1
        · exact absurd ⟨h, h1⟩ hno
      exact ⟨this, this⟩
  · obtain ⟨hle, hl2, b2, off2, rfl, hb2, hc2⟩ := hr2.some_addr hm
    have hnews : ∀ j u, ys[j]? = some u → w.cell? ((⟨b2, off2, none⟩ : Addr).add j) = some u := fun j u h => by rw [Addr.add_lit]; exact hc2 j u h
    have fin : ∀ v' w', (Builtin.append_ #[t, t] ty #[.slice ao n n, .slice (some ⟨b2, off2, none⟩) m c2]).run P w = .ok v' w' → w'.ownsRow w.heap.size e 1 v' (n + m) (xs ++ ys) → w.grownBy w' none →
        ∃ ao' c' w', (Builtin.append_ #[t, t] ty #[.slice ao n n, .slice (some ⟨b2, off2, none⟩) m c2]).run P w = .ok (.slice ao' (n + m) c') w' ∧ n + m ≤ c' ∧ Grow w w' ∧
      ((m = 0 ∧ ao' = ao ∧ c' = n ∧ w' = w) ∨ (∃ g, ao' = some ⟨g, 0, none⟩ ∧ w.heap.size ≤ g ∧ w'.ownsRow w.heap.size e 1 (.slice ao' (n + m) c') (n + m) (xs ++ ys))) := by
      intro v' w' hrun hown hgr
      obtain ⟨g, cap, rfl, hb, hlt, hnc, hcm⟩ := own_some hown (fun e => by
        rcases hown.2 with ⟨_, h0⟩ | ⟨g, cap, cur, h', _⟩
        · omega
        · rw [e] at h'; cases h')
      exact ⟨_, cap, w', hrun, hnc, ⟨hgr.os, hgr.tape, hgr.output, hgr.size, fun k hk => hgr.block k hk (by simp)⟩, .inr ⟨g, rfl, hb, hown⟩⟩
    cases ao with
    | none =>
      have hn : n = 0 := by
        rcases Nat.eq_zero_or_pos n with h | h
        · exact h
        · obtain ⟨_, _, b, off, h, _⟩ := hr.some_addr h; cases h
      subst hn
      have hx : xs = [] := by
        obtain ⟨_, _, he, hl, _⟩ := hr
        exact List.eq_nil_of_length_eq_zero (by simpa using hl)
      subst hx
      obtain ⟨v', w', hrun, hown, hgr, _⟩ := run_append_own w w.heap.size t ty e i z 1 bytes T.und hi hz0 hz1 hz2 T.cells T.pos (.slice none 0 0) 0 [] (World.ownsRow_nil _ _ _ _) ⟨b2, off2, none⟩ m c2 ys hl2 hnews h1 (by unfold maxLen; omega) hbytes (Nat.le_refl _)
      exact fin v' w' hrun hown hgr
    | some a =>
      obtain ⟨ao', cap', he, hl, _, hcell⟩ := hr
      injection he with e1 _ e3
      subst e1 e3
      have hcx : ∀ j u, xs[j]? = some u → w.cell? (a.add j) = some u := by
        intro j u hu
        have hn : 0 < n := by
          rcases Nat.eq_zero_or_pos n with h | h
          · subst h
            have : xs = [] := List.eq_nil_of_length_eq_zero (by simpa using hl)
            subst this; cases hu
          · exact h
        obtain ⟨b, off, hb, _, hc⟩ := hcell hn
        obtain rfl := Option.some.inj hb
        rw [Addr.add_lit]
        exact hc j u hu
      obtain ⟨v', w', hrun, hown, hgr⟩ := run_append_arg_grows (P := P) w t ty e i z 1 bytes T.und hi hz0 hz1 hz2 T.cells T.pos a n n xs hl hcx ⟨b2, off2, none⟩ m c2 ys hl2 hnews (by omega) (by unfold maxLen; omega) hbytes
      exact fin v' w' hrun hown hgr

/-- append to a slice with no spare room, for the walk; what is kept -/
theorem wpList_append_full {P : Program} {w : World} {ops : Array Oper} {rest : List Oper} {o : Oper} {a : Act} {Q : Exit → Act → World → Prop}
    {t e : TypeId} {z : Value} {bytes : Nat} (T : SliceOf P t e z 1 bytes) (s x : Operand) (hgd : o.guard = none)
    (ho : o.op = .call { callee := .builtin .append, args := #[s, x], argTypes := #[t, t] })
    {ao : Option Addr} {n : Nat} {xs : List Value} (hs : a.eval s = .slice ao n n) {X : Nat → Prop} (hr : Kept X w (fun w2 => Reads 1 w2 (.slice ao n n) n xs)) (hB0 : ∀ k, X k → k < w.heap.size)
    {ao2 : Option Addr} {m c2 : Nat} {ys : List Value} (hx : a.eval x = .slice ao2 m c2) (hr2 : Reads 1 w (.slice ao2 m c2) m ys) (h1 : ∀ u ∈ ys, u.oneCell' = true)
    (h63 : n + m ≤ 1152921504606846976) (hbytes : (n + m) * bytes ≤ 140737488355328)
    (h : ∀ ao' c' w', n + m ≤ c' → Grow w w' → Kept X w' (fun w2 => Reads 1 w2 (.slice ao' (n + m) c') (n + m) (xs ++ ys)) →
      (0 < m → ∃ g, ao' = some ⟨g, 0, none⟩ ∧ w.heap.size ≤ g ∧ w'.ownsRow w.heap.size e 1 (.slice ao' (n + m) c') (n + m) (xs ++ ys)) →
      wpList P ops Q rest (a.put o.dst (.slice ao' (n + m) c')) w') : wpList P ops Q (o :: rest) a w := by
  obtain ⟨ao', c', w', hrun, hle, hgr, hor⟩ := run_append_full (P := P) T o.type hr.now hr2 h1 h63 hbytes
  refine wpList_plain hgd fun K hK => ?_
  unfold Oper.wp
  simp [execOp, ho, resolve, invoke, builtin, hs, hx, hrun, Result.andThen]
  refine hK _ _ (h ao' c' w' hle hgr ?_ (fun hm => ?_))
  · rcases hor with ⟨rfl, rfl, rfl, rfl⟩ | ⟨g, rfl, hg, hown⟩
    · have : ys = [] := by
        obtain ⟨_, _, _, hl, _⟩ := hr2
        exact List.eq_nil_of_length_eq_zero (by simpa using hl)
      subst this
      simpa using hr
    · exact (own_kept hown).mono (fun k _ h => hB0 k h)
  · rcases hor with ⟨rfl, _⟩ | h
    · omega
    · exact h

/-- append to a row that is owned: it stays, or a new one is made -/
theorem run_append_own3 {P : Program} {w : World} {t e : TypeId} {z : Value} {bytes : Nat} (T : SliceOf P t e z 1 bytes) (ty : TypeId)
    {base kb n cap : Nat} {xs : List Value} (hown : w.ownsRow base e 1 (.slice (some ⟨kb, 0, none⟩) n cap) n xs) {ao2 : Option Addr} {m c2 : Nat} {ys : List Value} (hr2 : Reads 1 w (.slice ao2 m c2) m ys) (h1 : ∀ u ∈ ys, u.oneCell' = true)
    (h63 : n + m ≤ 1152921504606846976) (hbytes : (n + m) * bytes ≤ 140737488355328) (hbase : base ≤ w.heap.size) :
    ∃ g c' w', (Builtin.append_ #[t, t] ty #[.slice (some ⟨kb, 0, none⟩) n cap, .slice ao2 m c2]).run P w = .ok (.slice (some ⟨g, 0, none⟩) (n + m) c') w' ∧ n + m ≤ c' ∧ GrowC (fun b _ => b = kb) w w' ∧
      (g = kb ∨ w.heap.size ≤ g) ∧ w'.ownsRow base e 1 (.slice (some ⟨g, 0, none⟩) (n + m) c') (n + m) (xs ++ ys) := by
  obtain ⟨i, hi, hz0, hz1, hz2⟩ := info_parts T.info
  have hown' := hown
  rcases hown.2 with ⟨h, _⟩ | ⟨kb', cap', cur, he, hb, hg, hnc, hcm, hcs, ht⟩
  · cases h
  injection he with e1 _ e3
  injection e1 with e1
  injection e1 with e1
  subst e1 e3
  rcases Nat.eq_zero_or_pos m with e0 | hm
  · subst e0
    have : ys = [] := by
      obtain ⟨_, _, _, hl, _⟩ := hr2
      exact List.eq_nil_of_length_eq_zero (by simpa using hl)
    subst this
    exact ⟨kb, cap, w, run_append_zero t ty e i T.und hi _ ao2 n cap c2 hnc (by simp), hnc, GrowC.refl _, .inl rfl, by simpa using hown'⟩
  · obtain ⟨hle, hl2, b2, off2, rfl, hb2, hc2⟩ := hr2.some_addr hm
    have hnews : ∀ j u, ys[j]? = some u → w.cell? ((⟨b2, off2, none⟩ : Addr).add j) = some u := fun j u h => by rw [Addr.add_lit]; exact hc2 j u h
    by_cases hroom : n + m ≤ cap
    · have hfit : n * i.size + ys.length ≤ cur.size := by rw [hcs, hl2, hz1, ← Nat.add_mul]; exact Nat.mul_le_mul_right _ hroom
      have hrun2 := run_append_room (P := P) w t ty e i T.und hi kb n cap cur hg ⟨b2, off2, none⟩ m c2 ys (by rw [hl2, hz1]) hnews h1 hroom hfit
      obtain ⟨v', w', hrun, hown2, hgr, _⟩ := run_append_own w base t ty e i z 1 bytes T.und hi hz0 hz1 hz2 T.cells T.pos _ n xs hown' ⟨b2, off2, none⟩ m c2 ys hl2 hnews h1 (by unfold maxLen; omega) hbytes hbase
      have hv := hrun
      rw [hrun2] at hv
      injection hv with e1 e2
      subst e1
      refine ⟨kb, cap, w', hrun, hroom, ?_, .inl rfl, hown2⟩
      rcases hown2.2 with ⟨h, _⟩ | ⟨kb', cap', cur', he, _, hg', _⟩
      · cases h
      injection he with e1 _ _
      injection e1 with e1
      injection e1 with e1
      subst e1
      refine ⟨hgr.os, hgr.tape, hgr.output, hgr.size, fun k hk hx => hgr.block k hk (fun e => hx 0 (Option.some.inj e)), fun k o hk hx => ?_, fun k o hk => ?_⟩
      · have := hgr.block k hk (fun e => hx (Option.some.inj e))
        simp only [World.cell?, this]
      · by_cases hkk : k = kb
        · subst hkk
          rw [frozen_of_row w' k o cur' e hg', frozen_of_row w k o cur e hg]
        · have := hgr.block k hk (fun e => hkk (Option.some.inj e))
          simp only [World.frozen?, this]
    · obtain ⟨v', w', hrun, hown2, hgr⟩ := run_append_arg_grows (P := P) w t ty e i z 1 bytes T.und hi hz0 hz1 hz2 T.cells T.pos ⟨kb, 0, none⟩ n cap xs hown'.1 (own_cellsK hown') ⟨b2, off2, none⟩ m c2 ys hl2 hnews (by omega) (by unfold maxLen; omega) hbytes
      obtain ⟨g, cap2, rfl, hb3, hlt, hnc2, hcm2⟩ := own_some hown2 (fun e => by
        rcases hown2.2 with ⟨_, h0⟩ | ⟨g, cap, cur, h', _⟩
        · omega
        · rw [e] at h'; cases h')
      exact ⟨g, cap2, w', hrun, hnc2, GrowC.of_grow ⟨hgr.os, hgr.tape, hgr.output, hgr.size, fun k hk => hgr.block k hk (by simp)⟩, .inr hb3, own_base hown2 hbase⟩

theorem wpList_append_own3 {P : Program} {w : World} {ops : Array Oper} {rest : List Oper} {o : Oper} {a : Act} {Q : Exit → Act → World → Prop}
    {t e : TypeId} {z : Value} {bytes : Nat} (T : SliceOf P t e z 1 bytes) (s x : Operand) (hgd : o.guard = none)
    (ho : o.op = .call { callee := .builtin .append, args := #[s, x], argTypes := #[t, t] })
    {base kb n cap : Nat} {xs : List Value} (hs : a.eval s = .slice (some ⟨kb, 0, none⟩) n cap) (hown : w.ownsRow base e 1 (.slice (some ⟨kb, 0, none⟩) n cap) n xs)
    {ao2 : Option Addr} {m c2 : Nat} {ys : List Value} (hx : a.eval x = .slice ao2 m c2) (hr2 : Reads 1 w (.slice ao2 m c2) m ys) (h1 : ∀ u ∈ ys, u.oneCell' = true)
    (h63 : n + m ≤ 1152921504606846976) (hbytes : (n + m) * bytes ≤ 140737488355328) (hbase : base ≤ w.heap.size)
    (h : ∀ g c' w', n + m ≤ c' → GrowC (fun b _ => b = kb) w w' → (g = kb ∨ w.heap.size ≤ g) → w'.ownsRow base e 1 (.slice (some ⟨g, 0, none⟩) (n + m) c') (n + m) (xs ++ ys) →
      wpList P ops Q rest (a.put o.dst (.slice (some ⟨g, 0, none⟩) (n + m) c')) w') : wpList P ops Q (o :: rest) a w := by
  obtain ⟨g, c', w', hrun, hle, hgr, hor, hown'⟩ := run_append_own3 (P := P) T o.type hown hr2 h1 h63 hbytes hbase
  refine wpList_plain hgd fun K hK => ?_
  unfold Oper.wp
  simp [execOp, ho, resolve, invoke, builtin, hs, hx, hrun, Result.andThen]
  exact hK _ _ (h g c' w' hle hgr hor hown')

/-- the cells of a slice of slices are the same whatever becomes of the blocks below B0 -/
theorem Texts.uniform {X : Nat → Prop} {w : World} {v : Value} {L : List (List UInt8)} (hk : Kept X w (fun w2 => Texts w2 v L)) :
    ∃ xs, Kept X w (fun w2 => Reads 1 w2 v L.length xs ∧ TextsAt w2 xs L) := by
  obtain ⟨xs, hr, ht⟩ := hk.now
  refine ⟨xs, fun w2 hg => ?_⟩
  obtain ⟨ys, hr2, ht2⟩ := hk w2 hg
  have : ys = xs := by
    obtain ⟨ao, cap, rfl, hl, hc, hcell⟩ := hr
    obtain ⟨ao', cap', he, hl2, hc2, hcell2⟩ := hr2
    injection he with e1 _ e3
    subst e1 e3
    apply List.ext_getElem?
    intro j
    by_cases hj : j < L.length
    · obtain ⟨b, off, rfl, hlt, hcx⟩ := hcell (by omega)
      obtain ⟨b', off', hb, hlt2, hcy⟩ := hcell2 (by omega)
      injection hb with hb
      injection hb with h1 h2
      subst h1 h2
      have hnb : ¬ X b := kept_above (o := off + 0) hk (fun w3 h => by
        obtain ⟨zs, ⟨ao3, cap3, he3, hl3, _, hc3⟩, _⟩ := h
        injection he3 with e1 _ _
        obtain ⟨b3, off3, hb3, _, hc4⟩ := hc3 (by omega)
        rw [← e1] at hb3
        injection hb3 with hb3
        injection hb3 with k1 k2
        subst k1 k2
        exact ⟨zs[0]'(by omega), hc4 0 _ (List.getElem?_eq_getElem (by omega))⟩)
      have e1 := hcx j _ (List.getElem?_eq_getElem (show j < xs.length by omega))
      have e2 := hcy j _ (List.getElem?_eq_getElem (show j < ys.length by omega))
      have e3 : w2.cell? ⟨b, off + j, none⟩ = w.cell? ⟨b, off + j, none⟩ := by
        have := hg.block b hlt hnb
        simp only [World.cell?, this]
      rw [e3, e1] at e2
      rw [List.getElem?_eq_getElem (show j < xs.length by omega), List.getElem?_eq_getElem (show j < ys.length by omega), Option.some.inj e2]
    · rw [List.getElem?_eq_none (by omega), List.getElem?_eq_none (by omega)]
  subst this
  exact ⟨hr2, ht2⟩

end Go.Proofs.Ytdnjjdpenfhpeaa

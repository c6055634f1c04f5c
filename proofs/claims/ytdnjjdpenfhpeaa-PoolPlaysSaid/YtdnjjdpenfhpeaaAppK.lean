/- append to what is owned, elements of any number of cells: the row stays and is written alone, or a new one is made and nothing old is written. Conditions: sizes. -/
import Derived.Test.YtdnjjdpenfhpeaaAppF
namespace Go.Proofs.Ytdnjjdpenfhpeaa
set_option linter.unusedSimpArgs false
set_option linter.unusedVariables false
open Go.RowKit

theorem run_append_k {P : Program} (w : World) (base : Nat) (t ty e : TypeId) (i : TypeInfo) (z : Value) (size bytes : Nat) (ht : P.underlying t = some (.slice e)) (hi : P.info? e = some i) (hz : i.zero = some z)
    (hsize : i.size = size) (hby : i.bytes = bytes) (hzs : z.cells.size = size) (hsz : 0 < size)
    (v : Value) (n : Nat) (xs : List Value) (hown : w.ownsRow base e size v n xs)
    (a : Addr) (m c : Nat) (news : List Value) (hl : news.length = m * size) (hnews : ∀ j u, news[j]? = some u → w.cell? (a.add j) = some u) (h1 : ∀ u ∈ news, u.oneCell' = true)
    (h63 : n + m ≤ maxLen) (hbytes : (n + m) * bytes ≤ 140737488355328) (hbase : base ≤ w.heap.size) (hpos : 0 < n + m) :
    ∃ g cap w', (Builtin.append_ #[t, t] ty #[v, .slice (some a) m c]).run P w = .ok (.slice (some ⟨g, 0, none⟩) (n + m) cap) w' ∧ w'.ownsRow base e size (.slice (some ⟨g, 0, none⟩) (n + m) cap) (n + m) (xs ++ news) ∧
      GrowC (fun b _ => v.ownBlock = some b ∧ b = g) w w' ∧ (v.ownBlock = some g ∨ w.heap.size ≤ g) := by
  obtain ⟨v', w', hrun, hown', hgrow, hiff⟩ := run_append_own w base t ty e i z size bytes ht hi hz hsize hby hzs hsz v n xs hown a m c news hl hnews h1 h63 hbytes hbase
  obtain ⟨g, cap, rfl, hb, hlt, hnc, hcm⟩ := own_some hown' (fun e => by
    obtain ⟨rfl, rfl⟩ := hiff.1 e
    rcases hown.2 with ⟨_, h0⟩ | ⟨g, cap, cur, h', _⟩
    · omega
    · simp at h')
  refine ⟨g, cap, w', hrun, hown', ?_⟩
  rcases hown.2 with ⟨rfl, rfl⟩ | ⟨g0, cap0, cur, rfl, hb0, hg0, hnc0, hcm0, hcs0, ht0⟩
  · refine ⟨GrowC.of_grow ⟨hgrow.os, hgrow.tape, hgrow.output, hgrow.size, fun k hk => hgrow.block k hk (by simp [Value.ownBlock])⟩, .inr ?_⟩
    obtain ⟨v2, w2, hrun2, hown2, _, _⟩ := run_append_own w w.heap.size t ty e i z size bytes ht hi hz hsize hby hzs hsz _ 0 [] (World.ownsRow_nil _ _ _ _) a m c news hl hnews h1 h63 hbytes (Nat.le_refl _)
    rw [hrun] at hrun2
    injection hrun2 with e1 e2
    subst e1
    exact (hown2.lt g rfl).1
  · by_cases hroom : n + m ≤ cap0
    · subst hsize
      have hfit : n * i.size + news.length ≤ cur.size := by rw [hcs0, hl, ← Nat.add_mul]; exact Nat.mul_le_mul_right _ hroom
      have hrun2 := run_append_room (P := P) w t ty e i ht hi g0 n cap0 cur hg0 a m c news hl hnews h1 hroom hfit
      rw [hrun] at hrun2
      injection hrun2 with e1 e2
      injection e1 with e1
      injection e1 with e1
      injection e1 with e1
      subst e1
      rcases hown'.2 with ⟨h, _⟩ | ⟨kb', cap', cur', he, _, hg', _⟩
      · cases h
      injection he with e1 _ _
      injection e1 with e1
      injection e1 with e1
      subst e1
      refine ⟨⟨hgrow.os, hgrow.tape, hgrow.output, hgrow.size, fun k hk hx => hgrow.block k hk (fun e => hx 0 ⟨e.symm, by injection e⟩), fun k o hk hx => ?_, fun k o hk => ?_⟩, .inl rfl⟩
      · have := hgrow.block k hk (fun e => hx ⟨e.symm, by injection e⟩)
        simp only [World.cell?, this]
      · by_cases hkk : k = g
        · subst hkk
          rw [frozen_of_row w' k o cur' e hg', frozen_of_row w k o cur e hg0]
        · have := hgrow.block k hk (fun e => hkk (Option.some.inj e))
          simp only [World.frozen?, this]
    · obtain ⟨v2, w2, hrun2, hown2, hgr2⟩ := run_append_arg_grows (P := P) w t ty e i z size bytes ht hi hz hsize hby hzs hsz ⟨g0, 0, none⟩ n cap0 xs hown.1 (own_cellsK hown) a m c news hl hnews (by omega) h63 hbytes
      rw [hrun] at hrun2
      injection hrun2 with e1 e2
      subst e1 e2
      exact ⟨GrowC.of_grow ⟨hgr2.os, hgr2.tape, hgr2.output, hgr2.size, fun k hk => hgr2.block k hk (by simp)⟩, .inr (hown2.lt g rfl).1⟩

theorem wpList_append_k {P : Program} {w : World} {ops : Array Oper} {rest : List Oper} {o : Oper} {a : Act} {Q : Exit → Act → World → Prop}
    {t e : TypeId} {z : Value} {size bytes : Nat} (T : SliceOf P t e z size bytes) (s x : Operand) (hgd : o.guard = none)
    (ho : o.op = .call { callee := .builtin .append, args := #[s, x], argTypes := #[t, t] })
    {base : Nat} {v : Value} {n : Nat} {xs : List Value} (hs : a.eval s = v) (hown : w.ownsRow base e size v n xs)
    {ad : Addr} {m c : Nat} {news : List Value} (hx : a.eval x = .slice (some ad) m c) (hl : news.length = m * size) (hnews : ∀ j u, news[j]? = some u → w.cell? (ad.add j) = some u) (h1 : ∀ u ∈ news, u.oneCell' = true)
    (h63 : n + m ≤ 1152921504606846976) (hbytes : (n + m) * bytes ≤ 140737488355328) (hbase : base ≤ w.heap.size) (hpos : 0 < n + m)
    (h : ∀ g cap w', w'.ownsRow base e size (.slice (some ⟨g, 0, none⟩) (n + m) cap) (n + m) (xs ++ news) → GrowC (fun b _ => v.ownBlock = some b ∧ b = g) w w' → (v.ownBlock = some g ∨ w.heap.size ≤ g) →
      wpList P ops Q rest (a.put o.dst (.slice (some ⟨g, 0, none⟩) (n + m) cap)) w') : wpList P ops Q (o :: rest) a w := by
  obtain ⟨i, hi, hz0, hz1, hz2⟩ := info_parts T.info
  obtain ⟨g, cap, w', hrun, h2, h3, h4⟩ := run_append_k (P := P) w base t o.type e i z size bytes T.und hi hz0 hz1 hz2 T.cells T.pos v n xs hown ad m c news hl hnews h1 (by unfold maxLen; omega) hbytes hbase hpos
  refine wpList_plain hgd fun K hK => ?_
  unfold Oper.wp
  simp [execOp, ho, resolve, invoke, builtin, hs, hx, hrun, Result.andThen]
  exact hK _ _ (h g cap w' h2 h3 h4)
end Go.Proofs.Ytdnjjdpenfhpeaa

/- Slices of slices, and append with the word where the row lies. Conditions: none. -/
import Derived.Test.YtdnjjdpenfhpeaaPartsX
import Derived.ArgAppend
namespace Go.Proofs.Ytdnjjdpenfhpeaa
set_option linter.unusedSimpArgs false
set_option linter.unusedVariables false
open Go.RowKit

/-- append to what is owned: the row stays where it is, or lies in new memory -/
theorem run_append_own2 {P : Program} (w : World) (base : Nat) (t ty e : TypeId) (i : TypeInfo) (z : Value) (size bytes : Nat) (ht : P.underlying t = some (.slice e)) (hi : P.info? e = some i) (hz : i.zero = some z)
    (hsize : i.size = size) (hby : i.bytes = bytes) (hzs : z.cells.size = size) (hsz : 0 < size)
    (v : Value) (n : Nat) (xs : List Value) (hown : w.ownsRow base e size v n xs)
    (a : Addr) (m c : Nat) (news : List Value) (hl : news.length = m * size) (hnews : ∀ j u, news[j]? = some u → w.cell? (a.add j) = some u) (h1 : ∀ u ∈ news, u.oneCell' = true)
    (h63 : n + m ≤ maxLen) (hbytes : (n + m) * bytes ≤ 140737488355328) (hbase : base ≤ w.heap.size) (hpos : 0 < n + m) :
    ∃ g cap w', (Builtin.append_ #[t, t] ty #[v, .slice (some a) m c]).run P w = .ok (.slice (some ⟨g, 0, none⟩) (n + m) cap) w' ∧ w'.ownsRow base e size (.slice (some ⟨g, 0, none⟩) (n + m) cap) (n + m) (xs ++ news) ∧
      w.grownBy w' v.ownBlock ∧ (v.ownBlock = some g ∨ w.heap.size ≤ g) := by
  obtain ⟨v', w', hrun, hown', hgrow, hiff⟩ := run_append_own w base t ty e i z size bytes ht hi hz hsize hby hzs hsz v n xs hown a m c news hl hnews h1 h63 hbytes hbase
  obtain ⟨g, cap, rfl, hb, hlt, hnc, hcm⟩ := own_some hown' (fun e => by
    obtain ⟨rfl, rfl⟩ := hiff.1 e
    rcases hown.2 with ⟨_, h0⟩ | ⟨g, cap, cur, h', _⟩
    · omega
    · simp at h')
  refine ⟨g, cap, w', hrun, hown', hgrow, ?_⟩
  rcases hown.2 with ⟨rfl, rfl⟩ | ⟨g0, cap0, cur, rfl, hb0, hg0, hnc0, hcm0, hcs0, ht0⟩
  · right
    obtain ⟨v2, w2, hrun2, hown2, _, _⟩ := run_append_own w w.heap.size t ty e i z size bytes ht hi hz hsize hby hzs hsz _ 0 [] (World.ownsRow_nil _ _ _ _) a m c news hl hnews h1 h63 hbytes (Nat.le_refl _)
    rw [hrun] at hrun2
    injection hrun2 with e1 e2
    subst e1
    exact (hown2.lt g rfl).1
  · by_cases hroom : n + m ≤ cap0
    · left
      subst hsize
      have hfit : n * i.size + news.length ≤ cur.size := by rw [hcs0, hl, ← Nat.add_mul]; exact Nat.mul_le_mul_right _ hroom
      have hrun2 := run_append_room (P := P) w t ty e i ht hi g0 n cap0 cur hg0 a m c news hl hnews h1 hroom hfit
      rw [hrun] at hrun2
      injection hrun2 with e1 e2
      injection e1 with e1
      injection e1 with e1
      injection e1 with e1
      subst e1
      rfl
    · right
      obtain ⟨v2, w2, hrun2, hown2, _⟩ := run_append_arg_grows (P := P) w t ty e i z size bytes ht hi hz hsize hby hzs hsz ⟨g0, 0, none⟩ n cap0 xs hown.1 (own_cellsK hown) a m c news hl hnews (by omega) h63 hbytes
      rw [hrun] at hrun2
      injection hrun2 with e1 e2
      subst e1
      exact (hown2.lt g rfl).1

/-- what holds now, and as long as memory grows, but for block g -/
def Kept (X : Nat → Prop) (w : World) (p : World → Prop) : Prop := ∀ w', GrowX X w w' → p w'

theorem Kept.now {X : Nat → Prop} {w : World} {p : World → Prop} (h : Kept X w p) : p w := h w (GrowX.refl w)
theorem Kept.grow {X : Nat → Prop} {w w' : World} {p : World → Prop} (h : Kept X w p) (hg : GrowX X w w') : Kept X w' p := fun w'' h' => h w'' (hg.trans h')
/-- another block may be written from now on, if it is new -/
theorem Kept.turn {X Y : Nat → Prop} {w w' : World} {p : World → Prop} (h : Kept X w p) (hg : GrowX X w w') (hY : ∀ k, Y k → X k ∨ w.heap.size ≤ k) : Kept Y w' p :=
  fun w'' h' => h w'' ⟨h'.os.trans hg.os, h'.tape.trans hg.tape, h'.output.trans hg.output, Nat.le_trans hg.size h'.size,
    fun k hk hx => (h'.block k (Nat.lt_of_lt_of_le hk hg.size) (fun hy => (hY k hy).elim hx (fun h => by omega))).trans (hg.block k hk hx)⟩

/-- a slice that reads so keeps reading so -/
theorem Reads.kept {X : Nat → Prop} {K n : Nat} {w : World} {v : Value} {xs : List Value} (h : Reads K w v n xs) (hX : ∀ k, k < w.heap.size → ¬ X k) : Kept X w (fun w' => Reads K w' v n xs) :=
  fun w' hg => h.below (hg.below (B := w.heap.size) (fun k hk => ⟨hk, hX k hk⟩)) (Nat.le_refl _)

theorem Kept.mono {X Y : Nat → Prop} {w : World} {p : World → Prop} (h : Kept X w p) (hY : ∀ k, k < w.heap.size → Y k → X k) : Kept Y w p :=
  fun w' hg => h w' ⟨hg.os, hg.tape, hg.output, hg.size, fun k hk hx => hg.block k hk (fun hy => hx (hY k hk hy))⟩
theorem Kept.and {X : Nat → Prop} {w : World} {p q : World → Prop} (h : Kept X w p) (k : Kept X w q) : Kept X w (fun w => p w ∧ q w) := fun w' hg => ⟨h w' hg, k w' hg⟩
theorem Kept.imp {X : Nat → Prop} {w : World} {p q : World → Prop} (h : Kept X w p) (k : ∀ w, p w → q w) : Kept X w q := fun w' hg => k w' (h w' hg)

/-- what is owned from base on reads so, whatever becomes of the blocks below base -/
theorem own_kept {w : World} {base e K n : Nat} {v : Value} {xs : List Value} (h : w.ownsRow base e K v n xs) : Kept (fun k => k < base) w (fun w' => Reads K w' v n xs) := by
  intro w' hg
  refine Reads.of_own (base := base) (e := e) ⟨h.1, ?_⟩
  rcases h.2 with h' | ⟨g, cap, cur, rfl, hb, hc, r⟩
  · exact .inl h'
  · refine .inr ⟨g, cap, cur, rfl, hb, ?_, r⟩
    rw [hg.block g (Array.getElem?_eq_some_iff.1 hc).1 (by omega)]
    exact hc

theorem own_growx {X : Nat → Prop} {w w' : World} {base e K n : Nat} {v : Value} {xs : List Value} (h : w.ownsRow base e K v n xs) (hg : GrowX X w w') (hX : ∀ g, v.ownBlock = some g → ¬ X g) : w'.ownsRow base e K v n xs := by
  refine ⟨h.1, ?_⟩
  rcases h.2 with h' | ⟨g, cap, cur, rfl, hb, hc, r⟩
  · exact .inl h'
  · refine .inr ⟨g, cap, cur, rfl, hb, ?_, r⟩
    rw [hg.block g (Array.getElem?_eq_some_iff.1 hc).1 (hX g rfl)]
    exact hc

/-- append to what is owned, at least one element in all, for the walk: the row stays, or is new -/
theorem wpList_append_two {P : Program} {w : World} {ops : Array Oper} {rest : List Oper} {o : Oper} {a : Act} {Q : Exit → Act → World → Prop}
    {t e : TypeId} {z : Value} {size bytes : Nat} (T : SliceOf P t e z size bytes) (s x : Operand) (hgd : o.guard = none)
    (ho : o.op = .call { callee := .builtin .append, args := #[s, x], argTypes := #[t, t] })
    {base : Nat} {v : Value} {n : Nat} {xs : List Value} (hs : a.eval s = v) (hown : w.ownsRow base e size v n xs)
    {ad : Addr} {m c : Nat} {news : List Value} (hx : a.eval x = .slice (some ad) m c) (hl : news.length = m * size) (hnews : ∀ j u, news[j]? = some u → w.cell? (ad.add j) = some u) (h1 : ∀ u ∈ news, u.oneCell' = true)
    (h63 : n + m ≤ 1152921504606846976) (hbytes : (n + m) * bytes ≤ 140737488355328) (hbase : base ≤ w.heap.size) (hpos : 0 < n + m)
    (h : ∀ g cap w', w'.ownsRow base e size (.slice (some ⟨g, 0, none⟩) (n + m) cap) (n + m) (xs ++ news) → w.grownBy w' v.ownBlock → (v.ownBlock = some g ∨ w.heap.size ≤ g) →
      wpList P ops Q rest (a.put o.dst (.slice (some ⟨g, 0, none⟩) (n + m) cap)) w') : wpList P ops Q (o :: rest) a w := by
  obtain ⟨i, hi, hz0, hz1, hz2⟩ := info_parts T.info
  obtain ⟨g, cap, w', hrun, h2, h3, h4⟩ := run_append_own2 (P := P) w base t o.type e i z size bytes T.und hi hz0 hz1 hz2 T.cells T.pos v n xs hown ad m c news hl hnews h1 (by unfold maxLen; omega) hbytes hbase hpos
  refine wpList_plain hgd fun K hK => ?_
  unfold Oper.wp
  simp [execOp, ho, resolve, invoke, builtin, hs, hx, hrun, Result.andThen]
  exact hK _ _ (h g cap w' h2 h3 h4)

/-- the cells xs are slices that read as the texts L -/
def TextsAt (w : World) (xs : List Value) (L : List (List UInt8)) : Prop :=
  xs.length = L.length ∧ ∀ (i : Nat) s l, xs[i]? = some s → L[i]? = some l → Reads 1 w s l.length (l.map B)

theorem TextsAt.below {w w' : World} {xs : List Value} {L : List (List UInt8)} {B0 : Nat} (h : TextsAt w xs L) (hb : Below B0 w w') (hB : w.heap.size ≤ B0) : TextsAt w' xs L :=
  ⟨h.1, fun i s l h1 h2 => (h.2 i s l h1 h2).below hb hB⟩

theorem TextsAt.nil {w : World} : TextsAt w [] [] := ⟨rfl, fun i s l h _ => by simp at h⟩

theorem TextsAt.append {w : World} {xs ys : List Value} {L M : List (List UInt8)} (h : TextsAt w xs L) (k : TextsAt w ys M) : TextsAt w (xs ++ ys) (L ++ M) := by
  refine ⟨by simp [h.1, k.1], fun i s l h1 h2 => ?_⟩
  by_cases hi : i < xs.length
  · rw [List.getElem?_append_left hi] at h1
    rw [List.getElem?_append_left (by rw [← h.1]; exact hi)] at h2
    exact h.2 i s l h1 h2
  · rw [List.getElem?_append_right (by omega)] at h1
    rw [List.getElem?_append_right (by rw [← h.1]; omega), ← h.1] at h2
    exact k.2 _ s l h1 h2

theorem TextsAt.take {w : World} {xs : List Value} {L : List (List UInt8)} (h : TextsAt w xs L) (n : Nat) : TextsAt w (xs.take n) (L.take n) := by
  refine ⟨by simp [h.1], fun i s l h1 h2 => ?_⟩
  rw [List.getElem?_take] at h1 h2
  split at h1
  · rename_i hi
    rw [if_pos hi] at h2
    exact h.2 i s l h1 h2
  · cases h1

theorem TextsAt.drop {w : World} {xs : List Value} {L : List (List UInt8)} (h : TextsAt w xs L) (n : Nat) : TextsAt w (xs.drop n) (L.drop n) := by
  refine ⟨by simp [h.1], fun i s l h1 h2 => ?_⟩
  rw [List.getElem?_drop] at h1 h2
  exact h.2 _ s l h1 h2

theorem TextsAt.one {w : World} {s : Value} {l : List UInt8} (h : Reads 1 w s l.length (l.map B)) : TextsAt w [s] [l] := by
  refine ⟨rfl, fun i s' l' h1 h2 => ?_⟩
  cases i with
  | zero => simp at h1 h2; subst h1 h2; exact h
  | succ i => simp at h1

theorem TextsAt.one_cell {w : World} {xs : List Value} {L : List (List UInt8)} (h : TextsAt w xs L) : ∀ u ∈ xs, u.oneCell' = true := by
  intro u hu
  obtain ⟨i, hi, rfl⟩ := List.getElem_of_mem hu
  have hl : i < L.length := by rw [← h.1]; exact hi
  obtain ⟨ao, c, he, _⟩ := h.2 i xs[i] L[i] (List.getElem?_eq_getElem hi) (List.getElem?_eq_getElem hl)
  rw [he]; rfl

/-- a slice of slices that reads as the texts L -/
def Texts (w : World) (v : Value) (L : List (List UInt8)) : Prop := ∃ xs, Reads 1 w v L.length xs ∧ TextsAt w xs L

theorem Texts.below {w w' : World} {v : Value} {L : List (List UInt8)} {B0 : Nat} (h : Texts w v L) (hb : Below B0 w w') (hB : w.heap.size ≤ B0) : Texts w' v L := by
  obtain ⟨xs, h1, h2⟩ := h
  exact ⟨xs, h1.below hb hB, h2.below hb hB⟩

theorem Texts.kept {X : Nat → Prop} {w : World} {v : Value} {L : List (List UInt8)} (h : Texts w v L) (hX : ∀ k, k < w.heap.size → ¬ X k) : Kept X w (fun w' => Texts w' v L) :=
  fun w' hg => h.below (hg.below (B := w.heap.size) (fun k hk => ⟨hk, hX k hk⟩)) (Nat.le_refl _)

end Go.Proofs.Ytdnjjdpenfhpeaa

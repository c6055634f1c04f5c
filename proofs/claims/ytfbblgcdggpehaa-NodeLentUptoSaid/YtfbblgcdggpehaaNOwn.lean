/- What texts and copied answer: new rows that may be written. Conditions: short lists. -/
import Derived.Test.YtfbblgcdggpehaaNLawK
import Derived.Test.YtfbblgcdggpehaaNRows
namespace Go.Proofs.Ytfbblgcdggpehaa
set_option linter.unusedSimpArgs false
set_option linter.unusedVariables false
open Go.RowKit

/-- a slice whose address lies in a new block that may be written -/
def NewS (G : Nat) (w : World) (v : Value) : Prop := ∀ b o n c, v = .slice (some ⟨b, o, none⟩) n c → 0 < n → G ≤ b ∧ ∀ j, w.frozen? ⟨b, j, none⟩ = false
theorem NewS.own {w : World} {base e K n cap m c2 : Nat} {ao : Option Addr} {xs : List Value} (h : w.ownsRow base e K (.slice ao n cap) n xs) : NewS base w (.slice ao m c2) := by
  intro b o n' c' he _
  injection he with e1 e2 e3
  subst e1
  rcases h.2 with ⟨h', _⟩ | ⟨g, cap', cur, h', hb, hg, _⟩
  · cases h'
  · injection h' with e4 e5 e6
    injection e4 with e4
    injection e4 with e7 e8
    subst e7
    exact ⟨hb, fun j => frozen_of_row' hg j⟩
theorem NewS.mono {G G' : Nat} {w : World} {v : Value} (h : NewS G w v) (hG : G' ≤ G) : NewS G' w v := fun b o n c e hn => ⟨Nat.le_trans hG (h b o n c e hn).1, (h b o n c e hn).2⟩
theorem NewS.nil {G : Nat} {w : World} {n c : Nat} : NewS G w (.slice none n c) := by intro b o n' c' he; cases he
theorem NewS.empty {G : Nat} {w : World} {a : Option Addr} {c : Nat} : NewS G w (.slice a 0 c) := by
  intro b o n' c' he hn
  injection he with _ e _
  omega

/-- texts, each new -/
structure TOwn (G : Nat) (w : World) (xs : List Value) (L : List (List UInt8)) : Prop where
  reads : TextsAt w xs L
  new : ∀ s ∈ xs, NewS G w s
theorem TOwn.nil {G : Nat} {w : World} : TOwn G w [] [] := ⟨TextsAt.nil, fun s h => absurd h List.not_mem_nil⟩
theorem TOwn.append {G : Nat} {w : World} {xs ys : List Value} {L M : List (List UInt8)} (h : TOwn G w xs L) (k : TOwn G w ys M) : TOwn G w (xs ++ ys) (L ++ M) :=
  ⟨h.reads.append k.reads, fun s hs => (List.mem_append.1 hs).elim (h.new s) (k.new s)⟩
theorem TOwn.take {G : Nat} {w : World} {xs : List Value} {L : List (List UInt8)} (h : TOwn G w xs L) (n : Nat) : TOwn G w (xs.take n) (L.take n) := ⟨h.reads.take n, fun s hs => h.new s (List.mem_of_mem_take hs)⟩
theorem TOwn.drop {G : Nat} {w : World} {xs : List Value} {L : List (List UInt8)} (h : TOwn G w xs L) (n : Nat) : TOwn G w (xs.drop n) (L.drop n) := ⟨h.reads.drop n, fun s hs => h.new s (List.mem_of_mem_drop hs)⟩
theorem TOwn.one {G : Nat} {w : World} {s : Value} {l : List UInt8} (h : Reads 1 w s l.length (l.map B)) (hn : NewS G w s) : TOwn G w [s] [l] := ⟨TextsAt.one h, fun s' hs => by rw [List.mem_singleton.1 hs]; exact hn⟩
theorem TOwn.mono {G G' : Nat} {w : World} {xs : List Value} {L : List (List UInt8)} (h : TOwn G w xs L) (hG : G' ≤ G) : TOwn G' w xs L := ⟨h.reads, fun s hs => (h.new s hs).mono hG⟩

/-- a node in new memory that may be written -/
structure NodeO (G : Nat) (w : World) (ks vs ds : Value) (x : Nd) : Prop where
  keys : ∃ xs, Reads 1 w ks x.keys.length xs ∧ TOwn G w xs x.keys
  vals : ∃ xs, Reads 1 w vs x.vals.length xs ∧ TOwn G w xs x.vals
  kids : Reads 1 w ds x.kids.length (x.kids.map I)
  nk : NewS G w ks
  nv : NewS G w vs
  nd : NewS G w ds
theorem NodeO.node {G : Nat} {w : World} {ks vs ds : Value} {x : Nd} (h : NodeO G w ks vs ds x) : NodeAt w ks vs ds x := by
  obtain ⟨⟨xk, h1, h2⟩, ⟨xv, h3, h4⟩, h5, _⟩ := h
  exact ⟨⟨xk, h1, h2.reads⟩, ⟨xv, h3, h4.reads⟩, h5⟩

theorem own_kept2 {w : World} {base e K n : Nat} {v : Value} {xs : List Value} (h : w.ownsRow base e K v n xs) : Kept (fun k => k < base) w (fun w' => w'.ownsRow base e K v n xs) := by
  intro w' hg
  exact own_growx h hg (fun g e hlt => by have := (h.lt g e).1; omega)

/-- two rows of texts that were made one behind the other -/
structure DO (G : Nat) (u : World) (va vb : Value) (A : List (List UInt8)) (xs : List Value) (C : List (List UInt8)) (ys : List Value) : Prop where
  a : u.ownsRow G 28 1 va A.length xs
  b : u.ownsRow G 28 1 vb C.length ys
  t : Kept (XR G va vb) u (fun w => TOwn G w xs A ∧ TOwn G w ys C)
  ne : ∀ q, va.ownBlock = some q → vb.ownBlock ≠ some q
  le : G ≤ u.heap.size
theorem DO.grow {G : Nat} {u u' : World} {va vb : Value} {A C : List (List UInt8)} {xs ys : List Value} (h : DO G u va vb A xs C ys) (hg : GrowX (fun q => q < G) u u') : DO G u' va vb A xs C ys :=
  ⟨own_growx h.a hg (fun q e => by have := (h.a.lt q e).1; omega), own_growx h.b hg (fun q e => by have := (h.b.lt q e).1; omega), h.t.grow (hg.mono (fun q hq => .inl hq)), h.ne, Nat.le_trans h.le hg.size⟩
theorem DO.mono {G G' : Nat} {u : World} {va vb : Value} {A C : List (List UInt8)} {xs ys : List Value} (h : DO G u va vb A xs C ys) (hG : G' ≤ G) : DO G' u va vb A xs C ys :=
  ⟨own_base h.a hG, own_base h.b hG, (h.t.mono (fun k _ hk => by
    rcases hk with hk | hk
    · exact .inl (by omega)
    · exact .inr hk)).imp (fun w hw => ⟨hw.1.mono hG, hw.2.mono hG⟩), h.ne, Nat.le_trans hG h.le⟩
theorem DO.node {G : Nat} {u : World} {ak av : Option Addr} {nk ck nv cv : Nat} {xs ys : List Value} {x : Nd} {ds : Value} (h : DO G u (.slice ak nk ck) (.slice av nv cv) x.keys xs x.vals ys) (hk : nk = x.keys.length) (hv : nv = x.vals.length)
    (hd : Kept (fun k => k < G) u (fun w => Reads 1 w ds x.kids.length (x.kids.map I) ∧ NewS G w ds)) : Kept (fun k => k < G) u (fun w => NodeO G w (.slice ak nk nk) (.slice av nv nv) ds x) := by
  subst hk hv
  refine Kept.imp (Kept.and (Kept.and (own_kept2 h.a) (own_kept2 h.b)) (Kept.and (h.t.mono (fun k _ hk => .inl hk)) hd)) (fun w hw => ?_)
  exact ⟨⟨xs, (Reads.of_own hw.1.1).tight, hw.2.1.1⟩, ⟨ys, (Reads.of_own hw.1.2).tight, hw.2.1.2⟩, hw.2.2.1, NewS.own hw.1.1, NewS.own hw.1.2, hw.2.2.2⟩

theorem cloneB_own (v : Value) (n : Nat) (xs : List Value) (w : World) (hr : Reads 1 w v n xs) (h1 : ∀ u ∈ xs, u.oneCell' = true) (hmax : n ≤ 1099511627776) :
    Calls Try.prog 30 #[v] w fun e w' => ∃ ao cap, e = .returned (.slice ao n cap) ∧ n ≤ cap ∧ w'.ownsRow w.heap.size 5 1 (.slice ao n cap) n xs ∧ Below w.heap.size w w' := by
  have hr' := hr
  obtain ⟨ao, cap, rfl, hl, hc, _⟩ := hr'
  have HR := Lib.hid hr
  have H1 := Lib.hid h1
  clear hr h1
  cases ao with
  | none =>
    have hn : n = 0 := by
      rcases Nat.eq_zero_or_pos n with e | e
      · exact e
      · obtain ⟨_, _, b, off, h, _⟩ := HR.out.some_addr e; cases h
    subst hn
    have hx : xs = [] := List.eq_nil_of_length_eq_zero (by simpa using hl)
    subst hx
    have hnil := eql_none (P := Try.prog) w 28 _ 0 cap Try.underlying28
    go_enter Try.func30, Try.ntmps30
    go_wp2
    go_ret
    exact ⟨none, 0, rfl, Nat.le_refl _, World.ownsRow_nil _ _ _ _, Below.refl _ _⟩
  | some ad =>
    have hnil := eql_some (P := Try.prog) w 28 _ ad n cap Try.underlying28
    go_enter Try.func30, Try.ntmps30
    go_wp2_with (first
      | (at_builtin; refine wpList_append_reads sl_bytes (.tmp 5) (.tmp 6) rfl rfl (base := w.heap.size) (W0 := w) (n := 0) (xs := []) rfl (own_lit (n := 0) rfl (Nat.le_refl _) rfl rfl (by omega)) ((Below.refl _ _).alloc (Nat.le_refl _) _) rfl (HR.out.below ((Below.refl _ _).alloc (Nat.le_refl _) _) (Nat.le_refl _)) H1.out (by omega) (by omega) (by simp) ?_; intro ao2 cap2 w2 hown2 hbel2))
    go_ret
    simp only [Nat.zero_add, List.nil_append] at hown2
    exact ⟨ao2, cap2, by simp, by obtain ⟨_, _, h, _, h2, _⟩ := Reads.of_own hown2; injection h with _ _ h3; omega, hown2, hbel2⟩

theorem cloneI_own (v : Value) (n : Nat) (xs : List Value) (w : World) (hr : Reads 1 w v n xs) (h1 : ∀ u ∈ xs, u.oneCell' = true) (hmax : n ≤ 1099511627776) :
    Calls Try.prog 47 #[v] w fun e w' => ∃ ao cap, e = .returned (.slice ao n cap) ∧ n ≤ cap ∧ w'.ownsRow w.heap.size 3 1 (.slice ao n cap) n xs ∧ Below w.heap.size w w' := by
  have hr' := hr
  obtain ⟨ao, cap, rfl, hl, hc, _⟩ := hr'
  have HR := Lib.hid hr
  have H1 := Lib.hid h1
  clear hr h1
  cases ao with
  | none =>
    have hn : n = 0 := by
      rcases Nat.eq_zero_or_pos n with e | e
      · exact e
      · obtain ⟨_, _, b, off, h, _⟩ := HR.out.some_addr e; cases h
    subst hn
    have hx : xs = [] := List.eq_nil_of_length_eq_zero (by simpa using hl)
    subst hx
    have hnil := eql_none (P := Try.prog) w 23 _ 0 cap Try.underlying23
    go_enter Try.func47, Try.ntmps47
    go_wp2
    go_ret
    exact ⟨none, 0, rfl, Nat.le_refl _, World.ownsRow_nil _ _ _ _, Below.refl _ _⟩
  | some ad =>
    have hnil := eql_some (P := Try.prog) w 23 _ ad n cap Try.underlying23
    go_enter Try.func47, Try.ntmps47
    go_wp2_with (first
      | (at_builtin; refine wpList_append_reads sl_ints (.tmp 5) (.tmp 6) rfl rfl (base := w.heap.size) (W0 := w) (n := 0) (xs := []) rfl (own_lit (n := 0) rfl (Nat.le_refl _) rfl rfl (by omega)) ((Below.refl _ _).alloc (Nat.le_refl _) _) rfl (HR.out.below ((Below.refl _ _).alloc (Nat.le_refl _) _) (Nat.le_refl _)) H1.out (by omega) (by omega) (by simp) ?_; intro ao2 cap2 w2 hown2 hbel2))
    go_ret
    simp only [Nat.zero_add, List.nil_append] at hown2
    exact ⟨ao2, cap2, by simp, by obtain ⟨_, _, h, _, h2, _⟩ := Reads.of_own hown2; injection h with _ _ h3; omega, hown2, hbel2⟩

set_option maxRecDepth 100000 in
set_option maxHeartbeats 1600000 in
theorem texts_own (v : Value) (L : List (List UInt8)) (w : World) (hr : Texts w v L) (hmax : L.length ≤ 1099511627776) (hmax2 : ∀ l ∈ L, l.length ≤ 1099511627776) :
    Calls Try.prog 45 #[v] w fun e w' => ∃ ao cap xs, e = .returned (.slice ao L.length L.length) ∧ w'.ownsRow w.heap.size 28 1 (.slice ao L.length cap) L.length xs ∧ Kept (fun k => k < w.heap.size ∨ (Value.slice ao L.length cap).ownBlock = some k) w' (fun w2 => TOwn w.heap.size w2 xs L) ∧ Below w.heap.size w w' := by
  obtain ⟨xs, hr1, hr2⟩ := hr
  have hr1' := hr1
  obtain ⟨ao, cap, rfl, hl, hc, _⟩ := hr1'
  obtain ⟨n, hn⟩ : ∃ n, L.length = n := ⟨_, rfl⟩
  rw [hn] at hr1 hl hc hmax ⊢
  have HN := Lib.hid hn
  have HR := Lib.hid hr1
  have HT := Lib.hid hr2
  have HM := Lib.hid hmax2
  clear hr1 hr2 hn hmax2
  go_enter Try.func45, Try.ntmps45
  go_wp2
  go_loopw [3, 8] (fun s i wr => ∃ (k cb : Nat) (bo : Option Addr) (ys : List Value), k ≤ n ∧ i = .int .i64 k ∧ s = .slice bo k cb ∧
      wr.ownsRow w.heap.size 28 1 (.slice bo k cb) k ys ∧ Kept (fun b => b < w.heap.size ∨ (Value.slice bo k cb).ownBlock = some b) wr (fun w2 => TOwn w.heap.size w2 ys (L.take k)) ∧ Below w.heap.size w wr) (fun _ i _ => n - (intOf i).toNat)
  case atStart => exact ⟨0, 0, none, [], Nat.zero_le _, rfl, rfl, World.ownsRow_nil _ _ _ _, fun _ _ => TOwn.nil, Below.refl _ _⟩
  case round =>
    obtain ⟨k, cb, bo, ys, hk, rfl, rfl, hown, hkept, hnx⟩ := hrel
    have hsz := hnx.size
    have hcr := bcellB hnx
    have hkc : k ≤ cb := by obtain ⟨_, _, h, _, h2, _⟩ := Reads.of_own hown; injection h with _ _ h3; omega
    have HK := Lib.hid hkept
    clear hkept
    by_cases hlt : k < n
    · obtain ⟨_, _, b, off, rfl, hb, hcell⟩ := HR.out.some_addr (by omega)
      have hxl : k < xs.length := by omega
      have hkL : k < L.length := by rw [HN.out]; exact hlt
      have hx : xs[k]? = some xs[k] := List.getElem?_eq_getElem hxl
      have hcx := hcell k _ hx
      have hrd := HT.out.2 k _ _ hx (List.getElem?_eq_getElem hkL)
      have hm := HM.out _ (List.getElem_mem hkL)
      have HTK := Lib.hid (List.take_succ_eq_append_getElem hkL)
      generalize xs[k] = s0 at *
      generalize L[k] = lk at *
      clear hcell hx
      have hrd' := hrd
      obtain ⟨a0, c0, rfl, _, _, _⟩ := hrd'
      obtain ⟨m, hm'⟩ : ∃ m, lk.length = m := ⟨_, rfl⟩
      have HMM := Lib.hid hm'
      rw [hm'] at hrd hm hcx
      have HRD := Lib.hid hrd
      clear hrd hm'
      go_wp2_with fail
      refine (cloneB_own _ m _ _ (HRD.out.below hnx (Nat.le_refl _)) (Bs_one _) hm).mono ?_
      rintro e w1 ⟨a1, c1, rfl, hc1, ho1, hb1⟩
      have hk1 := own_kept2 ho1
      clear ho1
      go_wp2_with fail
      refine (clipB_any a1 m c1 _ hc1).mono ?_
      rintro e w2 ⟨rfl, rfl⟩
      have hs1 := hb1.size
      have hown1 := (own_below hown hb1 (fun g hg => (hown.lt g hg).2)).alloc (.cells #[.slice a1 m m] 28)
      have hnx1 := (hnx.trans (hb1.mono hsz)).alloc (by omega) (.cells #[.slice a1 m m] 28)
      go_wp2_with (first
        | (at_builtin; refine wpList_append_two sl_texts (.tmp 12) (.tmp 16) rfl rfl (v := Value.slice bo k cb) rfl hown1 rfl rfl (news := [.slice a1 m m]) (by intro j u hu; rw [Addr.add_lit, World.cell?_alloc_at _ _ _ _ rfl]; simpa using hu) (by intro u hu; simp at hu; subst hu; rfl) (by omega) (by omega) (by simp; omega) (by omega) ?_; intro g3 cap3 w3 hown3 hgr3 hor3))
      have hX : GrowX (fun b => b < w.heap.size ∨ (Value.slice bo k cb).ownBlock = some b) wr w3 := by
        refine GrowX.trans (GrowX.of_grow hb1) (GrowX.trans (GrowX.of_grow ((Grow.refl w2).alloc (.cells #[.slice a1 m m] 28))) ?_)
        exact ⟨hgr3.os, hgr3.tape, hgr3.output, hgr3.size, fun b hb hx => hgr3.block b hb (fun e => hx (.inr e.symm))⟩
      have hX2 : GrowX (fun b => b < wr.heap.size) w2 w3 := by
        refine GrowX.trans (GrowX.of_grow ((Grow.refl w2).alloc (.cells #[.slice a1 m m] 28))) ?_
        exact ⟨hgr3.os, hgr3.tape, hgr3.output, hgr3.size, fun b hb hx => hgr3.block b hb (fun e => hx (hown.lt b e.symm).2)⟩
      have hsa : (w2.alloc (.cells #[.slice a1 m m] 28)).heap.size = w2.heap.size + 1 := by simp
      have hK1 := HK.out.turn hX (Y := fun b => b < w.heap.size ∨ (Value.slice (some ⟨g3, 0, none⟩) (k + 1) cap3).ownBlock = some b) (by
        intro b hb
        rcases hb with hb | hb
        · exact .inl (.inl hb)
        · obtain rfl : g3 = b := by simpa [Value.ownBlock] using hb
          rcases hor3 with h | h
          · exact .inl (.inr h)
          · exact .inr (by omega))
      have hK2 := hk1.turn hX2 (Y := fun b => b < w.heap.size ∨ (Value.slice (some ⟨g3, 0, none⟩) (k + 1) cap3).ownBlock = some b) (by
        intro b hb
        rcases hb with hb | hb
        · exact .inl (by omega)
        · obtain rfl : g3 = b := by simpa [Value.ownBlock] using hb
          rcases hor3 with h | h
          · exact .inl (hown.lt _ h).2
          · exact .inr (by omega))
      have hB3 : Below w.heap.size w w3 := hnx1.grown hgr3 (by simp; omega) (fun b hb => (hown.lt b hb).1)
      go_roundw
      case rel =>
        refine ⟨k + 1, cap3, _, ys ++ [.slice a1 m m], by omega, by go_num, rfl, hown3, ?_, hB3⟩
        refine Kept.imp (Kept.and hK1 hK2) (fun w4 h => ?_)
        rw [HTK.out]
        exact TOwn.append h.1 (TOwn.one (by rw [HMM.out]; exact (Reads.of_own h.2).cut (Nat.le_refl _)) ((NewS.own h.2).mono hsz))
      case measure => simp [intOf]; omega
    · obtain rfl : k = n := by omega
      go_wp2_with (go_at_call 48; refine (clipT_any bo k cb _ hkc).mono ?_; rintro e w2 ⟨rfl, rfl⟩)
      go_ret
      refine ⟨bo, cb, ys, rfl, hown, ?_, hnx⟩
      have h := HK.out
      rw [List.take_of_length_le (by rw [HN.out]; exact Nat.le_refl _)] at h
      exact h

/-- what copied leaves -/
def CopPostO (W : World) (g : Nat) (ks vs ds : Value) (x : Nd) (i : Nat) (v : Value) (lo hi : Nat) (w : World) : Prop :=
  match i with
  | 0 => v = .pointer (some ⟨g, 1, none⟩)
  | 1 => v = ks
  | 2 => ∃ ao cap xs, v = .slice ao x.keys.length x.keys.length ∧ w.ownsRow lo 28 1 (.slice ao x.keys.length cap) x.keys.length xs ∧ (∀ q, (Value.slice ao x.keys.length cap).ownBlock = some q → q < hi) ∧ Kept (fun k => k < lo ∨ hi ≤ k ∨ (Value.slice ao x.keys.length cap).ownBlock = some k) w (fun w2 => TOwn lo w2 xs x.keys)
  | 3 => v = .pointer (some ⟨g, 2, none⟩)
  | 4 => v = vs
  | 5 => ∃ ao cap xs, v = .slice ao x.vals.length x.vals.length ∧ w.ownsRow lo 28 1 (.slice ao x.vals.length cap) x.vals.length xs ∧ (∀ q, (Value.slice ao x.vals.length cap).ownBlock = some q → q < hi) ∧ Kept (fun k => k < lo ∨ hi ≤ k ∨ (Value.slice ao x.vals.length cap).ownBlock = some k) w (fun w2 => TOwn lo w2 xs x.vals)
  | 6 => v = .pointer (some ⟨g, 3, none⟩)
  | 7 => v = ds
  | 8 => ∃ ao cap, v = .slice ao x.kids.length cap ∧ x.kids.length ≤ cap ∧ Kept (fun k => k < W.heap.size) w (fun w2 => w2.ownsRow W.heap.size 3 1 (.slice ao x.kids.length cap) x.kids.length (x.kids.map I))
  | 9 => ∃ ao, v = .slice ao x.kids.length x.kids.length ∧ Kept (fun k => k < W.heap.size) w (fun w2 => Reads 1 w2 (.slice ao x.kids.length x.kids.length) x.kids.length (x.kids.map I) ∧ NewS W.heap.size w2 (.slice ao x.kids.length x.kids.length))
  | _ => v = .pointer (some ⟨g, 1, none⟩)

theorem CopPostO_stable (W : World) (g : Nat) (ks vs ds : Value) (x : Nd) : ∀ i v lo hi w w', CopPostO W g ks vs ds x i v lo hi w → Grow w w' → CopPostO W g ks vs ds x i v lo hi w' := by
  intro i v lo hi w w' h hg
  unfold CopPostO at *
  split at h <;> first | exact h | skip
  · obtain ⟨ao, c, xs, h1, h2, h3, h4⟩ := h; exact ⟨ao, c, xs, h1, own_growx h2 (GrowX.of_grow (X := fun _ => False) hg) (fun _ _ hf => hf), h3, h4.grow (GrowX.of_grow hg)⟩
  · obtain ⟨ao, c, xs, h1, h2, h3, h4⟩ := h; exact ⟨ao, c, xs, h1, own_growx h2 (GrowX.of_grow (X := fun _ => False) hg) (fun _ _ hf => hf), h3, h4.grow (GrowX.of_grow hg)⟩
  · obtain ⟨ao, c, h1, h2, h3⟩ := h; exact ⟨ao, c, h1, h2, h3.grow (GrowX.of_grow hg)⟩
  · obtain ⟨ao, h1, h2⟩ := h; exact ⟨ao, h1, h2.grow (GrowX.of_grow hg)⟩

/-- the answer of copied: the same lists, in new rows that may be written -/
def CopyEndO (x : Nd) (w : World) (e : Ending) (w' : World) : Prop :=
  ∃ ak ck xk av cv xv ad, e = .returned (nodeV x (.slice ak x.keys.length x.keys.length) (.slice av x.vals.length x.vals.length) (.slice ad x.kids.length x.kids.length)) ∧
    DO w.heap.size w' (.slice ak x.keys.length ck) (.slice av x.vals.length cv) x.keys xk x.vals xv ∧
    Kept (fun k => k < w.heap.size) w' (fun w2 => Reads 1 w2 (.slice ad x.kids.length x.kids.length) x.kids.length (x.kids.map I) ∧ NewS w.heap.size w2 (.slice ad x.kids.length x.kids.length)) ∧ Below w.heap.size w w'

set_option maxRecDepth 100000 in
set_option maxHeartbeats 3200000 in
theorem copied_own (x : Nd) (ks vs ds : Value) (w : World) (hx : NodeAt w ks vs ds x) (hok : x.ok) :
    Calls Try.prog 27 #[.agg #[.bool x.leaf, ks, vs, ds, .int .i64 x.next]] w fun e w' => CopyEndO x w e w' := by
  have hW0 : ∃ W0 : World, W0 = (w.alloc (.cells #[.bool x.leaf, ks, vs, ds, .int .i64 x.next] 25)).alloc (.cells #[.bool false, .slice none 0 0, .slice none 0 0, .slice none 0 0, .int .i64 0] 25) := ⟨_, rfl⟩
  have HX := Lib.hid hx
  have h1k : ks.oneCell' = true := by obtain ⟨_, ⟨_, _, rfl, _⟩, _⟩ := hx.keys; rfl
  have h1v : vs.oneCell' = true := by obtain ⟨_, ⟨_, _, rfl, _⟩, _⟩ := hx.vals; rfl
  have h1d : ds.oneCell' = true := by obtain ⟨_, _, rfl, _⟩ := hx.kids; rfl
  clear hx
  go_enter Try.func27, Try.ntmps27
  go_wp2_with fail
  obtain ⟨W0, hW0⟩ := hW0
  have ra : W0.heap[w.heap.size]? = some (.cells #[.bool x.leaf, ks, vs, ds, .int .i64 x.next] 25) := by
    rw [hW0, Below.heap_alloc _ _ _ (by simp)]; exact heap_alloc_new _ _
  have rb : W0.heap[w.heap.size + 1]? = some (.cells #[.bool false, .slice none 0 0, .slice none 0 0, .slice none 0 0, .int .i64 0] 25) := by
    rw [hW0]
    have := heap_alloc_new (w.alloc (.cells #[.bool x.leaf, ks, vs, ds, .int .i64 x.next] 25)) (.cells #[.bool false, .slice none 0 0, .slice none 0 0, .slice none 0 0, .int .i64 0] 25)
    simpa using this
  have hs0 : W0.heap.size = w.heap.size + 2 := by rw [hW0]; simp
  have hB0 : Below w.heap.size w W0 := by rw [hW0]; exact ((Below.refl _ _).alloc (Nat.le_refl _) _).alloc (by simp) _
  rw [← hW0]
  clear hW0
  obtain ⟨g, hg0⟩ : ∃ g, w.heap.size = g := ⟨_, rfl⟩
  rw [hg0] at ra rb hs0 hB0 ⊢
  have HG := Lib.hid hg0
  clear hg0
  refine wp_region_partsD 11 [[], [0], [1], [], [3], [4], [], [6], [7, 5], [8, 5], []] [some 3, some 4, some 5, some 6, some 7, some 8, some 9, some 10, some 11, some 12, some 13, none, some 14, none, some 15, none] (by kernel_rfl) (by kernel_rfl) rfl (CopPostO W0 g ks vs ds x) (CopPostO_stable _ _ _ _ _ _) ?_ ?_
  · intro i hi o ho vs lo h w' hg hp
    match i, hi with
    | 0, _ =>
      obtain rfl := Option.some.inj ho
      clear ho
      simp only [actsD, List.getD_cons_zero, List.getD_cons_succ, List.foldl_cons, List.foldl_nil, Act.put, List.setIfInBounds_toArray, List.set_cons_succ, List.set_cons_zero]
      go_wp2
      exact ⟨_, rfl, Grow.refl _, rfl⟩
    | 1, _ =>
      obtain rfl := Option.some.inj ho
      clear ho
      simp only [actsD, List.getD_cons_zero, List.getD_cons_succ, List.foldl_cons, List.foldl_nil, Act.put, List.setIfInBounds_toArray, List.set_cons_succ, List.set_cons_zero]
      obtain ⟨_, _, _, h0⟩ := hp 0 (by simp)
      simp only [CopPostO, List.getD_cons_zero, List.getD_cons_succ] at h0
      rw [h0]
      have hca := cell_of_row' ((hg.block g (by omega)).trans ra)
      have e1 := hca 1
      have e2 := hca 2
      have e3 := hca 3
      simp at e1 e2 e3
      go_wp2
      exact ⟨_, rfl, Grow.refl _, rfl⟩
    | 2, _ =>
      obtain rfl := Option.some.inj ho
      clear ho
      simp only [actsD, List.getD_cons_zero, List.getD_cons_succ, List.foldl_cons, List.foldl_nil, Act.put, List.setIfInBounds_toArray, List.set_cons_succ, List.set_cons_zero]
      obtain ⟨_, _, _, h1⟩ := hp 1 (by simp)
      simp only [CopPostO, List.getD_cons_zero, List.getD_cons_succ] at h1
      rw [h1]
      go_wp2_with fail
      refine (texts_own _ x.keys _ (HX.out.keys.below (hB0.trans (Below.mono hg (by omega))) (Nat.le_of_eq HG.out)) hok.keys hok.keys2).mono ?_
      rintro e wz ⟨ao, cap, xs, rfl, ho, hk, hb⟩
      go_wp2
      exact ⟨_, rfl, hb, ao, cap, xs, rfl, ho, fun q e => (ho.lt q e).2, hk.mono (fun b hb h => by rcases h with h | h | h; exact .inl h; omega; exact .inr h)⟩
    | 3, _ =>
      obtain rfl := Option.some.inj ho
      clear ho
      simp only [actsD, List.getD_cons_zero, List.getD_cons_succ, List.foldl_cons, List.foldl_nil, Act.put, List.setIfInBounds_toArray, List.set_cons_succ, List.set_cons_zero]
      go_wp2
      exact ⟨_, rfl, Grow.refl _, rfl⟩
    | 4, _ =>
      obtain rfl := Option.some.inj ho
      clear ho
      simp only [actsD, List.getD_cons_zero, List.getD_cons_succ, List.foldl_cons, List.foldl_nil, Act.put, List.setIfInBounds_toArray, List.set_cons_succ, List.set_cons_zero]
      obtain ⟨_, _, _, h3⟩ := hp 3 (by simp)
      simp only [CopPostO, List.getD_cons_zero, List.getD_cons_succ] at h3
      rw [h3]
      have hca := cell_of_row' ((hg.block g (by omega)).trans ra)
      have e1 := hca 1
      have e2 := hca 2
      have e3 := hca 3
      simp at e1 e2 e3
      go_wp2
      exact ⟨_, rfl, Grow.refl _, rfl⟩
    | 5, _ =>
      obtain rfl := Option.some.inj ho
      clear ho
      simp only [actsD, List.getD_cons_zero, List.getD_cons_succ, List.foldl_cons, List.foldl_nil, Act.put, List.setIfInBounds_toArray, List.set_cons_succ, List.set_cons_zero]
      obtain ⟨_, _, _, h4⟩ := hp 4 (by simp)
      simp only [CopPostO, List.getD_cons_zero, List.getD_cons_succ] at h4
      rw [h4]
      go_wp2_with fail
      refine (texts_own _ x.vals _ (HX.out.vals.below (hB0.trans (Below.mono hg (by omega))) (Nat.le_of_eq HG.out)) hok.vals hok.vals2).mono ?_
      rintro e wz ⟨ao, cap, xs, rfl, ho, hk, hb⟩
      go_wp2
      exact ⟨_, rfl, hb, ao, cap, xs, rfl, ho, fun q e => (ho.lt q e).2, hk.mono (fun b hb h => by rcases h with h | h | h; exact .inl h; omega; exact .inr h)⟩
    | 6, _ =>
      obtain rfl := Option.some.inj ho
      clear ho
      simp only [actsD, List.getD_cons_zero, List.getD_cons_succ, List.foldl_cons, List.foldl_nil, Act.put, List.setIfInBounds_toArray, List.set_cons_succ, List.set_cons_zero]
      go_wp2
      exact ⟨_, rfl, Grow.refl _, rfl⟩
    | 7, _ =>
      obtain rfl := Option.some.inj ho
      clear ho
      simp only [actsD, List.getD_cons_zero, List.getD_cons_succ, List.foldl_cons, List.foldl_nil, Act.put, List.setIfInBounds_toArray, List.set_cons_succ, List.set_cons_zero]
      obtain ⟨_, _, _, h6⟩ := hp 6 (by simp)
      simp only [CopPostO, List.getD_cons_zero, List.getD_cons_succ] at h6
      rw [h6]
      have hca := cell_of_row' ((hg.block g (by omega)).trans ra)
      have e1 := hca 1
      have e2 := hca 2
      have e3 := hca 3
      simp at e1 e2 e3
      go_wp2
      exact ⟨_, rfl, Grow.refl _, rfl⟩
    | 8, _ =>
      obtain rfl := Option.some.inj ho
      clear ho
      simp only [actsD, List.getD_cons_zero, List.getD_cons_succ, List.foldl_cons, List.foldl_nil, Act.put, List.setIfInBounds_toArray, List.set_cons_succ, List.set_cons_zero]
      obtain ⟨_, _, _, h7⟩ := hp 7 (by simp)
      simp only [CopPostO, List.getD_cons_zero, List.getD_cons_succ] at h7
      obtain ⟨_, _, _, h5⟩ := hp 5 (by simp)
      simp only [CopPostO, List.getD_cons_zero, List.getD_cons_succ] at h5
      rw [h7]
      go_wp2_with fail
      refine (cloneI_own _ x.kids.length (x.kids.map I) _ (HX.out.kids.below (hB0.trans (Below.mono hg (by omega))) (Nat.le_of_eq HG.out)) (Is_one _) hok.kids).mono ?_
      rintro e wz ⟨ao, cap, rfl, hc, hk, hb⟩
      go_wp2
      exact ⟨_, rfl, hb, ao, cap, rfl, hc, (own_kept2 (own_base hk hg.size)).mono (fun b _ h => h)⟩
    | 9, _ =>
      obtain rfl := Option.some.inj ho
      clear ho
      simp only [actsD, List.getD_cons_zero, List.getD_cons_succ, List.foldl_cons, List.foldl_nil, Act.put, List.setIfInBounds_toArray, List.set_cons_succ, List.set_cons_zero]
      obtain ⟨_, _, _, h8⟩ := hp 8 (by simp)
      simp only [CopPostO, List.getD_cons_zero, List.getD_cons_succ] at h8
      obtain ⟨_, _, _, h5⟩ := hp 5 (by simp)
      simp only [CopPostO, List.getD_cons_zero, List.getD_cons_succ] at h5
      obtain ⟨ao, cap, h8, hc, hk⟩ := h8
      rw [h8]
      go_wp2_with fail
      refine (clipI_any ao _ cap _ hc).mono ?_
      rintro e wz ⟨rfl, rfl⟩
      go_wp2
      exact ⟨_, rfl, Grow.refl _, ao, rfl, hk.imp (fun w2 h => ⟨(Reads.of_own h).cut (Nat.le_refl _), NewS.own h⟩)⟩
    | 10, _ =>
      obtain rfl := Option.some.inj ho
      clear ho
      simp only [actsD, List.getD_cons_zero, List.getD_cons_succ, List.foldl_cons, List.foldl_nil, Act.put, List.setIfInBounds_toArray, List.set_cons_succ, List.set_cons_zero]
      go_wp2
      exact ⟨_, rfl, Grow.refl _, rfl⟩
    | (qq + 11), hqq => exact absurd hqq (by omega)
  · intro vs' lo hi wz hg hp hd
    obtain ⟨hlo2, hlh2, hhi2, ak, ck, xk, h2, ho2, hq2, hk2⟩ := hp 2 (by omega)
    obtain ⟨hlo5, hlh5, hhi5, av, cv, xv, h5, ho5, hq5, hk5⟩ := hp 5 (by omega)
    have hd25 := hd 2 5 (by omega) (by omega) (by omega)
    obtain ⟨_, _, _, ad, h9, hk9⟩ := hp 9 (by omega)
    obtain ⟨_, _, _, h10⟩ := hp 10 (by omega)
    simp only [CopPostO] at h10
    have hr : List.range 11 = [0, 1, 2, 3, 4, 5, 6, 7, 8, 9, 10] := rfl
    rw [hr]
    simp only [List.drop_succ_cons, List.drop_zero, actsD, List.getD_cons_zero, List.getD_cons_succ, List.foldl_cons, List.foldl_nil, Act.put, List.setIfInBounds_toArray, List.set_cons_succ, List.set_cons_zero, h2, h5, h9, h10]
    clear hp hd h2 h5 h9 h10
    have hBz : Below g w wz := hB0.trans (Below.mono hg (by omega))
    have hra := (hg.block g (by omega)).trans ra
    have hrb := (hg.block (g + 1) (by omega)).trans rb
    have hsz : g + 2 ≤ wz.heap.size := by have := hg.size; omega
    have hca := cell_of_row' hra
    have hcb := cell_of_row' hrb
    have e0 := hca 0
    have e1 := hca 1
    have e2 := hca 2
    have e3 := hca 3
    have e4 := hca 4
    have f0 := hcb 0
    have f1 := hcb 1
    have f2 := hcb 2
    have f3 := hcb 3
    have f4 := hcb 4
    simp at e0 e1 e2 e3 e4 f0 f1 f2 f3 f4
    have hfa := frozen_of_row' hra
    have hfb := frozen_of_row' hrb
    clear hca hcb hra hrb ra rb hg
    generalize vs' 0 = v0
    generalize vs' 1 = v1
    generalize vs' 3 = v3
    generalize vs' 4 = v4
    generalize vs' 6 = v6
    generalize vs' 7 = v7
    generalize vs' 8 = v8
    go_wp2
    refine bodyPost_ret (v := nodeV x (.slice ak x.keys.length x.keys.length) (.slice av x.vals.length x.vals.length) (.slice ad x.kids.length x.kids.length)) (by simp [results, Try.results27, go_sem, nodeV, f0, f1, f2, f3, f4, e0, e1, e2, e3, e4]) rfl ⟨ak, ck, xk, av, cv, xv, ad, rfl, ?_, ?_, ?_⟩
    · have hGg : w.heap.size = g := HG.out
      have X1 : g < W0.heap.size := by omega
      have X2 : g + 1 < W0.heap.size := by omega
      refine DO.mono (G := W0.heap.size) (DO.grow (u := wz) ⟨own_base ho2 (by omega), own_base ho5 (by omega), ?_, ?_, by omega⟩ ?_) (by omega)
      · refine Kept.imp (Kept.and (hk2.mono (fun k _ hk => ?_)) (hk5.mono (fun k _ hk => ?_))) (fun w2 h => ⟨h.1.mono (by omega), h.2.mono (by omega)⟩)
        · rcases hk with hk | hk | hk
          · exact .inl (by omega)
          · exact .inr (.inr hk)
          · have h1 := (ho5.lt k hk).1
            have h2 := hq5 k hk
            rcases hd25 with h | h
            · exact .inr (.inl (by omega))
            · exact .inl (by omega)
        · rcases hk with hk | hk | hk
          · exact .inl (by omega)
          · have h1 := (ho2.lt k hk).1
            have h2 := hq2 k hk
            rcases hd25 with h | h
            · exact .inl (by omega)
            · exact .inr (.inl (by omega))
          · exact .inr (.inr hk)
      · intro k e1 e2
        have h1 := (ho5.lt k e2).1
        have h2 := hq5 k e2
        have h3 := (ho2.lt k e1).1
        have h4 := hq2 k e1
        omega
      · exact ((((((((GrowX.refl wz).setCell (X := fun k => k < W0.heap.size) X1 _).setCell X1 _).setCell X1 _).setCell X2 _).setCell X2 _).setCell X2 _).setCell X2 _).setCell X2 _
    · rw [HG.out]
      have X1 : g < W0.heap.size := by omega
      have X2 : g + 1 < W0.heap.size := by omega
      refine Kept.mono (Kept.grow (w := wz) (hk9.imp (fun w2 h => ⟨h.1, h.2.mono (by omega)⟩)) ?_) (fun k _ hk => by show k < W0.heap.size; omega)
      exact ((((((((GrowX.refl wz).setCell (X := fun k => k < W0.heap.size) X1 _).setCell X1 _).setCell X1 _).setCell X2 _).setCell X2 _).setCell X2 _).setCell X2 _).setCell X2 _
    · rw [HG.out]
      exact (((((((hBz.setCell (Nat.le_refl _) _).setCell (Nat.le_refl _) _).setCell (Nat.le_refl _) _).setCell (Nat.le_succ _) _).setCell (Nat.le_succ _) _).setCell (Nat.le_succ _) _).setCell (Nat.le_succ _) _).setCell (Nat.le_succ _) _
end Go.Proofs.Ytfbblgcdggpehaa

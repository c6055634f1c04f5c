/- What Clip, Clone and texts answer. Conditions: at most 2^40 elements. -/
import Derived.Test.YtfbblgcdggpehaaRows
import Derived.Test.YtfbblgcdggpehaaNKit
namespace Go.Proofs.Ytfbblgcdggpehaa
set_option linter.unusedSimpArgs false
set_option linter.unusedVariables false
open Go.RowKit

theorem sl_bytes : SliceOf Try.prog 28 5 (.int .u8 0) 1 1 := ⟨Try.underlying28, by kernel_rfl, rfl, by decide⟩
theorem sl_ints : SliceOf Try.prog 23 3 (.int .i64 0) 1 8 := ⟨Try.underlying23, by kernel_rfl, rfl, by decide⟩
theorem sl_texts : SliceOf Try.prog 22 28 (.slice none 0 0) 1 24 := ⟨Try.underlying22, by kernel_rfl, rfl, by decide⟩

theorem eql_nil {P : Program} (w : World) (t e : TypeId) (a : Option Addr) (l c : Nat) (h : P.underlying t = some (.slice e)) : (binOp .eql t (.slice a l c) (.slice none 0 0)).run P w = .ok (.bool a.isNone) w := by
  have key : ∀ d : Nat, (Op.equalIn (d + 1) t (.slice a l c) (.slice none 0 0)).run P w = .ok a.isNone w := by
    intro d; cases a <;> simp [Op.equalIn, run_underlying h]
  have h2 : (Op.equal t (.slice a l c) (.slice none 0 0)).run P w = .ok a.isNone w := key 9999
  simp [binOp, h2]
theorem eql_none {P : Program} (w : World) (t e : TypeId) (l c : Nat) (h : P.underlying t = some (.slice e)) : (binOp .eql t (.slice none l c) (.slice none 0 0)).run P w = .ok (.bool true) w := eql_nil w t e none l c h
theorem eql_some {P : Program} (w : World) (t e : TypeId) (a : Addr) (l c : Nat) (h : P.underlying t = some (.slice e)) : (binOp .eql t (.slice (some a) l c) (.slice none 0 0)).run P w = .ok (.bool false) w := eql_nil w t e (some a) l c h

theorem clipB_any (ao : Option Addr) (n cap : Nat) (w : World) (h : n ≤ cap) : Calls Try.prog 29 #[.slice ao n cap] w fun e w' => e = .returned (.slice ao n n) ∧ w' = w := by
  by_cases h0 : n = 0
  · subst h0
    go_enter Try.func29, Try.ntmps29
    go_wp2
    go_ret
    exact ⟨rfl, rfl⟩
  · go_enter Try.func29, Try.ntmps29
    go_wp2
    go_ret
    exact ⟨rfl, rfl⟩

theorem clipI_any (ao : Option Addr) (n cap : Nat) (w : World) (h : n ≤ cap) : Calls Try.prog 46 #[.slice ao n cap] w fun e w' => e = .returned (.slice ao n n) ∧ w' = w := by
  by_cases h0 : n = 0
  · subst h0
    go_enter Try.func46, Try.ntmps46
    go_wp2
    go_ret
    exact ⟨rfl, rfl⟩
  · go_enter Try.func46, Try.ntmps46
    go_wp2
    go_ret
    exact ⟨rfl, rfl⟩

theorem clipT_any (ao : Option Addr) (n cap : Nat) (w : World) (h : n ≤ cap) : Calls Try.prog 48 #[.slice ao n cap] w fun e w' => e = .returned (.slice ao n n) ∧ w' = w := by
  by_cases h0 : n = 0
  · subst h0
    go_enter Try.func48, Try.ntmps48
    go_wp2
    go_ret
    exact ⟨rfl, rfl⟩
  · go_enter Try.func48, Try.ntmps48
    go_wp2
    go_ret
    exact ⟨rfl, rfl⟩

theorem cloneB_any (v : Value) (n : Nat) (xs : List Value) (w : World) (hr : Reads 1 w v n xs) (h1 : ∀ u ∈ xs, u.oneCell' = true) (hmax : n ≤ 1099511627776) :
    Calls Try.prog 30 #[v] w fun e w' => ∃ ao cap, e = .returned (.slice ao n cap) ∧ n ≤ cap ∧ Kept (fun k => k < w.heap.size) w' (fun w2 => Reads 1 w2 (.slice ao n cap) n xs) ∧ Below w.heap.size w w' := by
  have hr' := hr
  obtain ⟨ao, cap, rfl, hl, hc, _⟩ := hr'
  have HR := Lib.hid hr
  have H1 := Lib.hid h1
  clear hr h1
  cases ao with
  | none =>
    have hn : n = 0 := by
      rcases Nat.eq_zero_or_pos n with e | e
      · exact e
      · obtain ⟨_, _, b, off, h, _⟩ := HR.out.some_addr e; cases h
    subst hn
    have hx : xs = [] := List.eq_nil_of_length_eq_zero (by simpa using hl)
    subst hx
    have hnil := eql_none (P := Try.prog) w 28 _ 0 cap Try.underlying28
    go_enter Try.func30, Try.ntmps30
    go_wp2
    go_ret
    exact ⟨none, 0, rfl, Nat.le_refl _, fun _ _ => Reads.empty, Below.refl _ _⟩
  | some ad =>
    have hnil := eql_some (P := Try.prog) w 28 _ ad n cap Try.underlying28
    go_enter Try.func30, Try.ntmps30
    go_wp2_with (first
      | (at_builtin; refine wpList_append_reads sl_bytes (.tmp 5) (.tmp 6) rfl rfl (base := w.heap.size) (W0 := w) (n := 0) (xs := []) rfl (own_lit (n := 0) rfl (Nat.le_refl _) rfl rfl (by omega)) ((Below.refl _ _).alloc (Nat.le_refl _) _) rfl (HR.out.below ((Below.refl _ _).alloc (Nat.le_refl _) _) (Nat.le_refl _)) H1.out (by omega) (by omega) (by simp) ?_; intro ao2 cap2 w2 hown2 hbel2))
    go_ret
    simp only [Nat.zero_add, List.nil_append] at hown2
    exact ⟨ao2, cap2, by simp, by obtain ⟨_, _, h, _, h2, _⟩ := Reads.of_own hown2; injection h with _ _ h3; omega, own_kept hown2, hbel2⟩

theorem cloneI_any (v : Value) (n : Nat) (xs : List Value) (w : World) (hr : Reads 1 w v n xs) (h1 : ∀ u ∈ xs, u.oneCell' = true) (hmax : n ≤ 1099511627776) :
    Calls Try.prog 47 #[v] w fun e w' => ∃ ao cap, e = .returned (.slice ao n cap) ∧ n ≤ cap ∧ Kept (fun k => k < w.heap.size) w' (fun w2 => Reads 1 w2 (.slice ao n cap) n xs) ∧ Below w.heap.size w w' := by
  have hr' := hr
  obtain ⟨ao, cap, rfl, hl, hc, _⟩ := hr'
  have HR := Lib.hid hr
  have H1 := Lib.hid h1
  clear hr h1
  cases ao with
  | none =>
    have hn : n = 0 := by
      rcases Nat.eq_zero_or_pos n with e | e
      · exact e
      · obtain ⟨_, _, b, off, h, _⟩ := HR.out.some_addr e; cases h
    subst hn
    have hx : xs = [] := List.eq_nil_of_length_eq_zero (by simpa using hl)
    subst hx
    have hnil := eql_none (P := Try.prog) w 23 _ 0 cap Try.underlying23
    go_enter Try.func47, Try.ntmps47
    go_wp2
    go_ret
    exact ⟨none, 0, rfl, Nat.le_refl _, fun _ _ => Reads.empty, Below.refl _ _⟩
  | some ad =>
    have hnil := eql_some (P := Try.prog) w 23 _ ad n cap Try.underlying23
    go_enter Try.func47, Try.ntmps47
    go_wp2_with (first
      | (at_builtin; refine wpList_append_reads sl_ints (.tmp 5) (.tmp 6) rfl rfl (base := w.heap.size) (W0 := w) (n := 0) (xs := []) rfl (own_lit (n := 0) rfl (Nat.le_refl _) rfl rfl (by omega)) ((Below.refl _ _).alloc (Nat.le_refl _) _) rfl (HR.out.below ((Below.refl _ _).alloc (Nat.le_refl _) _) (Nat.le_refl _)) H1.out (by omega) (by omega) (by simp) ?_; intro ao2 cap2 w2 hown2 hbel2))
    go_ret
    simp only [Nat.zero_add, List.nil_append] at hown2
    exact ⟨ao2, cap2, by simp, by obtain ⟨_, _, h, _, h2, _⟩ := Reads.of_own hown2; injection h with _ _ h3; omega, own_kept hown2, hbel2⟩

set_option maxRecDepth 100000 in
set_option maxHeartbeats 1600000 in
theorem texts_any (v : Value) (L : List (List UInt8)) (w : World) (hr : Texts w v L) (hmax : L.length ≤ 1099511627776) (hmax2 : ∀ l ∈ L, l.length ≤ 1099511627776) :
    Calls Try.prog 45 #[v] w fun e w' => ∃ ao, e = .returned (.slice ao L.length L.length) ∧ Kept (fun k => k < w.heap.size) w' (fun w2 => Texts w2 (.slice ao L.length L.length) L) ∧ Below w.heap.size w w' := by
  obtain ⟨xs, hr1, hr2⟩ := hr
  have hr1' := hr1
  obtain ⟨ao, cap, rfl, hl, hc, _⟩ := hr1'
  obtain ⟨n, hn⟩ : ∃ n, L.length = n := ⟨_, rfl⟩
  rw [hn] at hr1 hl hc hmax ⊢
  have HN := Lib.hid hn
  have HR := Lib.hid hr1
  have HT := Lib.hid hr2
  have HM := Lib.hid hmax2
  clear hr1 hr2 hn hmax2
  go_enter Try.func45, Try.ntmps45
  go_wp2
  go_loopw [3, 8] (fun s i wr => ∃ (k cb : Nat) (bo : Option Addr) (ys : List Value), k ≤ n ∧ i = .int .i64 k ∧ s = .slice bo k cb ∧
      wr.ownsRow w.heap.size 28 1 (.slice bo k cb) k ys ∧ Kept (fun b => b < w.heap.size ∨ (Value.slice bo k cb).ownBlock = some b) wr (fun w2 => TextsAt w2 ys (L.take k)) ∧ Below w.heap.size w wr) (fun _ i _ => n - (intOf i).toNat)
  case atStart => exact ⟨0, 0, none, [], Nat.zero_le _, rfl, rfl, World.ownsRow_nil _ _ _ _, fun _ _ => TextsAt.nil, Below.refl _ _⟩
  case round =>
    obtain ⟨k, cb, bo, ys, hk, rfl, rfl, hown, hkept, hnx⟩ := hrel
    have hsz := hnx.size
    have hcr := bcellB hnx
    have hkc : k ≤ cb := by obtain ⟨_, _, h, _, h2, _⟩ := Reads.of_own hown; injection h with _ _ h3; omega
    have HK := Lib.hid hkept
    clear hkept
    by_cases hlt : k < n
    · obtain ⟨_, _, b, off, rfl, hb, hcell⟩ := HR.out.some_addr (by omega)
      have hxl : k < xs.length := by omega
      have hkL : k < L.length := by rw [HN.out]; exact hlt
      have hx : xs[k]? = some xs[k] := List.getElem?_eq_getElem hxl
      have hcx := hcell k _ hx
      have hrd := HT.out.2 k _ _ hx (List.getElem?_eq_getElem hkL)
      have hm := HM.out _ (List.getElem_mem hkL)
      have HTK := Lib.hid (List.take_succ_eq_append_getElem hkL)
      generalize xs[k] = s0 at *
      generalize L[k] = lk at *
      clear hcell hx
      have hrd' := hrd
      obtain ⟨a0, c0, rfl, _, _, _⟩ := hrd'
      obtain ⟨m, hm'⟩ : ∃ m, lk.length = m := ⟨_, rfl⟩
      have HMM := Lib.hid hm'
      rw [hm'] at hrd hm hcx
      have HRD := Lib.hid hrd
      clear hrd hm'
      go_wp2_with fail
      refine (cloneB_any _ m _ _ (HRD.out.below hnx (Nat.le_refl _)) (Bs_one _) hm).mono ?_
      rintro e w1 ⟨a1, c1, rfl, hc1, hk1, hb1⟩
      go_wp2_with fail
      refine (clipB_any a1 m c1 _ hc1).mono ?_
      rintro e w2 ⟨rfl, rfl⟩
      have hs1 := hb1.size
      have hown1 := (own_below hown hb1 (fun g hg => (hown.lt g hg).2)).alloc (.cells #[.slice a1 m m] 28)
      have hnx1 := (hnx.trans (hb1.mono hsz)).alloc (by omega) (.cells #[.slice a1 m m] 28)
      go_wp2_with (first
        | (at_builtin; refine wpList_append_two sl_texts (.tmp 12) (.tmp 16) rfl rfl (v := Value.slice bo k cb) rfl hown1 rfl rfl (news := [.slice a1 m m]) (by intro j u hu; rw [Addr.add_lit, World.cell?_alloc_at _ _ _ _ rfl]; simpa using hu) (by intro u hu; simp at hu; subst hu; rfl) (by omega) (by omega) (by simp; omega) (by omega) ?_; intro g3 cap3 w3 hown3 hgr3 hor3))
      have hX : GrowX (fun b => b < w.heap.size ∨ (Value.slice bo k cb).ownBlock = some b) wr w3 := by
        refine GrowX.trans (GrowX.of_grow hb1) (GrowX.trans (GrowX.of_grow ((Grow.refl w2).alloc (.cells #[.slice a1 m m] 28))) ?_)
        exact ⟨hgr3.os, hgr3.tape, hgr3.output, hgr3.size, fun b hb hx => hgr3.block b hb (fun e => hx (.inr e.symm))⟩
      have hX2 : GrowX (fun b => b < wr.heap.size) w2 w3 := by
        refine GrowX.trans (GrowX.of_grow ((Grow.refl w2).alloc (.cells #[.slice a1 m m] 28))) ?_
        exact ⟨hgr3.os, hgr3.tape, hgr3.output, hgr3.size, fun b hb hx => hgr3.block b hb (fun e => hx (hown.lt b e.symm).2)⟩
      have hsa : (w2.alloc (.cells #[.slice a1 m m] 28)).heap.size = w2.heap.size + 1 := by simp
      have hK1 := HK.out.turn hX (Y := fun b => b < w.heap.size ∨ (Value.slice (some ⟨g3, 0, none⟩) (k + 1) cap3).ownBlock = some b) (by
        intro b hb
        rcases hb with hb | hb
        · exact .inl (.inl hb)
        · obtain rfl : g3 = b := by simpa [Value.ownBlock] using hb
          rcases hor3 with h | h
          · exact .inl (.inr h)
          · exact .inr (by omega))
      have hK2 := hk1.turn hX2 (Y := fun b => b < w.heap.size ∨ (Value.slice (some ⟨g3, 0, none⟩) (k + 1) cap3).ownBlock = some b) (by
        intro b hb
        rcases hb with hb | hb
        · exact .inl (by omega)
        · obtain rfl : g3 = b := by simpa [Value.ownBlock] using hb
          rcases hor3 with h | h
          · exact .inl (hown.lt _ h).2
          · exact .inr (by omega))
      have hB3 : Below w.heap.size w w3 := hnx1.grown hgr3 (by simp; omega) (fun b hb => (hown.lt b hb).1)
      go_roundw
      case rel =>
        refine ⟨k + 1, cap3, _, ys ++ [.slice a1 m m], by omega, by go_num, rfl, hown3, ?_, hB3⟩
        refine Kept.imp (Kept.and hK1 hK2) (fun w4 h => ?_)
        rw [HTK.out]
        exact TextsAt.append h.1 (TextsAt.one (by rw [HMM.out]; exact h.2.cut (Nat.le_refl _)))
      case measure => simp [intOf]; omega
    · obtain rfl : k = n := by omega
      go_wp2_with (go_at_call 48; refine (clipT_any bo k cb _ hkc).mono ?_; rintro e w2 ⟨rfl, rfl⟩)
      go_ret
      refine ⟨bo, rfl, ?_, hnx⟩
      refine Kept.imp (Kept.and (own_kept hown) (HK.out.mono (fun b _ hb => .inl hb))) (fun w2 h => ⟨ys, ?_, ?_⟩)
      · rw [HN.out]; exact h.1.cut (Nat.le_refl _)
      · have := h.2
        rw [List.take_of_length_le (by rw [HN.out]; exact Nat.le_refl _)] at this
        exact this
end Go.Proofs.Ytfbblgcdggpehaa

/- What the reference's Split answers, for all bytes. Conditions: at most 2^40 bytes. -/
import Derived.Test.YtblpmbbodajjeaaKSplit
import Derived.Test.YtblpmbbodajjeaaRDec
namespace Go.Proofs.Ytblpmbbodajjeaa
set_option linter.unusedSimpArgs false
set_option linter.unusedVariables false
open Go.RowKit
open K (Val enc dec cellsOf split)

/-- append to what is owned (nil or a row), at least one element in all: a row -/
theorem wpList_append_rowK {P : Program} {w : World} {ops : Array Oper} {rest : List Oper} {o : Oper} {a : Act} {Q : Exit → Act → World → Prop}
    {t e : TypeId} {z : Value} {size bytes : Nat} (T : SliceOf P t e z size bytes) (s x : Operand) (hgd : o.guard = none)
    (ho : o.op = .call { callee := .builtin .append, args := #[s, x], argTypes := #[t, t] })
    {base : Nat} {W0 : World} {v : Value} {n : Nat} {xs : List Value} (hs : a.eval s = v) (hown : w.ownsRow base e size v n xs) (hbel : Below base W0 w)
    {ad : Addr} {m c : Nat} {news : List Value} (hx : a.eval x = .slice (some ad) m c) (hl : news.length = m * size) (hnews : ∀ j u, news[j]? = some u → w.cell? (ad.add j) = some u) (h1 : ∀ u ∈ news, u.oneCell' = true)
    (h63 : n + m ≤ 1152921504606846976) (hbytes : (n + m) * bytes ≤ 140737488355328) (hbase : base ≤ w.heap.size) (hpos : 0 < n + m)
    (h : ∀ g cap w', w'.ownsRow base e size (.slice (some ⟨g, 0, none⟩) (n + m) cap) (n + m) (xs ++ news) → Below base W0 w' → base ≤ g → g < w'.heap.size → n + m ≤ cap → w.grownBy w' v.ownBlock →
      wpList P ops Q rest (a.put o.dst (.slice (some ⟨g, 0, none⟩) (n + m) cap)) w') : wpList P ops Q (o :: rest) a w := by
  obtain ⟨i, hi, hz0, hz1, hz2⟩ := info_parts T.info
  refine wpList_append_own w hgd s x t ho base e i z size bytes T.und hi hz0 hz1 hz2 T.cells T.pos v n xs hs hown ad m c news hx hl hnews h1 (by unfold maxLen; omega) hbytes hbase ?_
  intro v' w' hown' hgrow hiff
  obtain ⟨g, cap, rfl, hb, hlt, hnc, hcm⟩ := own_some hown' (fun e => by
    obtain ⟨rfl, rfl⟩ := hiff.1 e
    have := hown.1
    rcases hown.2 with ⟨_, h0⟩ | ⟨g, cap, cur, h', _⟩
    · omega
    · simp at h')
  exact h g cap w' hown' (hbel.grown hgrow hbase (fun k hk => (hown.lt k hk).1)) hb hlt hnc hgrow

theorem wpList_appK {P : Program} {wr : World} {ops : Array Oper} {rest : List Oper} {o : Oper} {a : Act} {Q : Exit → Act → World → Prop}
    {t e : TypeId} {z : Value} {size bytes : Nat} (T : SliceOf P t e z size bytes) (s x : Operand) (hgd : o.guard = none)
    (ho : o.op = .call { callee := .builtin .append, args := #[s, x], argTypes := #[t, t] })
    {base : Nat} {W0 : World} {v : Value} {n : Nat} {xs : List Value} (hs : a.eval s = v) (hown : wr.ownsRow base e size v n xs) (hbel : Below base W0 wr)
    {arr : Array Value} {E m c gx : Nat} (hx : a.eval x = .slice (some ⟨gx, 0, none⟩) m c) (hgx : gx = wr.heap.size) (hl : arr.size = m * size) (h1 : ∀ u ∈ arr.toList, u.oneCell' = true)
    (h63 : n + m ≤ 1152921504606846976) (hbytes : (n + m) * bytes ≤ 140737488355328) (hbase : base ≤ wr.heap.size) (hpos : 0 < n + m)
    (h : ∀ g cap w', w'.ownsRow base e size (.slice (some ⟨g, 0, none⟩) (n + m) cap) (n + m) (xs ++ arr.toList) → Below base W0 w' → base ≤ g → g < w'.heap.size → n + m ≤ cap → (∀ k, k < wr.heap.size → ¬ v.ownBlock = some k → w'.heap[k]? = wr.heap[k]?) →
      wpList P ops Q rest (a.put o.dst (.slice (some ⟨g, 0, none⟩) (n + m) cap)) w') : wpList P ops Q (o :: rest) a (wr.alloc (.cells arr E)) := by
  subst hgx
  refine wpList_append_rowK T s x hgd ho hs (hown.alloc _) (hbel.alloc hbase _) hx (by simpa using hl) ?_ h1 h63 hbytes (by simp; omega) hpos ?_
  · intro j u hu
    rw [Addr.add_lit, World.cell?_alloc_at _ _ _ _ rfl]
    simpa using hu
  · intro g cap w' a1 a2 a3 a4 a5 hg
    refine h g cap w' a1 a2 a3 a4 a5 (fun k hk hne => ?_)
    rw [hg.block k (by simp; omega) (fun e => hne e.symm)]
    exact heap_alloc_old wr _ hk

theorem rdec_reads (ao : Option Addr) (n cap : Nat) (L : List UInt8) (w : World) (hmax : n ≤ 1099511627776) (hr : Reads 1 w (.slice ao n cap) n (L.map B)) :
    Calls Try.prog 12 #[.slice ao n cap] w fun e w' => e = .returned (gotV (dec L)) ∧ Below w.heap.size w w' := by
  obtain ⟨ao', cap', he, hl, hle, h⟩ := hr
  injection he with h1 _ h3
  subst h1 h3
  refine rdec_any ao n cap L w (by simpa using hl.symm) hle hmax (fun hn => ?_)
  obtain ⟨b, off, hb1, hb2, hb3⟩ := h hn
  exact ⟨b, off, hb1, hb2, fun j hj => hb3 j _ (by rw [List.getElem?_map, List.getElem?_eq_getElem hj]; rfl)⟩

set_option maxRecDepth 100000 in
set_option maxHeartbeats 1600000 in
theorem rsplit_any (ao : Option Addr) (n cap : Nat) (L : List UInt8) (w : World) (hmax : n ≤ 1099511627776) (hr : Reads 1 w (.slice ao n cap) n (L.map B)) :
    Calls Try.prog 14 #[.slice ao n cap] w fun e w' => SplitEnd (split L) w e w' := by
  have HR := Lib.hid hr
  clear hr
  go_enter Try.func14, Try.ntmps14
  go_wp2
  go_loopw [0, 4] (fun s v wr => ∃ (R : List UInt8) (out : List Val) (ao1 bo : Option Addr) (n1 cap1 m cb : Nat), s = .slice ao1 n1 cap1 ∧ v = .slice bo m cb ∧ n1 ≤ n ∧ m + n1 ≤ n ∧
      Reads 1 w (.slice ao1 n1 cap1) n1 (R.map B) ∧ wr.ownsRow w.heap.size 23 4 (.slice bo m cb) m (cellsOf out) ∧ SplitAt L R out ∧ Below w.heap.size w wr) (fun s _ _ => lenOf s)
  case atStart =>
    exact ⟨L, [], ao, none, n, cap, 0, 0, rfl, rfl, Nat.le_refl _, by omega, HR.out, World.ownsRow_nil _ _ _ _, split_start L, Below.refl _ _⟩
  case round =>
    obtain ⟨R, out, ao1, bo, n1, cap1, m, cb, rfl, rfl, hn1, hm, hrd, hown, hsp, hnx⟩ := hrel
    have hsz := hnx.size
    have hlR : R.length = n1 := by obtain ⟨_, _, _, h, _⟩ := hrd; simpa using h
    have HRD := Lib.hid hrd
    have HSP := Lib.hid hsp
    have HLR := Lib.hid hlR
    clear hrd hsp hlR
    by_cases h0 : n1 = 0
    · subst h0
      have hR : R = [] := List.eq_nil_of_length_eq_zero HLR.out
      subst hR
      have HE := Lib.hid (split_end L out HSP.out)
      have hmc : m ≤ cb := by
        obtain ⟨_, _, h, _, h2, _⟩ := Reads.of_own hown
        injection h with _ _ h3; omega
      have HO := Lib.hid (Reads.of_own hown)
      clear hown
      by_cases hm0 : m = 0
      · subst hm0
        go_wp2
        go_ret2
        rw [HE.out]
        exact ⟨⟨_, 0, rfl, HO.out⟩, hnx⟩
      · go_wp2
        go_ret2
        rw [HE.out]
        exact ⟨⟨_, m, rfl, HO.out⟩, hnx⟩
    · have hpos : 0 < n1 := by omega
      obtain ⟨hle, _, b, off, rfl, hb, hc⟩ := HRD.out.some_addr hpos
      clear hc
      have hRne : R ≠ [] := fun e => by have := HLR.out; rw [e] at this; simp at this; omega
      go_wp2_with fail
      refine (rdec_reads _ n1 cap1 R _ (by omega) (HRD.out.below hnx (Nat.le_refl _))).mono ?_
      rintro e w1 ⟨rfl, hbel⟩
      have hown1 := own_below hown hbel (fun g hg => (hown.lt g hg).2)
      have hnx1 := hnx.trans (hbel.mono hsz)
      have hsz1 := hnx1.size
      cases hd : dec R with
      | none =>
        have HE := Lib.hid (split_bad L R out HSP.out hRne hd)
        clear hd hRne
        simp only [gotV]
        go_wp2
        go_ret2
        rw [HE.out]
        exact ⟨rfl, hnx1.alloc hsz1 _⟩
      | some p =>
        obtain ⟨x, k⟩ := p
        obtain ⟨hp1, hp2⟩ := K.dec_pos R _ hd
        rw [HLR.out] at hp2
        simp only at hp1 hp2
        have HE := Lib.hid (split_step L R out _ HSP.out hd)
        clear hd hRne
        simp only [gotV, Val.v]
        by_cases hck : cap1 = k
        · have hkn : k = n1 := by omega
          have hRk : R.drop k = [] := List.drop_eq_nil_of_le (by rw [HLR.out]; omega)
          simp only [hRk] at HE
          have HK := Lib.hid hkn
          subst hck
          clear hkn hRk
          go_wp2_with (first
            | (at_builtin; refine wpList_appK sl_vals (.tmp 14) (.tmp 17) rfl rfl rfl (hown1.alloc _) (hnx1.alloc hsz1 _) rfl (by simp) rfl (by intro u hu; simp at hu; rcases hu with rfl | rfl | rfl | rfl <;> rfl) (by omega) (by omega) (by simp; omega) (by omega) ?_; intro g2 cap2 w2 hown2 hbel2 hg2 hlt2 hcap2 hkeep; have e4 := cell_of_row' ((hkeep w1.heap.size (by simp) (fun e => Nat.lt_irrefl _ (hown1.lt _ e).2)).trans (heap_alloc_new _ _)) 4; simp at e4))
          refine ⟨⟨[], out ++ [x], _, _, 0, 0, m + 1, cap2, rfl, rfl, Nat.zero_le _, by omega, Reads.empty, by rw [cellsOf_snoc]; simpa [Val.cells] using hown2, HE.out, hbel2⟩, ?_⟩
          show 0 < n1; exact hpos
        · go_wp2_with (first
            | (at_builtin; refine wpList_appK sl_vals (.tmp 14) (.tmp 17) rfl rfl rfl (hown1.alloc _) (hnx1.alloc hsz1 _) rfl (by simp) rfl (by intro u hu; simp at hu; rcases hu with rfl | rfl | rfl | rfl <;> rfl) (by omega) (by omega) (by simp; omega) (by omega) ?_; intro g2 cap2 w2 hown2 hbel2 hg2 hlt2 hcap2 hkeep; have e4 := cell_of_row' ((hkeep w1.heap.size (by simp) (fun e => Nat.lt_irrefl _ (hown1.lt _ e).2)).trans (heap_alloc_new _ _)) 4; simp at e4))
          refine ⟨⟨R.drop k, out ++ [x], _, _, n1 - k, cap1 - k, m + 1, cap2, rfl, rfl, by omega, by omega, by rw [List.map_drop]; exact HRD.out.drop1 hp2 hck, by rw [cellsOf_snoc]; simpa [Val.cells] using hown2, HE.out, hbel2⟩, ?_⟩
          show n1 - k < n1; omega

end Go.Proofs.Ytblpmbbodajjeaa

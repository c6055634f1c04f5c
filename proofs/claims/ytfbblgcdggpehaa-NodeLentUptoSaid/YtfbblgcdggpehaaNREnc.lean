/- What the reference's Encode answers. Conditions: short lists. -/
import Derived.Test.YtfbblgcdggpehaaRSize
import Derived.Lib.AppendStr
namespace Go.Proofs.Ytfbblgcdggpehaa
set_option linter.unusedSimpArgs false
set_option linter.unusedVariables false
open Go.RowKit

/-- append(b, s...) for a string -/
theorem wpList_append_str {P : Program} {w : World} {ops : Array Oper} {rest : List Oper} {o : Oper} {a : Act} {Q : Exit → Act → World → Prop}
    {t e u : TypeId} (T : SliceOf P t e (.int .u8 0) 1 1) (hu : P.underlying u = some .string) (s x : Operand) (hgd : o.guard = none)
    (ho : o.op = .call { callee := .builtin .append, args := #[s, x], argTypes := #[t, u] })
    {base : Nat} {W0 : World} {v : Value} {n : Nat} {xs : List Value} (hs : a.eval s = v) (hown : w.ownsRow base e 1 v n xs) (hbel : Below base W0 w)
    (l : List UInt8) (hx : a.eval x = .string ⟨l.toArray⟩) (h63 : n + l.length ≤ 1099511627776) (hbase : base ≤ w.heap.size)
    (h : ∀ ao cap w', w'.ownsRow base e 1 (.slice ao (n + l.length) cap) (n + l.length) (xs ++ l.map B) → Below base W0 w' →
      wpList P ops Q rest (a.put o.dst (.slice ao (n + l.length) cap)) w') : wpList P ops Q (o :: rest) a w := by
  obtain ⟨i, hi, hz0, hz1, hz2⟩ := info_parts T.info
  have hsz : (⟨l.toArray⟩ : ByteArray).size = l.length := rfl
  have hsc : Lib.strCells ⟨l.toArray⟩ = l.map B := by simp [Lib.strCells, B]
  refine Lib.wpList_append_own_string w hgd s x t u ho base e i T.und hu hi hz0 hz1 hz2 v n xs hs hown ⟨l.toArray⟩ hx (by unfold maxLen; rw [hsz]; omega) (by rw [hsz]; omega) hbase ?_
  rw [hsz, hsc]
  intro v' w' hown' hgrow _
  obtain ⟨ao, cap, rfl⟩ := own_shape hown'
  exact h ao cap w' hown' (hbel.grown hgrow hbase (fun k hk => (hown.lt k hk).1))

/-- a node's first k keys and what belongs to them, as bytes -/
def encTo (x : Nd) : Nat → List UInt8
  | 0 => [if x.leaf then 1 else 2] ++ two x.keys.length ++ four x.next.toNat ++ (if x.leaf then [] else four (x.kids.getD 0 0).toNat)
  | k + 1 => encTo x k ++ two (x.keys.getD k []).length ++ x.keys.getD k [] ++ (if x.leaf then two (x.vals.getD k []).length ++ x.vals.getD k [] else four (x.kids.getD (k + 1) 0).toNat)

theorem encTo_length (x : Nd) : ∀ k, (encTo x k).length = rsize x k
  | 0 => by unfold encTo rsize; split <;> simp [two, four]
  | k + 1 => by
    unfold encTo rsize
    rw [← encTo_length x k]
    split <;> simp [two, four] <;> omega

/-- a node as a page -/
def page (x : Nd) : List UInt8 := encTo x x.keys.length ++ List.replicate (504 - (encTo x x.keys.length).length) 0

/-- the answer of both Encodes -/
def EncEnd (x : Nd) (w : World) (e : Ending) (w' : World) : Prop := ∃ v er, e = .returned (.tuple #[v, .int .i64 er]) ∧ Below w.heap.size w w' ∧
  ((¬ x.Fit ∧ er = 1 ∧ v = .slice none 0 0) ∨ (x.Fit ∧ 504 < rsize x x.keys.length ∧ er = 60 ∧ v = .slice none 0 0) ∨
   (x.Fit ∧ rsize x x.keys.length ≤ 504 ∧ er = 0 ∧ Reads 1 w' v 504 ((page x).map B)))

theorem rfit_any (x : Nd) (hsm : x.small) (ks vs ds : Value) (w : World) (hx : RefAt w ks vs ds x) (b : Bool) (n : Int) (hb : x.leaf = b) (hn : x.next = n) :
    Calls Try.prog 35 #[.agg #[.bool b, ks, vs, ds, .int .i64 n]] w fun e w' => SaysB x.Fit w e w' := by
  have h1 := Nat.le_trans hsm.keys (show 1048576 ≤ 1152921504606846976 by decide)
  have h2 := Nat.le_trans hsm.vals (show 1048576 ≤ 1152921504606846976 by decide)
  have h3 := Nat.le_trans hsm.kids (show 1048577 ≤ 1152921504606846976 by decide)
  cases b with
  | true => exact rfit_true x hb ks vs ds w hx h1 h2 h3 (fun l hl => Nat.le_trans (hsm.keys2 l hl) (by decide)) (fun l hl => Nat.le_trans (hsm.vals2 l hl) (by decide)) n hn
  | false => exact rfit_false x hb ks vs ds w hx h1 h2 h3 (fun l hl => Nat.le_trans (hsm.keys2 l hl) (by decide)) (fun l hl => Nat.le_trans (hsm.vals2 l hl) (by decide)) n hn

set_option maxRecDepth 100000 in
set_option maxHeartbeats 3200000 in
theorem renc_leaf (x : Nd) (hlf : x.leaf = true) (hsm : x.small) (ks vs ds : Value) (w : World) (hx : RefAt w ks vs ds x) (n : Int) (hn : x.next = n) :
    Calls Try.prog 16 #[.agg #[.bool true, ks, vs, ds, .int .i64 n]] w fun e w' => EncEnd x w e w' := by
  obtain ⟨ka, kc, rfl⟩ := hx.keys.shape
  obtain ⟨va, vc, rfl⟩ := hx.vals.shape
  obtain ⟨da, dc, rfl⟩ := hx.kids.shape
  obtain ⟨nk, hnk⟩ : ∃ nk, x.keys.length = nk := ⟨_, rfl⟩
  obtain ⟨nv, hnv⟩ : ∃ nv, x.vals.length = nv := ⟨_, rfl⟩
  obtain ⟨nd, hnd⟩ : ∃ nd, x.kids.length = nd := ⟨_, rfl⟩
  have hk : nk ≤ 1048576 := hnk ▸ hsm.keys
  have hv : nv ≤ 1048576 := hnv ▸ hsm.vals
  have hd : nd ≤ 1048577 := hnd ▸ hsm.kids
  simp only [hnk, hnv, hnd] at hx ⊢
  obtain ⟨g, hg0⟩ : ∃ g, w.heap.size = g := ⟨_, rfl⟩
  have ba := Box.new w #[.bool true, .slice ka nk kc, .slice va nv vc, .slice da nd dc, .int .i64 n] 38 hg0.symm
  have hB := (Below.refl w.heap.size w).alloc (Nat.le_refl _) (.cells #[.bool true, .slice ka nk kc, .slice va nv vc, .slice da nd dc, .int .i64 n] 38)
  have HG := Lib.hid hg0
  have HNK := Lib.hid hnk
  have HNV := Lib.hid hnv
  have HND := Lib.hid hnd
  have HX := Lib.hid (hx.below hB (Nat.le_refl _))
  have HLF := Lib.hid hlf
  have HN := Lib.hid hn
  clear hx hnk hnv hnd hg0 hlf hn
  have ca0 := ba.cell 0 _ rfl
  have ca1 := ba.cell 1 _ rfl
  have ca2 := ba.cell 2 _ rfl
  have ca3 := ba.cell 3 _ rfl
  have ca4 := ba.cell 4 _ rfl
  have fa := ba.free
  go_enter Try.func16, Try.ntmps16
  go_wp2_with fail
  clear ca0 ca1 ca2 ca3 ca4 fa
  have hgw : w.heap.size ≤ g := Nat.le_of_eq HG.out
  rw [HG.out]
  refine (rfit_any x hsm _ _ _ _ HX.out true n HLF.out HN.out).mono ?_
  rintro e w1 ⟨r, rfl, hr, hb1⟩
  replace ba := ba.below hb1 (Nat.le_refl _)
  replace hB := hB.trans (hb1.mono (by simp))
  have hx1 := HX.out.below hb1 (Nat.le_refl _)
  clear HX
  have HX := Lib.hid hx1
  clear hb1 hx1
  by_cases hf : x.Fit
  · obtain rfl : r = true := hr.2 hf
    have HF := Lib.hid hf
    clear hr hf
    have ca0 := ba.cell 0 _ rfl
    have ca1 := ba.cell 1 _ rfl
    have ca2 := ba.cell 2 _ rfl
    have ca3 := ba.cell 3 _ rfl
    have ca4 := ba.cell 4 _ rfl
    have fa := ba.free
    go_wp2_with fail
    clear ca0 ca1 ca2 ca3 ca4 fa
    refine (rsize_any x hsm _ _ _ _ HX.out true n HLF.out).mono ?_
    rintro e w2 ⟨rfl, hb2⟩
    replace ba := ba.below hb2 (Nat.le_refl _)
    replace hB := hB.trans (hb2.mono (by have := ba.lt; have := hB.size; omega))
    have hx2 := HX.out.below hb2 (Nat.le_refl _)
    clear HX
    have HX := Lib.hid hx2
    clear hb2 hx2
    have hr1 := rsize_le hsm x.keys.length
    obtain ⟨r, hr⟩ : ∃ r, rsize x x.keys.length = r := ⟨_, rfl⟩
    rw [hr] at hr1
    simp only [hr]
    have HR := Lib.hid hr
    clear hr
    rw [HNK.out] at hr1
    have ca0 := ba.cell 0 _ rfl
    have ca1 := ba.cell 1 _ rfl
    have ca2 := ba.cell 2 _ rfl
    have ca3 := ba.cell 3 _ rfl
    have ca4 := ba.cell 4 _ rfl
    have fa := ba.free
    by_cases hbig : 504 < r
    · have d1 : decide ((504 : Int) < (r : Int)) = true := by simp; omega
      go_wp2
      go_ret2
      exact ⟨_, _, rfl, hB, .inr (.inl ⟨HF.out, by rw [HR.out]; exact hbig, rfl, rfl⟩)⟩
    · have d1 : decide ((504 : Int) < (r : Int)) = false := by simp; omega
      obtain ⟨B0, hB0⟩ : ∃ B0, w2.heap.size = B0 := ⟨_, rfl⟩
      have hgB : g < B0 := by have := ba.lt; omega
      have HB0 := Lib.hid hB0
      have hgw2 : w.heap.size ≤ w2.heap.size := by omega
      have hlt0 := ba.lt
      clear hB0
      go_wp2_with fail
      clear ca0 ca1 ca2 ca3 ca4 fa
      rw [HB0.out]
      refine calls_world (fun u => Below B0 w2 u ∧ u.ownsRow B0 5 1 (.slice (some ⟨(B0 + 1), 0, none⟩) 1 1) 1 ([1].map B) ∧ B0 ≤ u.heap.size) ⟨((Below.refl B0 w2).alloc (Nat.le_of_eq HB0.out.symm) _).alloc (by simp [HB0.out]) _, own_lit (by simp [HB0.out]) (by omega) rfl rfl (by omega), by have := HB0.out; simp; omega⟩ ?_
      have ba2 := ba
      have hBw := hB
      clear ba hB hlt0
      rintro wq ⟨hB, hown, hcur⟩
      have ba := ba2.below' hB hgB
      have ca0 := ba.cell 0 _ rfl
      have ca1 := ba.cell 1 _ rfl
      have ca2 := ba.cell 2 _ rfl
      have ca3 := ba.cell 3 _ rfl
      have ca4 := ba.cell 4 _ rfl
      have fa := ba.free
      refine (two_any _ nk rfl (by omega) _).mono ?_
      rintro e wq ⟨gq, rfl, hsrc, hbq⟩
      replace hown := own_below hown hbq (fun gg h => (hown.lt gg h).2)
      replace hB := hB.trans (hbq.mono hcur)
      replace hcur := Nat.le_trans hcur hbq.size
      replace ba := ba2.below' hB hgB
      clear hbq
      clear ca0 ca1 ca2 ca3 ca4 fa
      have ca0 := ba.cell 0 _ rfl
      have ca1 := ba.cell 1 _ rfl
      have ca2 := ba.cell 2 _ rfl
      have ca3 := ba.cell 3 _ rfl
      have ca4 := ba.cell 4 _ rfl
      have fa := ba.free
      go_wp2_with (first
        | (at_builtin; refine wpList_append_reads sl_bytes (.tmp 16) (.tmp 20) rfl rfl (base := B0) (W0 := wq) rfl hown (Below.refl _ _) rfl hsrc (Bs_one _) (by omega) (by omega) hcur ?_; clear hown hsrc; intro ao cap wm hown hbel; replace hB := hB.trans hbel; replace hcur := Nat.le_trans hcur hbel.size; clear hbel; clear ca0 ca1 ca2 ca3 ca4 fa; replace ba := ba2.below' hB hgB; have ca0 := ba.cell 0 _ rfl; have ca1 := ba.cell 1 _ rfl; have ca2 := ba.cell 2 _ rfl; have ca3 := ba.cell 3 _ rfl; have ca4 := ba.cell 4 _ rfl; have fa := ba.free))
      have hnn : n = (n.toNat : Int) := by have := HF.out.2.1; rw [HN.out] at this; unfold numOk at this; omega
      have hnb : n.toNat ≤ 1152921504606846976 := by have := HF.out.2.1; rw [HN.out] at this; unfold numOk at this; omega
      obtain ⟨u, hu⟩ : ∃ u, n.toNat = u := ⟨_, rfl⟩
      rw [hu] at hnn hnb
      have HU := Lib.hid hu
      have HNN := Lib.hid hnn
      clear hu hnn
      refine (four_any _ u HNN.out hnb _).mono ?_
      rintro e wq ⟨gq, rfl, hsrc, hbq⟩
      replace hown := own_below hown hbq (fun gg h => (hown.lt gg h).2)
      replace hB := hB.trans (hbq.mono hcur)
      replace hcur := Nat.le_trans hcur hbq.size
      replace ba := ba2.below' hB hgB
      clear hbq
      clear ca0 ca1 ca2 ca3 ca4 fa
      have ca0 := ba.cell 0 _ rfl
      have ca1 := ba.cell 1 _ rfl
      have ca2 := ba.cell 2 _ rfl
      have ca3 := ba.cell 3 _ rfl
      have ca4 := ba.cell 4 _ rfl
      have fa := ba.free
      go_wp2_with (first
        | (at_builtin; refine wpList_append_reads sl_bytes (.tmp 22) (.tmp 25) rfl rfl (base := B0) (W0 := wq) rfl hown (Below.refl _ _) rfl hsrc (Bs_one _) (by omega) (by omega) hcur ?_; clear hown hsrc; intro ao cap wm hown hbel; replace hB := hB.trans hbel; replace hcur := Nat.le_trans hcur hbel.size; clear hbel; clear ca0 ca1 ca2 ca3 ca4 fa; replace ba := ba2.below' hB hgB; have ca0 := ba.cell 0 _ rfl; have ca1 := ba.cell 1 _ rfl; have ca2 := ba.cell 2 _ rfl; have ca3 := ba.cell 3 _ rfl; have ca4 := ba.cell 4 _ rfl; have fa := ba.free))
      have hz : rsize x 0 = 7 := by rw [rsize, HLF.out]; rfl
      have he : encTo x 0 = [1] ++ two nk ++ four u := by rw [encTo, HLF.out, HNK.out, HN.out, HU.out]; rfl
      have HZ := Lib.hid hz
      have HE := Lib.hid he
      clear hz he
      go_loopw [4, 5] (fun v i wr => ∃ k ao cap, k ≤ nk ∧ i = .int .i64 k ∧ v = .slice ao (rsize x k) cap ∧ wr.ownsRow B0 5 1 (.slice ao (rsize x k) cap) (rsize x k) ((encTo x k).map B) ∧ Below B0 w2 wr ∧ B0 ≤ wr.heap.size) (fun _ i _ => nk - (intOf i).toNat)
      case atStart => exact ⟨0, ao, cap, Nat.zero_le _, rfl, by rw [HZ.out], by rw [HZ.out, HE.out]; simpa [List.map_append] using hown, hB, hcur⟩
      case round =>
        clear hB hown hcur ba
        clear ca0 ca1 ca2 ca3 ca4 fa
        obtain ⟨k, ao, cap, hkk, rfl, rfl, hown, hB, hcur⟩ := hrel
        have hmono := rsize_mono x
        have hrk0 := hmono k nk hkk
        have hrr : rsize x nk = r := HNK.out ▸ HR.out
        rw [hrr] at hrk0
        have HM := Lib.hid hmono
        have HRR := Lib.hid hrr
        obtain ⟨rk, hrk⟩ : ∃ rk, rsize x k = rk := ⟨_, rfl⟩
        rw [hrk] at hown hrk0
        simp only [hrk]
        have HRK := Lib.hid hrk
        clear hrk hmono hrr
        have ba := ba2.below' hB hgB
        have ca0 := ba.cell 0 _ rfl
        have ca1 := ba.cell 1 _ rfl
        have ca2 := ba.cell 2 _ rfl
        have ca3 := ba.cell 3 _ rfl
        have ca4 := ba.cell 4 _ rfl
        have fa := ba.free
        by_cases hlt : k < nk
        · have hkl1 : k < x.keys.length := by rw [HNK.out]; omega
          have hu : (x.keys.map S)[k]? = some (S x.keys[k]) := by rw [List.getElem?_map, List.getElem?_eq_getElem hkl1]; rfl
          have hgd : x.keys.getD k [] = x.keys[k] := by rw [List.getD_eq_getElem?_getD, List.getElem?_eq_getElem hkl1]; rfl
          have HGD1 := Lib.hid hgd
          have hx1 := HX.out.keys
          rw [HNK.out] at hx1
          generalize x.keys[k] = l at *
          obtain ⟨b1, p1, q1, e1, hb1, _, hw1⟩ := hx1.at k (by omega) _ hu
          have E1 := Lib.hid (Value.slice.inj e1).1
          simp only [S] at hw1
          rw [HB0.out] at hb1
          have HW1 := Lib.hid hw1
          clear e1 hu hgd hx1 hw1 hkl1
          have hnv1 : nv = nk := by have := HF.out.2.2; rw [HLF.out, if_pos rfl, HNV.out, HNK.out] at this; exact this.2.1
          obtain rfl : nk = nv := hnv1.symm
          have hkl2 : k < x.vals.length := by rw [HNV.out]; omega
          have hu : (x.vals.map S)[k]? = some (S x.vals[k]) := by rw [List.getElem?_map, List.getElem?_eq_getElem hkl2]; rfl
          have hgd : x.vals.getD k [] = x.vals[k] := by rw [List.getD_eq_getElem?_getD, List.getElem?_eq_getElem hkl2]; rfl
          have HGD2 := Lib.hid hgd
          have hx1 := HX.out.vals
          rw [HNV.out] at hx1
          generalize x.vals[k] = l2 at *
          obtain ⟨b2, p2, q2, e1, hb2, _, hw2⟩ := hx1.at k (by omega) _ hu
          have E2 := Lib.hid (Value.slice.inj e1).1
          simp only [S] at hw2
          rw [HB0.out] at hb2
          have HW2 := Lib.hid hw2
          clear e1 hu hgd hx1 hw2 hkl2
          have hs : rsize x (k + 1) = rk + 2 + l.length + 2 + l2.length := by rw [rsize, HLF.out, HRK.out, HGD1.out, HGD2.out]; simp; omega
          have he : encTo x (k + 1) = encTo x k ++ two l.length ++ l ++ (two l2.length ++ l2) := by rw [encTo, HLF.out, HGD1.out, HGD2.out]; rfl
          have hs1 := HM.out (k + 1) nk (by omega)
          rw [HRR.out, hs] at hs1
          have HS := Lib.hid hs
          have HE1 := Lib.hid he
          clear hs he
          clear ca0 ca1 ca2 ca3 ca4 fa
          have ca0 := ba.cell 0 _ rfl
          have ca1 := ba.cell 1 _ rfl
          have ca2 := ba.cell 2 _ rfl
          have ca3 := ba.cell 3 _ rfl
          have ca4 := ba.cell 4 _ rfl
          have fa := ba.free
          rw [E1.out] at ca1
          rw [E2.out] at ca2
          have hd1 := (hB.cell (p := ⟨b1, p1 + k, none⟩) hb1).trans HW1.out
          have hd2 := (hB.cell (p := ⟨b2, p2 + k, none⟩) hb2).trans HW2.out
          go_wp2_with fail
          refine (two_any _ l.length rfl (by omega) _).mono ?_
          rintro e wq ⟨gq, rfl, hsrc, hbq⟩
          replace hown := own_below hown hbq (fun gg h => (hown.lt gg h).2)
          replace hB := hB.trans (hbq.mono hcur)
          replace hcur := Nat.le_trans hcur hbq.size
          replace ba := ba2.below' hB hgB
          clear hbq
          clear ca0 ca1 ca2 ca3 ca4 fa hd1 hd2
          have ca0 := ba.cell 0 _ rfl
          have ca1 := ba.cell 1 _ rfl
          have ca2 := ba.cell 2 _ rfl
          have ca3 := ba.cell 3 _ rfl
          have ca4 := ba.cell 4 _ rfl
          have fa := ba.free
          rw [E1.out] at ca1
          rw [E2.out] at ca2
          have hd1 := (hB.cell (p := ⟨b1, p1 + k, none⟩) hb1).trans HW1.out
          have hd2 := (hB.cell (p := ⟨b2, p2 + k, none⟩) hb2).trans HW2.out
          go_wp2_with (first
            | (at_builtin; refine wpList_append_reads sl_bytes (.tmp 44) (.tmp 51) rfl rfl (base := B0) (W0 := wq) rfl hown (Below.refl _ _) rfl hsrc (Bs_one _) (by omega) (by omega) hcur ?_; clear hown hsrc; intro ao cap wm hown hbel; replace hB := hB.trans hbel; replace hcur := Nat.le_trans hcur hbel.size; clear hbel; clear ca0 ca1 ca2 ca3 ca4 fa hd1 hd2; replace ba := ba2.below' hB hgB; have ca0 := ba.cell 0 _ rfl; have ca1 := ba.cell 1 _ rfl; have ca2 := ba.cell 2 _ rfl; have ca3 := ba.cell 3 _ rfl; have ca4 := ba.cell 4 _ rfl; have fa := ba.free; rw [E1.out] at ca1; rw [E2.out] at ca2; have hd1 := (hB.cell (p := ⟨b1, p1 + k, none⟩) hb1).trans HW1.out; have hd2 := (hB.cell (p := ⟨b2, p2 + k, none⟩) hb2).trans HW2.out)
            | (at_builtin; refine wpList_append_str sl_bytes Try.underlying9 (.tmp 53) (.tmp 58) rfl rfl (base := B0) (W0 := wm) rfl hown (Below.refl _ _) l rfl (by omega) hcur ?_; clear hown; intro ao cap wn hown hbel; replace hB := hB.trans hbel; replace hcur := Nat.le_trans hcur hbel.size; clear hbel; clear ca0 ca1 ca2 ca3 ca4 fa hd1 hd2; replace ba := ba2.below' hB hgB; have ca0 := ba.cell 0 _ rfl; have ca1 := ba.cell 1 _ rfl; have ca2 := ba.cell 2 _ rfl; have ca3 := ba.cell 3 _ rfl; have ca4 := ba.cell 4 _ rfl; have fa := ba.free; rw [E1.out] at ca1; rw [E2.out] at ca2; have hd1 := (hB.cell (p := ⟨b1, p1 + k, none⟩) hb1).trans HW1.out; have hd2 := (hB.cell (p := ⟨b2, p2 + k, none⟩) hb2).trans HW2.out))
          refine (two_any _ l2.length rfl (by omega) _).mono ?_
          rintro e wq ⟨gq, rfl, hsrc, hbq⟩
          replace hown := own_below hown hbq (fun gg h => (hown.lt gg h).2)
          replace hB := hB.trans (hbq.mono hcur)
          replace hcur := Nat.le_trans hcur hbq.size
          replace ba := ba2.below' hB hgB
          clear hbq
          clear ca0 ca1 ca2 ca3 ca4 fa hd1 hd2
          have ca0 := ba.cell 0 _ rfl
          have ca1 := ba.cell 1 _ rfl
          have ca2 := ba.cell 2 _ rfl
          have ca3 := ba.cell 3 _ rfl
          have ca4 := ba.cell 4 _ rfl
          have fa := ba.free
          rw [E1.out] at ca1
          rw [E2.out] at ca2
          have hd1 := (hB.cell (p := ⟨b1, p1 + k, none⟩) hb1).trans HW1.out
          have hd2 := (hB.cell (p := ⟨b2, p2 + k, none⟩) hb2).trans HW2.out
          go_wp2_with (first
            | (at_builtin; refine wpList_append_reads sl_bytes (.tmp 62) (.tmp 69) rfl rfl (base := B0) (W0 := wq) rfl hown (Below.refl _ _) rfl hsrc (Bs_one _) (by omega) (by omega) hcur ?_; clear hown hsrc; intro ao cap wm hown hbel; replace hB := hB.trans hbel; replace hcur := Nat.le_trans hcur hbel.size; clear hbel; clear ca0 ca1 ca2 ca3 ca4 fa hd1 hd2; replace ba := ba2.below' hB hgB; have ca0 := ba.cell 0 _ rfl; have ca1 := ba.cell 1 _ rfl; have ca2 := ba.cell 2 _ rfl; have ca3 := ba.cell 3 _ rfl; have ca4 := ba.cell 4 _ rfl; have fa := ba.free; rw [E1.out] at ca1; rw [E2.out] at ca2; have hd1 := (hB.cell (p := ⟨b1, p1 + k, none⟩) hb1).trans HW1.out; have hd2 := (hB.cell (p := ⟨b2, p2 + k, none⟩) hb2).trans HW2.out)
            | (at_builtin; refine wpList_append_str sl_bytes Try.underlying9 (.tmp 71) (.tmp 76) rfl rfl (base := B0) (W0 := wm) rfl hown (Below.refl _ _) l2 rfl (by omega) hcur ?_; clear hown; intro ao cap wn hown hbel; replace hB := hB.trans hbel; replace hcur := Nat.le_trans hcur hbel.size; clear hbel; clear ca0 ca1 ca2 ca3 ca4 fa hd1 hd2; replace ba := ba2.below' hB hgB; have ca0 := ba.cell 0 _ rfl; have ca1 := ba.cell 1 _ rfl; have ca2 := ba.cell 2 _ rfl; have ca3 := ba.cell 3 _ rfl; have ca4 := ba.cell 4 _ rfl; have fa := ba.free; rw [E1.out] at ca1; rw [E2.out] at ca2; have hd1 := (hB.cell (p := ⟨b1, p1 + k, none⟩) hb1).trans HW1.out; have hd2 := (hB.cell (p := ⟨b2, p2 + k, none⟩) hb2).trans HW2.out))
          go_roundw
          case rel =>
            refine ⟨k + 1, ao, cap, by omega, by go_num, ?_, ?_, hB, hcur⟩
            · rw [HS.out]
            · rw [HS.out, HE1.out]; simpa [List.map_append] using hown
          case measure => simp [intOf]; omega
        · obtain rfl : nk = k := by omega
          have hrkr : rk = r := by rw [← HRK.out, HRR.out]
          subst hrkr
          go_wp2_with fail
          clear ca0 ca1 ca2 ca3 ca4 fa
          go_loopw [4] (fun v wr => ∃ n4 ao cap, rk ≤ n4 ∧ n4 ≤ 504 ∧ v = .slice ao n4 cap ∧ wr.ownsRow B0 5 1 (.slice ao n4 cap) n4 ((encTo x nk ++ List.replicate (n4 - rk) 0).map B) ∧ Below B0 w2 wr ∧ B0 ≤ wr.heap.size) (fun v _ => match v with | .slice _ n4 _ => 504 - n4 | _ => 0)
          case atStart => exact ⟨rk, ao, cap, Nat.le_refl _, by omega, rfl, by simpa using hown, hB, hcur⟩
          case round =>
            clear hB hown hcur ba
            obtain ⟨n4, ao, cap, hn1, hn2, rfl, hown, hB, hcur⟩ := hrel
            by_cases hlt4 : n4 < 504
            · have d4 : decide ((n4 : Int) < 504) = true := by simp; omega
              go_wp2_with (first
                | (at_builtin; refine wpList_app sl_bytes (.tmp 90) (.tmp 91) rfl rfl (base := B0) (W0 := wr) rfl hown (Below.refl _ _) rfl rfl (by intro u hu; simp at hu; subst hu; rfl) (by omega) (by omega) hcur (by omega) ?_; intro g4 cap4 wm hown4 hbel hg4 hlt5 hle4))
              go_roundw
              case rel =>
                refine ⟨n4 + 1, _, cap4, by omega, by omega, rfl, ?_, hB.trans hbel, Nat.le_trans hcur hbel.size⟩
                have e : n4 + 1 - rk = (n4 - rk) + 1 := by omega
                rw [e, List.replicate_succ', ← List.append_assoc, List.map_append]
                exact hown4
              case measure => simp; omega
            · obtain rfl : n4 = 504 := by omega
              have d4 : decide ((504 : Int) < 504) = false := by decide
              go_wp2
              go_ret2
              refine ⟨_, _, rfl, hBw.trans (hB.mono (by have := HB0.out; omega)), .inr (.inr ⟨HF.out, by rw [HR.out]; omega, rfl, ?_⟩)⟩
              have := Reads.of_own hown
              unfold page
              rw [encTo_length, HNK.out, HRK.out]
              exact this
  · obtain rfl : r = false := by cases r with | false => rfl | true => exact absurd (hr.1 rfl) hf
    have HF := Lib.hid hf
    clear hr hf
    have ca0 := ba.cell 0 _ rfl
    have ca1 := ba.cell 1 _ rfl
    have ca2 := ba.cell 2 _ rfl
    have ca3 := ba.cell 3 _ rfl
    have ca4 := ba.cell 4 _ rfl
    have fa := ba.free
    go_wp2
    go_ret2
    exact ⟨_, _, rfl, hB, .inl ⟨HF.out, rfl, rfl⟩⟩

set_option maxRecDepth 100000 in
set_option maxHeartbeats 3200000 in
theorem renc_inner (x : Nd) (hlf : x.leaf = false) (hsm : x.small) (ks vs ds : Value) (w : World) (hx : RefAt w ks vs ds x) (n : Int) (hn : x.next = n) :
    Calls Try.prog 16 #[.agg #[.bool false, ks, vs, ds, .int .i64 n]] w fun e w' => EncEnd x w e w' := by
  obtain ⟨ka, kc, rfl⟩ := hx.keys.shape
  obtain ⟨va, vc, rfl⟩ := hx.vals.shape
  obtain ⟨da, dc, rfl⟩ := hx.kids.shape
  obtain ⟨nk, hnk⟩ : ∃ nk, x.keys.length = nk := ⟨_, rfl⟩
  obtain ⟨nv, hnv⟩ : ∃ nv, x.vals.length = nv := ⟨_, rfl⟩
  obtain ⟨nd, hnd⟩ : ∃ nd, x.kids.length = nd := ⟨_, rfl⟩
  have hk : nk ≤ 1048576 := hnk ▸ hsm.keys
  have hv : nv ≤ 1048576 := hnv ▸ hsm.vals
  have hd : nd ≤ 1048577 := hnd ▸ hsm.kids
  simp only [hnk, hnv, hnd] at hx ⊢
  obtain ⟨g, hg0⟩ : ∃ g, w.heap.size = g := ⟨_, rfl⟩
  have ba := Box.new w #[.bool false, .slice ka nk kc, .slice va nv vc, .slice da nd dc, .int .i64 n] 38 hg0.symm
  have hB := (Below.refl w.heap.size w).alloc (Nat.le_refl _) (.cells #[.bool false, .slice ka nk kc, .slice va nv vc, .slice da nd dc, .int .i64 n] 38)
  have HG := Lib.hid hg0
  have HNK := Lib.hid hnk
  have HNV := Lib.hid hnv
  have HND := Lib.hid hnd
  have HX := Lib.hid (hx.below hB (Nat.le_refl _))
  have HLF := Lib.hid hlf
  have HN := Lib.hid hn
  clear hx hnk hnv hnd hg0 hlf hn
  have ca0 := ba.cell 0 _ rfl
  have ca1 := ba.cell 1 _ rfl
  have ca2 := ba.cell 2 _ rfl
  have ca3 := ba.cell 3 _ rfl
  have ca4 := ba.cell 4 _ rfl
  have fa := ba.free
  go_enter Try.func16, Try.ntmps16
  go_wp2_with fail
  clear ca0 ca1 ca2 ca3 ca4 fa
  have hgw : w.heap.size ≤ g := Nat.le_of_eq HG.out
  rw [HG.out]
  refine (rfit_any x hsm _ _ _ _ HX.out false n HLF.out HN.out).mono ?_
  rintro e w1 ⟨r, rfl, hr, hb1⟩
  replace ba := ba.below hb1 (Nat.le_refl _)
  replace hB := hB.trans (hb1.mono (by simp))
  have hx1 := HX.out.below hb1 (Nat.le_refl _)
  clear HX
  have HX := Lib.hid hx1
  clear hb1 hx1
  by_cases hf : x.Fit
  · obtain rfl : r = true := hr.2 hf
    have HF := Lib.hid hf
    clear hr hf
    have ca0 := ba.cell 0 _ rfl
    have ca1 := ba.cell 1 _ rfl
    have ca2 := ba.cell 2 _ rfl
    have ca3 := ba.cell 3 _ rfl
    have ca4 := ba.cell 4 _ rfl
    have fa := ba.free
    go_wp2_with fail
    clear ca0 ca1 ca2 ca3 ca4 fa
    refine (rsize_any x hsm _ _ _ _ HX.out false n HLF.out).mono ?_
    rintro e w2 ⟨rfl, hb2⟩
    replace ba := ba.below hb2 (Nat.le_refl _)
    replace hB := hB.trans (hb2.mono (by have := ba.lt; have := hB.size; omega))
    have hx2 := HX.out.below hb2 (Nat.le_refl _)
    clear HX
    have HX := Lib.hid hx2
    clear hb2 hx2
    have hr1 := rsize_le hsm x.keys.length
    obtain ⟨r, hr⟩ : ∃ r, rsize x x.keys.length = r := ⟨_, rfl⟩
    rw [hr] at hr1
    simp only [hr]
    have HR := Lib.hid hr
    clear hr
    rw [HNK.out] at hr1
    have ca0 := ba.cell 0 _ rfl
    have ca1 := ba.cell 1 _ rfl
    have ca2 := ba.cell 2 _ rfl
    have ca3 := ba.cell 3 _ rfl
    have ca4 := ba.cell 4 _ rfl
    have fa := ba.free
    by_cases hbig : 504 < r
    · have d1 : decide ((504 : Int) < (r : Int)) = true := by simp; omega
      go_wp2
      go_ret2
      exact ⟨_, _, rfl, hB, .inr (.inl ⟨HF.out, by rw [HR.out]; exact hbig, rfl, rfl⟩)⟩
    · have d1 : decide ((504 : Int) < (r : Int)) = false := by simp; omega
      obtain ⟨B0, hB0⟩ : ∃ B0, w2.heap.size = B0 := ⟨_, rfl⟩
      have hgB : g < B0 := by have := ba.lt; omega
      have HB0 := Lib.hid hB0
      have hgw2 : w.heap.size ≤ w2.heap.size := by omega
      have hlt0 := ba.lt
      clear hB0
      go_wp2_with fail
      clear ca0 ca1 ca2 ca3 ca4 fa
      rw [HB0.out]
      refine calls_world (fun u => Below B0 w2 u ∧ u.ownsRow B0 5 1 (.slice (some ⟨B0, 0, none⟩) 1 1) 1 ([2].map B) ∧ B0 ≤ u.heap.size) ⟨(Below.refl B0 w2).alloc (Nat.le_of_eq HB0.out.symm) _, own_lit (by simp [HB0.out]) (by omega) rfl rfl (by omega), by have := HB0.out; simp; omega⟩ ?_
      have ba2 := ba
      have hBw := hB
      clear ba hB hlt0
      rintro wq ⟨hB, hown, hcur⟩
      have ba := ba2.below' hB hgB
      have ca0 := ba.cell 0 _ rfl
      have ca1 := ba.cell 1 _ rfl
      have ca2 := ba.cell 2 _ rfl
      have ca3 := ba.cell 3 _ rfl
      have ca4 := ba.cell 4 _ rfl
      have fa := ba.free
      refine (two_any _ nk rfl (by omega) _).mono ?_
      rintro e wq ⟨gq, rfl, hsrc, hbq⟩
      replace hown := own_below hown hbq (fun gg h => (hown.lt gg h).2)
      replace hB := hB.trans (hbq.mono hcur)
      replace hcur := Nat.le_trans hcur hbq.size
      replace ba := ba2.below' hB hgB
      clear hbq
      clear ca0 ca1 ca2 ca3 ca4 fa
      have ca0 := ba.cell 0 _ rfl
      have ca1 := ba.cell 1 _ rfl
      have ca2 := ba.cell 2 _ rfl
      have ca3 := ba.cell 3 _ rfl
      have ca4 := ba.cell 4 _ rfl
      have fa := ba.free
      go_wp2_with (first
        | (at_builtin; refine wpList_append_reads sl_bytes (.tmp 16) (.tmp 20) rfl rfl (base := B0) (W0 := wq) rfl hown (Below.refl _ _) rfl hsrc (Bs_one _) (by omega) (by omega) hcur ?_; clear hown hsrc; intro ao cap wm hown hbel; replace hB := hB.trans hbel; replace hcur := Nat.le_trans hcur hbel.size; clear hbel; clear ca0 ca1 ca2 ca3 ca4 fa; replace ba := ba2.below' hB hgB; have ca0 := ba.cell 0 _ rfl; have ca1 := ba.cell 1 _ rfl; have ca2 := ba.cell 2 _ rfl; have ca3 := ba.cell 3 _ rfl; have ca4 := ba.cell 4 _ rfl; have fa := ba.free))
      have hnn : n = (n.toNat : Int) := by have := HF.out.2.1; rw [HN.out] at this; unfold numOk at this; omega
      have hnb : n.toNat ≤ 1152921504606846976 := by have := HF.out.2.1; rw [HN.out] at this; unfold numOk at this; omega
      obtain ⟨u, hu⟩ : ∃ u, n.toNat = u := ⟨_, rfl⟩
      rw [hu] at hnn hnb
      have HU := Lib.hid hu
      have HNN := Lib.hid hnn
      clear hu hnn
      have hnd1 : nd = nk + 1 := by have := HF.out.2.2; rw [HLF.out, if_neg (by decide), HND.out, HNK.out] at this; exact this.2.2.1
      have hdat : ∀ k, k < nd → ∃ (b1 p1 d : Nat), da = some ⟨b1, p1, none⟩ ∧ b1 < B0 ∧ w2.cell? ⟨b1, p1 + k, none⟩ = some (.int .i64 (d : Int)) ∧ (d : Nat) ≤ 1152921504606846976 ∧ (x.kids.getD k 0).toNat = d := by
        intro k hk
        have hkl : k < x.kids.length := by rw [HND.out]; exact hk
        have hu : (x.kids.map I)[k]? = some (I x.kids[k]) := by rw [List.getElem?_map, List.getElem?_eq_getElem hkl]; rfl
        have hno := HF.out.2.2
        rw [HLF.out, if_neg (by decide)] at hno
        have hno := hno.2.1 k _ (List.getElem?_eq_getElem hkl)
        have hgd : x.kids.getD k 0 = x.kids[k] := by rw [List.getD_eq_getElem?_getD, List.getElem?_eq_getElem hkl]; rfl
        have hx3 := HX.out.kids
        rw [HND.out] at hx3
        obtain ⟨b1, p1, q1, e1, hb1, _, hc1⟩ := hx3.at k hk _ hu
        unfold numOk at hno
        refine ⟨b1, p1, (x.kids[k]).toNat, (Value.slice.inj e1).1, by have := HB0.out; omega, ?_, by omega, by rw [hgd]⟩
        rw [hc1]
        simp only [I]
        rw [Int.toNat_of_nonneg hno.1]
      have HD := Lib.hid hdat
      have HND1 := Lib.hid hnd1
      clear hdat hnd1
      obtain ⟨b0, p0, d0, hda, hb0, hc0, hdb, hd0⟩ := HD.out 0 (by have := HND1.out; omega)
      have HDA := Lib.hid hda
      have HD0 := Lib.hid hd0
      have hlz : 0 < nd := by have := HND1.out; omega
      rw [Nat.add_zero] at hc0
      have HC0 := Lib.hid hc0
      clear hda hd0 hc0
      rw [HDA.out] at ca3
      refine (four_any _ u HNN.out hnb _).mono ?_
      rintro e wq ⟨gq, rfl, hsrc, hbq⟩
      replace hown := own_below hown hbq (fun gg h => (hown.lt gg h).2)
      replace hB := hB.trans (hbq.mono hcur)
      replace hcur := Nat.le_trans hcur hbq.size
      replace ba := ba2.below' hB hgB
      clear hbq
      clear ca0 ca1 ca2 ca3 ca4 fa
      have ca0 := ba.cell 0 _ rfl
      have ca1 := ba.cell 1 _ rfl
      have ca2 := ba.cell 2 _ rfl
      have ca3 := ba.cell 3 _ rfl
      have ca4 := ba.cell 4 _ rfl
      have fa := ba.free
      rw [HDA.out] at ca3
      have hcq := (hB.cell (p := ⟨b0, p0, none⟩) hb0).trans HC0.out
      go_wp2_with (first
        | (at_builtin; refine wpList_append_reads sl_bytes (.tmp 22) (.tmp 25) rfl rfl (base := B0) (W0 := wq) rfl hown (Below.refl _ _) rfl hsrc (Bs_one _) (by omega) (by omega) hcur ?_; clear hown hsrc; intro ao cap wm hown hbel; replace hB := hB.trans hbel; replace hcur := Nat.le_trans hcur hbel.size; clear hbel; clear ca0 ca1 ca2 ca3 ca4 fa hcq; replace ba := ba2.below' hB hgB; have ca0 := ba.cell 0 _ rfl; have ca1 := ba.cell 1 _ rfl; have ca2 := ba.cell 2 _ rfl; have ca3 := ba.cell 3 _ rfl; have ca4 := ba.cell 4 _ rfl; have fa := ba.free; rw [HDA.out] at ca3; have hcq := (hB.cell (p := ⟨b0, p0, none⟩) hb0).trans HC0.out))
      refine (four_any _ d0 rfl hdb _).mono ?_
      rintro e wq ⟨gq, rfl, hsrc, hbq⟩
      replace hown := own_below hown hbq (fun gg h => (hown.lt gg h).2)
      replace hB := hB.trans (hbq.mono hcur)
      replace hcur := Nat.le_trans hcur hbq.size
      replace ba := ba2.below' hB hgB
      clear hbq
      clear ca0 ca1 ca2 ca3 ca4 fa hcq
      have ca0 := ba.cell 0 _ rfl
      have ca1 := ba.cell 1 _ rfl
      have ca2 := ba.cell 2 _ rfl
      have ca3 := ba.cell 3 _ rfl
      have ca4 := ba.cell 4 _ rfl
      have fa := ba.free
      rw [HDA.out] at ca3
      have hcq := (hB.cell (p := ⟨b0, p0, none⟩) hb0).trans HC0.out
      go_wp2_with (first
        | (at_builtin; refine wpList_append_reads sl_bytes (.tmp 30) (.tmp 35) rfl rfl (base := B0) (W0 := wq) rfl hown (Below.refl _ _) rfl hsrc (Bs_one _) (by omega) (by omega) hcur ?_; clear hown hsrc; intro ao cap wm hown hbel; replace hB := hB.trans hbel; replace hcur := Nat.le_trans hcur hbel.size; clear hbel; clear ca0 ca1 ca2 ca3 ca4 fa hcq; replace ba := ba2.below' hB hgB; have ca0 := ba.cell 0 _ rfl; have ca1 := ba.cell 1 _ rfl; have ca2 := ba.cell 2 _ rfl; have ca3 := ba.cell 3 _ rfl; have ca4 := ba.cell 4 _ rfl; have fa := ba.free; rw [HDA.out] at ca3; have hcq := (hB.cell (p := ⟨b0, p0, none⟩) hb0).trans HC0.out))
      clear hcq
      have hz : rsize x 0 = 11 := by rw [rsize, HLF.out]; rfl
      have he : encTo x 0 = [2] ++ two nk ++ four u ++ four d0 := by rw [encTo, HLF.out, HNK.out, HN.out, HU.out, HD0.out]; rfl
      have HZ := Lib.hid hz
      have HE := Lib.hid he
      clear hz he
      go_loopw [4, 5] (fun v i wr => ∃ k ao cap, k ≤ nk ∧ i = .int .i64 k ∧ v = .slice ao (rsize x k) cap ∧ wr.ownsRow B0 5 1 (.slice ao (rsize x k) cap) (rsize x k) ((encTo x k).map B) ∧ Below B0 w2 wr ∧ B0 ≤ wr.heap.size) (fun _ i _ => nk - (intOf i).toNat)
      case atStart => exact ⟨0, ao, cap, Nat.zero_le _, rfl, by rw [HZ.out], by rw [HZ.out, HE.out]; simpa [List.map_append] using hown, hB, hcur⟩
      case round =>
        clear hB hown hcur ba
        clear ca0 ca1 ca2 ca3 ca4 fa
        obtain ⟨k, ao, cap, hkk, rfl, rfl, hown, hB, hcur⟩ := hrel
        have hmono := rsize_mono x
        have hrk0 := hmono k nk hkk
        have hrr : rsize x nk = r := HNK.out ▸ HR.out
        rw [hrr] at hrk0
        have HM := Lib.hid hmono
        have HRR := Lib.hid hrr
        obtain ⟨rk, hrk⟩ : ∃ rk, rsize x k = rk := ⟨_, rfl⟩
        rw [hrk] at hown hrk0
        simp only [hrk]
        have HRK := Lib.hid hrk
        clear hrk hmono hrr
        have ba := ba2.below' hB hgB
        have ca0 := ba.cell 0 _ rfl
        have ca1 := ba.cell 1 _ rfl
        have ca2 := ba.cell 2 _ rfl
        have ca3 := ba.cell 3 _ rfl
        have ca4 := ba.cell 4 _ rfl
        have fa := ba.free
        by_cases hlt : k < nk
        · have hkl1 : k < x.keys.length := by rw [HNK.out]; omega
          have hu : (x.keys.map S)[k]? = some (S x.keys[k]) := by rw [List.getElem?_map, List.getElem?_eq_getElem hkl1]; rfl
          have hgd : x.keys.getD k [] = x.keys[k] := by rw [List.getD_eq_getElem?_getD, List.getElem?_eq_getElem hkl1]; rfl
          have HGD1 := Lib.hid hgd
          have hx1 := HX.out.keys
          rw [HNK.out] at hx1
          generalize x.keys[k] = l at *
          obtain ⟨b1, p1, q1, e1, hb1, _, hw1⟩ := hx1.at k (by omega) _ hu
          have E1 := Lib.hid (Value.slice.inj e1).1
          simp only [S] at hw1
          rw [HB0.out] at hb1
          have HW1 := Lib.hid hw1
          clear e1 hu hgd hx1 hw1 hkl1
          obtain ⟨b2, p2, d, hda2, hb2, hw2, hdd, hgd2⟩ := HD.out (k + 1) (by have := HND1.out; omega)
          have E2 := Lib.hid hda2
          have HW2 := Lib.hid hw2
          have HGD2 := Lib.hid hgd2
          have hlk : k + 1 < nd := by have := HND1.out; omega
          clear hda2 hw2 hgd2
          have hs : rsize x (k + 1) = rk + 2 + l.length + 4 := by rw [rsize, HLF.out, HRK.out, HGD1.out]; simp
          have he : encTo x (k + 1) = encTo x k ++ two l.length ++ l ++ four d := by rw [encTo, HLF.out, HGD1.out, HGD2.out]; rfl
          have hs1 := HM.out (k + 1) nk (by omega)
          rw [HRR.out, hs] at hs1
          have HS := Lib.hid hs
          have HE1 := Lib.hid he
          clear hs he
          clear ca0 ca1 ca2 ca3 ca4 fa
          have ca0 := ba.cell 0 _ rfl
          have ca1 := ba.cell 1 _ rfl
          have ca2 := ba.cell 2 _ rfl
          have ca3 := ba.cell 3 _ rfl
          have ca4 := ba.cell 4 _ rfl
          have fa := ba.free
          rw [E1.out] at ca1
          rw [E2.out] at ca3
          have hd1 := (hB.cell (p := ⟨b1, p1 + k, none⟩) hb1).trans HW1.out
          have hd2 := (hB.cell (p := ⟨b2, p2 + (k + 1), none⟩) hb2).trans HW2.out
          go_wp2_with fail
          refine (two_any _ l.length rfl (by omega) _).mono ?_
          rintro e wq ⟨gq, rfl, hsrc, hbq⟩
          replace hown := own_below hown hbq (fun gg h => (hown.lt gg h).2)
          replace hB := hB.trans (hbq.mono hcur)
          replace hcur := Nat.le_trans hcur hbq.size
          replace ba := ba2.below' hB hgB
          clear hbq
          clear ca0 ca1 ca2 ca3 ca4 fa hd1 hd2
          have ca0 := ba.cell 0 _ rfl
          have ca1 := ba.cell 1 _ rfl
          have ca2 := ba.cell 2 _ rfl
          have ca3 := ba.cell 3 _ rfl
          have ca4 := ba.cell 4 _ rfl
          have fa := ba.free
          rw [E1.out] at ca1
          rw [E2.out] at ca3
          have hd1 := (hB.cell (p := ⟨b1, p1 + k, none⟩) hb1).trans HW1.out
          have hd2 := (hB.cell (p := ⟨b2, p2 + (k + 1), none⟩) hb2).trans HW2.out
          go_wp2_with (first
            | (at_builtin; refine wpList_append_reads sl_bytes (.tmp 44) (.tmp 51) rfl rfl (base := B0) (W0 := wq) rfl hown (Below.refl _ _) rfl hsrc (Bs_one _) (by omega) (by omega) hcur ?_; clear hown hsrc; intro ao cap wm hown hbel; replace hB := hB.trans hbel; replace hcur := Nat.le_trans hcur hbel.size; clear hbel; clear ca0 ca1 ca2 ca3 ca4 fa hd1 hd2; replace ba := ba2.below' hB hgB; have ca0 := ba.cell 0 _ rfl; have ca1 := ba.cell 1 _ rfl; have ca2 := ba.cell 2 _ rfl; have ca3 := ba.cell 3 _ rfl; have ca4 := ba.cell 4 _ rfl; have fa := ba.free; rw [E1.out] at ca1; rw [E2.out] at ca3; have hd1 := (hB.cell (p := ⟨b1, p1 + k, none⟩) hb1).trans HW1.out; have hd2 := (hB.cell (p := ⟨b2, p2 + (k + 1), none⟩) hb2).trans HW2.out)
            | (at_builtin; refine wpList_append_str sl_bytes Try.underlying9 (.tmp 53) (.tmp 58) rfl rfl (base := B0) (W0 := wm) rfl hown (Below.refl _ _) l rfl (by omega) hcur ?_; clear hown; intro ao cap wn hown hbel; replace hB := hB.trans hbel; replace hcur := Nat.le_trans hcur hbel.size; clear hbel; clear ca0 ca1 ca2 ca3 ca4 fa hd1 hd2; replace ba := ba2.below' hB hgB; have ca0 := ba.cell 0 _ rfl; have ca1 := ba.cell 1 _ rfl; have ca2 := ba.cell 2 _ rfl; have ca3 := ba.cell 3 _ rfl; have ca4 := ba.cell 4 _ rfl; have fa := ba.free; rw [E1.out] at ca1; rw [E2.out] at ca3; have hd1 := (hB.cell (p := ⟨b1, p1 + k, none⟩) hb1).trans HW1.out; have hd2 := (hB.cell (p := ⟨b2, p2 + (k + 1), none⟩) hb2).trans HW2.out))
          refine (four_any _ d rfl hdd _).mono ?_
          rintro e wq ⟨gq, rfl, hsrc, hbq⟩
          replace hown := own_below hown hbq (fun gg h => (hown.lt gg h).2)
          replace hB := hB.trans (hbq.mono hcur)
          replace hcur := Nat.le_trans hcur hbq.size
          replace ba := ba2.below' hB hgB
          clear hbq
          clear ca0 ca1 ca2 ca3 ca4 fa hd1 hd2
          have ca0 := ba.cell 0 _ rfl
          have ca1 := ba.cell 1 _ rfl
          have ca2 := ba.cell 2 _ rfl
          have ca3 := ba.cell 3 _ rfl
          have ca4 := ba.cell 4 _ rfl
          have fa := ba.free
          rw [E1.out] at ca1
          rw [E2.out] at ca3
          have hd1 := (hB.cell (p := ⟨b1, p1 + k, none⟩) hb1).trans HW1.out
          have hd2 := (hB.cell (p := ⟨b2, p2 + (k + 1), none⟩) hb2).trans HW2.out
          go_wp2_with (first
            | (at_builtin; refine wpList_append_reads sl_bytes (.tmp 78) (.tmp 85) rfl rfl (base := B0) (W0 := wq) rfl hown (Below.refl _ _) rfl hsrc (Bs_one _) (by omega) (by omega) hcur ?_; clear hown hsrc; intro ao cap wm hown hbel; replace hB := hB.trans hbel; replace hcur := Nat.le_trans hcur hbel.size; clear hbel; clear ca0 ca1 ca2 ca3 ca4 fa hd1 hd2; replace ba := ba2.below' hB hgB; have ca0 := ba.cell 0 _ rfl; have ca1 := ba.cell 1 _ rfl; have ca2 := ba.cell 2 _ rfl; have ca3 := ba.cell 3 _ rfl; have ca4 := ba.cell 4 _ rfl; have fa := ba.free; rw [E1.out] at ca1; rw [E2.out] at ca3; have hd1 := (hB.cell (p := ⟨b1, p1 + k, none⟩) hb1).trans HW1.out; have hd2 := (hB.cell (p := ⟨b2, p2 + (k + 1), none⟩) hb2).trans HW2.out))
          go_roundw
          case rel =>
            refine ⟨k + 1, ao, cap, by omega, by go_num, ?_, ?_, hB, hcur⟩
            · rw [HS.out]
            · rw [HS.out, HE1.out]; simpa [List.map_append] using hown
          case measure => simp [intOf]; omega
        · obtain rfl : nk = k := by omega
          have hrkr : rk = r := by rw [← HRK.out, HRR.out]
          subst hrkr
          go_wp2_with fail
          clear ca0 ca1 ca2 ca3 ca4 fa
          go_loopw [4] (fun v wr => ∃ n4 ao cap, rk ≤ n4 ∧ n4 ≤ 504 ∧ v = .slice ao n4 cap ∧ wr.ownsRow B0 5 1 (.slice ao n4 cap) n4 ((encTo x nk ++ List.replicate (n4 - rk) 0).map B) ∧ Below B0 w2 wr ∧ B0 ≤ wr.heap.size) (fun v _ => match v with | .slice _ n4 _ => 504 - n4 | _ => 0)
          case atStart => exact ⟨rk, ao, cap, Nat.le_refl _, by omega, rfl, by simpa using hown, hB, hcur⟩
          case round =>
            clear hB hown hcur ba
            obtain ⟨n4, ao, cap, hn1, hn2, rfl, hown, hB, hcur⟩ := hrel
            by_cases hlt4 : n4 < 504
            · have d4 : decide ((n4 : Int) < 504) = true := by simp; omega
              go_wp2_with (first
                | (at_builtin; refine wpList_app sl_bytes (.tmp 90) (.tmp 91) rfl rfl (base := B0) (W0 := wr) rfl hown (Below.refl _ _) rfl rfl (by intro u hu; simp at hu; subst hu; rfl) (by omega) (by omega) hcur (by omega) ?_; intro g4 cap4 wm hown4 hbel hg4 hlt5 hle4))
              go_roundw
              case rel =>
                refine ⟨n4 + 1, _, cap4, by omega, by omega, rfl, ?_, hB.trans hbel, Nat.le_trans hcur hbel.size⟩
                have e : n4 + 1 - rk = (n4 - rk) + 1 := by omega
                rw [e, List.replicate_succ', ← List.append_assoc, List.map_append]
                exact hown4
              case measure => simp; omega
            · obtain rfl : n4 = 504 := by omega
              have d4 : decide ((504 : Int) < 504) = false := by decide
              go_wp2
              go_ret2
              refine ⟨_, _, rfl, hBw.trans (hB.mono (by have := HB0.out; omega)), .inr (.inr ⟨HF.out, by rw [HR.out]; omega, rfl, ?_⟩)⟩
              have := Reads.of_own hown
              unfold page
              rw [encTo_length, HNK.out, HRK.out]
              exact this
  · obtain rfl : r = false := by cases r with | false => rfl | true => exact absurd (hr.1 rfl) hf
    have HF := Lib.hid hf
    clear hr hf
    have ca0 := ba.cell 0 _ rfl
    have ca1 := ba.cell 1 _ rfl
    have ca2 := ba.cell 2 _ rfl
    have ca3 := ba.cell 3 _ rfl
    have ca4 := ba.cell 4 _ rfl
    have fa := ba.free
    go_wp2
    go_ret2
    exact ⟨_, _, rfl, hB, .inl ⟨HF.out, rfl, rfl⟩⟩
end Go.Proofs.Ytfbblgcdggpehaa

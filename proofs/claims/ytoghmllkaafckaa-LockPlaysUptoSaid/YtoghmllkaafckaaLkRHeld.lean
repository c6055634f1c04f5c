/- The document's Release, Holders, Held. Conditions: at most 2^20 locks. -/
import Derived.Test.YtoghmllkaafckaaLkRTake
import Derived.IntWalk
import Derived.WalkLawsBesides
namespace Go.Proofs.Ytoghmllkaafckaa
set_option linter.unusedSimpArgs false
set_option linter.unusedVariables false
open Go.RowKit
open W (putL)

set_option maxRecDepth 100000 in
set_option maxHeartbeats 3200000 in
theorem rrelease_any (M : List Hd) (G tb n : Nat) (v : Value) (hn : n ≤ 1099511627776) (id : Int) (w : World) (hGw : G ≤ w.heap.size) (ht : TabQ w G tb v n M) :
    Calls Try.prog 24 #[.pointer (some ⟨tb, 0, none⟩), .int .i64 id] w fun e w' => e = .returned (.tuple #[]) ∧ TabQStep G tb v (fun T => T = releaseL M id) n w w' := by
  obtain ⟨ao, c, rfl, hr⟩ := ht.read
  have HT := Lib.hid hr
  have HQ := Lib.hid ht
  have HL := Lib.hid hr.len
  clear ht hr
  go_enter Try.func24, Try.ntmps24
  go_wp2_with fail
  go_loopw [4, 5] (fun s i wr => ∃ (k m cb : Nat) (bo : Option Addr), k ≤ n ∧ i = .int .i64 k ∧ s = .slice bo m cb ∧ Hid ((releaseL (M.take k) id).length = m) ∧ m ≤ k ∧
      wr.ownsRow w.heap.size 72 3 (.slice bo m cb) m (hcells (releaseL (M.take k) id)) ∧ Below w.heap.size w wr) (fun _ i _ => n - (intOf i).toNat)
  case atStart => exact ⟨0, 0, 0, none, Nat.zero_le _, rfl, rfl, Lib.hid rfl, Nat.le_refl _, World.ownsRow_nil _ _ _ _, Below.refl _ _⟩
  case round =>
    obtain ⟨k, m, cb, bo, hk, rfl, rfl, HM, hmk, hown, hnx⟩ := hrel
    have HO := Lib.hid hown
    have HNX := Lib.hid hnx
    have hsz := hnx.size
    have HTR := Lib.hid (HT.out.below hnx (Nat.le_refl _))
    have hct := HTR.out.box.cell 0 _ rfl
    have hcf := HTR.out.box.free
    have htl := HTR.out.box.lt
    clear hown hnx
    by_cases hlt : k < n
    · have hkl : k < M.length := by rw [HL.out]; exact hlt
      have hts : M.take (k + 1) = M.take k ++ [M[k]] := List.take_succ_eq_append_getElem hkl
      obtain ⟨b, o, c', e, hb, _, hd1, hd2, hd3⟩ := Hds.at HTR.out.reads k hlt M[k] (List.getElem?_eq_getElem hkl)
      injection e with e1 e2 e3
      subst e1 e3
      have HTS := Lib.hid hts
      generalize M[k] = x at *
      obtain ⟨x1, x2, x3⟩ := x
      simp only at hd1 hd2 hd3
      clear hkl hts e2
      by_cases h1 : x1 = id
      · have HS : Hid (releaseL (M.take (k + 1)) id = releaseL (M.take k) id) := Lib.hid (by rw [HTS.out]; simp [releaseL, h1])
        have hb1 : (x1 != id) = false := by simp [h1]
        clear h1 HTS
        go_wp2_with fail
        go_roundw
        case rel => exact ⟨k + 1, m, cb, bo, by omega, by go_num, rfl, by rw [HS.out]; exact HM, by omega, by rw [HS.out]; exact HO.out, HNX.out⟩
        case measure => simp [intOf]; omega
      · have HS : Hid (releaseL (M.take (k + 1)) id = releaseL (M.take k) id ++ [(x1, x2, x3)]) := Lib.hid (by rw [HTS.out]; simp [releaseL, h1])
        have hb1 : (x1 != id) = true := by simp [h1]
        clear h1 HTS
        have HA : Hid ((wr.alloc (.cells #[.int .i64 x1, .string x2, .int .i64 x3] 72)).ownsRow w.heap.size 72 3 (.slice bo m cb) m (hcells (releaseL (M.take k) id))) := Lib.hid (HO.out.alloc _)
        go_wp2_with (at_builtin; refine wpList_append_k holdsOf (.tmp 25) (.tmp 33) rfl rfl (base := w.heap.size) rfl HA.out rfl rfl (news := [.int .i64 x1, .string x2, .int .i64 x3]) (by intro j u hu; rw [Addr.add_lit, World.cell?_alloc_at _ _ _ _ rfl]; simpa using hu) (by intro u hu; simp at hu; rcases hu with rfl | rfl | rfl <;> rfl) (by omega) (by omega) (by simp; omega) (by omega) ?_; intro ob cp w4 hown4 hgr4 hor4)
        have hbel4 : Below w.heap.size w w4 := (HNX.out.alloc hsz _).trans (hgr4.below (fun q hq => ⟨by simp; omega, fun o h => by have := (HO.out.lt q h.1).1; omega⟩))
        have hown5 : w4.ownsRow w.heap.size 72 3 (.slice (some ⟨ob, 0, none⟩) (m + 1) cp) (m + 1) (hcells (releaseL (M.take (k + 1)) id)) := by rw [HS.out, hcells_append]; exact hown4
        go_roundw
        case rel => exact ⟨k + 1, m + 1, cp, some ⟨ob, 0, none⟩, by omega, by go_num, rfl, Lib.hid (by rw [HS.out, List.length_append, HM.out]; rfl), by omega, hown5, hbel4⟩
        case measure => simp [intOf]; omega
    · obtain rfl : n = k := by omega
      have hall : M.take n = M := List.take_of_length_le (Nat.le_of_eq HL.out)
      rw [hall] at HM HO
      go_wp2_with fail
      go_end0
      refine ⟨rfl, .slice bo m cb, m, releaseL M id, rfl, ⟨HTR.out.box.setCell 0 _, ?_, ?_, HM.out⟩, hmk, fun q e => .inr (HO.out.lt q e).1, (grow_below HNX.out).trans ((growX_setCell wr tb 0 _).mono (fun k hk => .inl hk))⟩
      · exact own_base (own_growx HO.out (growX_setCell wr tb 0 (.slice bo m cb)) (fun q e1 e2 => by have h1 := (HO.out.lt q e1).1; have h2 := HQ.out.box.lt; omega)) hGw
      · exact fun e => by have h1 := (HO.out.lt tb e).1; have h2 := HQ.out.box.lt; omega

def rholdL (nm : ByteArray) (K : List Hd) : List Int := K.foldl (fun out h => if h.2.1 = nm then putL out h.1 else out) []
theorem rholdL_snoc (nm : ByteArray) (K : List Hd) (h : Hd) : rholdL nm (K ++ [h]) = if h.2.1 = nm then putL (rholdL nm K) h.1 else rholdL nm K := by simp [rholdL, List.foldl_append]
theorem holdRaw_snoc (nm : ByteArray) (K : List Hd) (h : Hd) : holdRaw nm (K ++ [h]) = if h.2.1 = nm then holdRaw nm K ++ [h.1] else holdRaw nm K := by
  unfold holdRaw; rw [List.filter_append]; by_cases e : h.2.1 = nm <;> simp [e]
theorem rholdL_spec (nm : ByteArray) (K : List Hd) : (rholdL nm K).Pairwise (· < ·) ∧ (∀ x, x ∈ rholdL nm K ↔ x ∈ holdRaw nm K) ∧ (rholdL nm K).length ≤ K.length := by
  have key : ∀ k, k ≤ K.length → (rholdL nm (K.take k)).Pairwise (· < ·) ∧ (∀ x, x ∈ rholdL nm (K.take k) ↔ x ∈ holdRaw nm (K.take k)) ∧ (rholdL nm (K.take k)).length ≤ k := by
    intro k
    induction k with
    | zero => intro _; exact ⟨by simp [rholdL], fun x => by simp [rholdL, holdRaw], by simp [rholdL]⟩
    | succ k ih =>
      intro hk
      obtain ⟨h1, h2, h3⟩ := ih (by omega)
      rw [List.take_succ_eq_append_getElem (by omega), rholdL_snoc, holdRaw_snoc]
      split
      · rename_i hw
        refine ⟨W.putL_sorted _ _ h1, fun x => ?_, by have := W.putL_length (rholdL nm (K.take k)) K[k].1; omega⟩
        rw [W.mem_putL, h2, List.mem_append, List.mem_singleton]
      · rename_i hw
        refine ⟨h1, fun x => ?_, by omega⟩
        rw [h2]
  have := key K.length (Nat.le_refl _)
  rwa [List.take_length] at this

set_option maxRecDepth 100000 in
set_option maxHeartbeats 3200000 in
theorem rholders_any (L : List Hd) (tb n c : Nat) (ao : Option Addr) (hn : n ≤ 1099511627775) (nm : ByteArray) (w : World) (ht : TabR w tb n c ao L) :
    Calls Try.prog 26 #[.pointer (some ⟨tb, 0, none⟩), .string nm] w fun e w' => ∃ (a : Option Addr) (m cp : Nat), e = .returned (.slice a m cp) ∧ (rholdL nm L).length = m ∧ m ≤ n ∧ Reads 1 w' (.slice a m cp) m ((rholdL nm L).map (Value.int .i64)) ∧ Below w.heap.size w w' := by
  have HT := Lib.hid ht
  have HL := Lib.hid ht.len
  clear ht
  go_enter Try.func26, Try.ntmps26
  go_wp2_with fail
  go_loopw [5, 6] (fun s i wr => ∃ (k m cb : Nat) (bo : Option Addr), k ≤ n ∧ i = .int .i64 k ∧ s = .slice bo m cb ∧ Hid ((rholdL nm (L.take k)).length = m) ∧ m ≤ k ∧
      Reads 1 wr (.slice bo m cb) m ((rholdL nm (L.take k)).map (Value.int .i64)) ∧ Below w.heap.size w wr) (fun _ i _ => n - (intOf i).toNat)
  case atStart => exact ⟨0, 0, 0, none, Nat.zero_le _, rfl, rfl, Lib.hid rfl, Nat.le_refl _, Reads.empty, Below.refl _ _⟩
  case round =>
    obtain ⟨k, m, cb, bo, hk, rfl, rfl, HM, hmk, hrd, hnx⟩ := hrel
    have HO := Lib.hid hrd
    have HNX := Lib.hid hnx
    have hsz := hnx.size
    have HTR := Lib.hid (HT.out.below hnx (Nat.le_refl _))
    have hct := HTR.out.box.cell 0 _ rfl
    clear hrd hnx
    by_cases hlt : k < n
    · have hkl : k < L.length := by rw [HL.out]; exact hlt
      have hts : rholdL nm (L.take (k + 1)) = if L[k].2.1 = nm then putL (rholdL nm (L.take k)) L[k].1 else rholdL nm (L.take k) := by rw [List.take_succ_eq_append_getElem hkl, rholdL_snoc]
      obtain ⟨b, o, c', e, hb, _, hd1, hd2, hd3⟩ := Hds.at HTR.out.reads k hlt L[k] (List.getElem?_eq_getElem hkl)
      injection e with e1 e2 e3
      subst e1 e3
      have HTS := Lib.hid hts
      generalize L[k] = x at *
      generalize rholdL nm (L.take k) = A at *
      obtain ⟨x1, x2, x3⟩ := x
      simp only at hd1 hd2 hd3
      clear hkl hts e2
      by_cases h1 : x2 = nm
      · have HS := Lib.hid (HTS.out.trans (if_pos h1))
        have hb1 : (x2.toList == nm.toList) = true := str_eq h1
        clear h1 HTS
        go_wp2_with fail
        refine (put_any A _ m HM.out (by omega) x1 _ HO.out).mono ?_
        rintro e w3 ⟨a3, p3, rfl, hr3, hb3⟩
        obtain ⟨q3, hq3⟩ : ∃ q3, (putL A x1).length = q3 := ⟨_, rfl⟩
        have hq3l : q3 ≤ m + 1 := by rw [← hq3, ← HM.out]; exact W.putL_length A x1
        unfold Ints at hr3
        rw [hq3] at hr3 ⊢
        have HR3 := Lib.hid hr3
        have HB3 := Lib.hid (HNX.out.trans (hb3.mono hsz))
        have HQ3 := Lib.hid hq3
        clear hr3 hb3 hq3
        go_wp2_with fail
        go_roundw
        case rel => exact ⟨k + 1, q3, p3, a3, by omega, by go_num, rfl, Lib.hid (by rw [HS.out]; exact HQ3.out), by omega, by rw [HS.out]; exact HR3.out, HB3.out⟩
        case measure => simp [intOf]; omega
      · have HS := Lib.hid (HTS.out.trans (if_neg h1))
        have hb1 : (x2.toList == nm.toList) = false := str_ne h1
        clear h1 HTS
        go_wp2_with fail
        go_roundw
        case rel => exact ⟨k + 1, m, cb, bo, by omega, by go_num, rfl, by rw [HS.out]; exact HM, by omega, by rw [HS.out]; exact HO.out, HNX.out⟩
        case measure => simp [intOf]; omega
    · obtain rfl : n = k := by omega
      have hall : L.take n = L := List.take_of_length_le (Nat.le_of_eq HL.out)
      rw [hall] at HM HO
      go_wp2_with fail
      go_ret
      exact ⟨bo, m, cb, rfl, HM.out, hmk, HO.out, HNX.out⟩

def WRh6 (tb bh oh n c kx HS : Nat) (x2 : ByteArray) (x3 : Int) (j b o : Nat) : Prop := False
def PRh6 (tb bh oh n c kx HS : Nat) (x2 : ByteArray) (x3 : Int) (i : Nat) (v : Value) (lo hi : Nat) (w : World) : Prop :=
  match i with
  | 0 => v = .pointer (some ⟨tb, 0, none⟩)
  | 1 => v = .pointer (some ⟨tb, 0, none⟩)
  | 2 => v = .pointer (some ⟨tb, 0, none⟩)
  | 3 => v = .slice (some ⟨bh, oh, none⟩) n c
  | 4 => v = .int .i64 ((kx : Nat) : Int)
  | 5 => v = .pointer (some ⟨bh, oh + kx * 3, none⟩)
  | 6 => v = .pointer (some ⟨bh, oh + kx * 3 + 1, none⟩)
  | 7 => v = .string x2
  | 8 => v = .pointer (some ⟨tb, 0, none⟩)
  | 9 => v = .pointer (some ⟨tb, 0, none⟩)
  | 10 => v = .pointer (some ⟨tb, 0, none⟩)
  | 11 => v = .slice (some ⟨bh, oh, none⟩) n c
  | 12 => v = .int .i64 ((kx : Nat) : Int)
  | 13 => v = .pointer (some ⟨bh, oh + kx * 3, none⟩)
  | 14 => v = .pointer (some ⟨bh, oh + kx * 3 + 2, none⟩)
  | 15 => v = .int .i64 x3
  | 16 => v = .agg #[.string x2, .int .i64 x3]
  | 17 => v = .pointer (some ⟨lo, 0, none⟩) ∧ HS ≤ lo ∧ Box w lo [.string ByteArray.empty, .int .i64 0]
  | _ => True
theorem PRh6_stable (tb bh oh n c kx HS : Nat) (x2 : ByteArray) (x3 : Int)  : ∀ i j, i < 18 → j < 18 → j ≠ i → j ∉ ([[], [0], [0, 1], [0, 1, 2], [], [0, 1, 2, 3, 4], [0, 1, 2, 3, 4, 5], [0, 1, 2, 3, 4, 5, 6], [], [8], [8, 9], [8, 9, 10], [], [8, 9, 10, 11, 12], [8, 9, 10, 11, 12, 13], [8, 9, 10, 11, 12, 13, 14], [0, 1, 2, 3, 4, 5, 6, 7, 8, 9, 10, 11, 12, 13, 14, 15], []] : List (List Nat)).getD i [] → ∀ v lo hi w w', PRh6 tb bh oh n c kx HS x2 x3 i v lo hi w → GrowC (WRh6 tb bh oh n c kx HS x2 x3 j) w w' → PRh6 tb bh oh n c kx HS x2 x3 i v lo hi w' := by
  intro i j hi hj hne hbs v lo hj2 w w' h hg
  match i, hi with
  | 0, _ =>
    simp only [PRh6] at h ⊢
    exact h
  | 1, _ =>
    simp only [PRh6] at h ⊢
    exact h
  | 2, _ =>
    simp only [PRh6] at h ⊢
    exact h
  | 3, _ =>
    simp only [PRh6] at h ⊢
    exact h
  | 4, _ =>
    simp only [PRh6] at h ⊢
    exact h
  | 5, _ =>
    simp only [PRh6] at h ⊢
    exact h
  | 6, _ =>
    simp only [PRh6] at h ⊢
    exact h
  | 7, _ =>
    simp only [PRh6] at h ⊢
    exact h
  | 8, _ =>
    simp only [PRh6] at h ⊢
    exact h
  | 9, _ =>
    simp only [PRh6] at h ⊢
    exact h
  | 10, _ =>
    simp only [PRh6] at h ⊢
    exact h
  | 11, _ =>
    simp only [PRh6] at h ⊢
    exact h
  | 12, _ =>
    simp only [PRh6] at h ⊢
    exact h
  | 13, _ =>
    simp only [PRh6] at h ⊢
    exact h
  | 14, _ =>
    simp only [PRh6] at h ⊢
    exact h
  | 15, _ =>
    simp only [PRh6] at h ⊢
    exact h
  | 16, _ =>
    simp only [PRh6] at h ⊢
    exact h
  | 17, _ =>
    simp only [PRh6] at h ⊢
    exact ⟨h.1, h.2.1, h.2.2.grow hg (fun i _ hw => hw)⟩
  | (q + 18), hq => exact absurd hq (by omega)

theorem heldRaw_snoc (id : Int) (K : List Hd) (h : Hd) : heldRaw id (K ++ [h]) = if h.1 = id then heldRaw id K ++ [h.2] else heldRaw id K := by
  unfold heldRaw; rw [List.filter_append]; by_cases e : h.1 = id <;> simp [e]
def Asc (l : List Wn) : Prop := l.Pairwise fun a b => nmLt b.1 a.1 = false
theorem asc_ins {out : List Wn} {k : Nat} {x : Wn} (hs : Asc out) (hd : ∀ y ∈ out.drop k, nmLt x.1 y.1 = true) (ht : ∀ y ∈ out.take k, nmLt x.1 y.1 = false) : Asc (out.take k ++ x :: out.drop k) := by
  unfold Asc at *
  have h0 := hs
  rw [← List.take_append_drop k out, List.pairwise_append] at h0
  rw [List.pairwise_append, List.pairwise_cons]
  refine ⟨h0.1, ⟨fun b hb => ?_, h0.2.1⟩, fun a ha b hb => ?_⟩
  · cases hq : nmLt b.1 x.1 with
    | false => rfl
    | true => have h2 := nmLt_trans hq (hd b hb); rw [nmLt_irrefl] at h2; cases h2
  · rcases List.mem_cons.1 hb with rfl | hb
    · exact ht a ha
    · exact h0.2.2 a ha b hb
theorem asc_low {out : List Wn} {k : Nat} {x : Wn} (hs : Asc out) (hk : k + 1 ≤ out.length) (h : nmLt x.1 (out[k]'(by omega)).1 = false) : ∀ y ∈ out.take (k + 1), nmLt x.1 y.1 = false := by
  intro y hy
  rw [List.take_succ_eq_append_getElem (by omega), List.mem_append, List.mem_singleton] at hy
  rcases hy with hy | rfl
  · obtain ⟨j, hj, rfl⟩ := List.getElem_of_mem hy
    have hjk : j < k := by simp at hj; omega
    have := List.pairwise_iff_getElem.1 hs j k (by omega) (by omega) hjk
    rw [List.getElem_take]
    exact nmLt_ntrans h this
  · exact h
theorem wcells_set2 (M : List Wn) (k : Nat) (x : Wn) (hk : k < M.length) : ((wcells M).set (k * 2) (.string x.1)).set (k * 2 + 1) (.int .i64 x.2) = wcells (M.set k x) := by
  induction M generalizing k with
  | nil => simp at hk
  | cons y r ih =>
    cases k with
    | zero => simp [wcells]
    | succ k =>
      have e1 : (k + 1) * 2 = k * 2 + 1 + 1 := by omega
      have e2 : (k + 1) * 2 + 1 = k * 2 + 1 + 1 + 1 := by omega
      rw [e2, e1]
      have := ih k (by simpa using hk)
      simp only [wcells, List.flatMap_cons, List.cons_append, List.nil_append, List.set_cons_succ] at *
      rw [this]
theorem rwnsOf : SliceOf Try.prog 47 52 (.agg #[.string ByteArray.empty, .int .i64 0]) 2 24 := ⟨Try.underlying47, by kernel_rfl, rfl, by decide⟩
/-- the row amid an insertion: y lies at place k -/
def midW (out : List Wn) (k : Nat) (y : Wn) : List Wn := out.take k ++ y :: out.drop k
theorem midW_length {out : List Wn} {k : Nat} (hk : k ≤ out.length) (y : Wn) : (midW out k y).length = out.length + 1 := by simp [midW]; omega
theorem midW_set {out : List Wn} {k : Nat} (hk : k ≤ out.length) (y z : Wn) : (midW out k y).set k z = midW out k z := by
  have hl : (out.take k).length = k := by rw [List.length_take]; omega
  unfold midW
  rw [List.set_append_right _ _ (by omega), hl]
  simp
theorem midW_at {out : List Wn} {k : Nat} (hk : k + 1 ≤ out.length) (y : Wn) : (midW out (k + 1) y)[k]? = some (out[k]'(by omega)) := by
  unfold midW
  rw [List.getElem?_append_left (by rw [List.length_take]; omega), List.getElem?_take_of_lt (by omega), List.getElem?_eq_getElem]
theorem midW_step {out : List Wn} {k : Nat} (hk : k + 1 ≤ out.length) : midW out (k + 1) (out[k]'(by omega)) = midW out k (out[k]'(by omega)) := by
  unfold midW
  rw [List.take_succ_eq_append_getElem (by omega), List.append_assoc]
  congr 1
  rw [List.singleton_append]
  congr 1
  exact (List.drop_eq_getElem_cons (by omega)).symm

set_option maxRecDepth 100000 in
set_option maxHeartbeats 12800000 in
theorem rheld_any (L : List Hd) (tb n c : Nat) (ao : Option Addr) (hn : n ≤ 1048576) (id : Int) (w : World) (ht : TabR w tb n c ao L) :
    Calls Try.prog 25 #[.pointer (some ⟨tb, 0, none⟩), .int .i64 id] w fun e w' => ∃ (c' : List Wn) (a : Option Addr) (m cp : Nat), e = .returned (.slice a m cp) ∧ IsHeld L id c' ∧ c'.length = m ∧ m ≤ n ∧ Reads 2 w' (.slice a m cp) m (wcells c') ∧ Below w.heap.size w w' := by
  have HT := Lib.hid ht
  have HL := Lib.hid ht.len
  clear ht
  obtain ⟨G, hG⟩ : ∃ G, w.heap.size = G := ⟨_, rfl⟩
  have HG := Lib.hid hG
  clear hG
  go_enter Try.func25, Try.ntmps25
  go_wp2_with fail
  go_loopw [5, 6] (fun s i wr => ∃ (k m cb : Nat) (bo : Option Addr) (out : List Wn), k ≤ n ∧ i = .int .i64 k ∧ s = .slice bo m cb ∧ Hid (out.length = m ∧ Asc out ∧ out.Perm (heldRaw id (L.take k))) ∧ m ≤ k ∧
      wr.ownsRow G 52 2 (.slice bo m cb) m (wcells out) ∧ Below G w wr) (fun _ i _ => n - (intOf i).toNat)
  case atStart => exact ⟨0, 0, 0, none, [], Nat.zero_le _, rfl, rfl, Lib.hid ⟨rfl, List.Pairwise.nil, List.Perm.refl _⟩, Nat.le_refl _, World.ownsRow_nil _ _ _ _, Below.refl _ _⟩
  case round =>
    obtain ⟨k, m, cb, bo, out, hk, rfl, rfl, HM, hmk, hown, hnx⟩ := hrel
    have HO := Lib.hid hown
    have HNX := Lib.hid hnx
    have hsz : G ≤ wr.heap.size := by have := hnx.size; have := HG.out; omega
    have HTR := Lib.hid (HT.out.below hnx (by rw [HG.out]; exact Nat.le_refl _))
    have hct := HTR.out.box.cell 0 _ rfl
    clear hown hnx
    by_cases hlt : k < n
    · have hkl : k < L.length := by rw [HL.out]; exact hlt
      have hts : heldRaw id (L.take (k + 1)) = if L[k].1 = id then heldRaw id (L.take k) ++ [L[k].2] else heldRaw id (L.take k) := by rw [List.take_succ_eq_append_getElem hkl, heldRaw_snoc]
      obtain ⟨b, o, c', e, hb, _, hd1, hd2, hd3⟩ := Hds.at HTR.out.reads k hlt L[k] (List.getElem?_eq_getElem hkl)
      injection e with e1 e2 e3
      subst e1 e3
      have HTS := Lib.hid hts
      generalize L[k] = x at *
      generalize heldRaw id (L.take k) = A at *
      obtain ⟨x1, x2, x3⟩ := x
      simp only at hd1 hd2 hd3
      have hkn : k + 1 ≤ n := by omega
      clear hkl hts e2
      by_cases h1 : x1 = id
      case neg =>
        have HS := Lib.hid (HTS.out.trans (if_neg h1))
        have hb1 : (x1 != id) = true := by simp [h1]
        clear h1 HTS
        go_wp2_with fail
        go_roundw
        case rel => exact ⟨k + 1, m, cb, bo, out, by omega, by go_num, rfl, Lib.hid (by rw [HS.out]; exact HM.out), by omega, HO.out, HNX.out⟩
        case measure => simp [intOf]; omega
      case pos =>
        have HS := Lib.hid (HTS.out.trans (if_pos h1))
        have hb1 : (x1 != id) = false := by simp [h1]
        clear h1 HTS
        go_wp2_with fail
        obtain ⟨w4, hw4⟩ : ∃ w4, wr = w4 := ⟨_, rfl⟩
        rw [hw4] at HO HNX HTR hsz hd1 hd2 hd3 hb ⊢
        clear hw4 hct
        have bt := HTR.out.box
        have hbh := hb
        obtain ⟨HZ, hHS0⟩ : ∃ q, w4.heap.size = q := ⟨_, rfl⟩
        have HHS := Lib.hid hHS0
        clear hHS0
        have hB : Below 0 w4 w4 := Below.refl _ _
        refine wp_region_partsDC (WRh6 tb b o n c k HZ x2 x3) 18 [[], [0], [0, 1], [0, 1, 2], [], [0, 1, 2, 3, 4], [0, 1, 2, 3, 4, 5], [0, 1, 2, 3, 4, 5, 6], [], [8], [8, 9], [8, 9, 10], [], [8, 9, 10, 11, 12], [8, 9, 10, 11, 12, 13], [8, 9, 10, 11, 12, 13, 14], [0, 1, 2, 3, 4, 5, 6, 7, 8, 9, 10, 11, 12, 13, 14, 15], []] [some 28, some 29, some 30, some 31, some 32, some 33, some 34, some 35, some 36, some 37, some 38, some 39, some 40, some 41, some 42, some 43, some 44, some 7, none] (by kernel_rfl) (by kernel_rfl) rfl (PRh6 tb b o n c k HZ x2 x3) (PRh6_stable tb b o n c k HZ x2 x3 ) ?pRh6 ?_
        case pRh6 =>
          intro i hi o ho vs lo hx_ w' hg hp
          match i, hi with
          | 0, _ =>
            obtain rfl := Option.some.inj ho
            clear ho
            simp only [actsD, List.getD_cons_zero, List.getD_cons_succ, List.foldl_cons, List.foldl_nil, Act.put, List.setIfInBounds_toArray, List.set_cons_succ, List.set_cons_zero]
            have hsz := hg.size
            have hgB : Below w4.heap.size w4 w' := hg.below (fun k hk => ⟨hk, fun o => by rintro ⟨j, _, _, _, hw⟩; exact False.elim hw⟩)
            go_wp2
            exact ⟨_, rfl, GrowC.refl _, rfl⟩
          | 1, _ =>
            obtain rfl := Option.some.inj ho
            clear ho
            simp only [actsD, List.getD_cons_zero, List.getD_cons_succ, List.foldl_cons, List.foldl_nil, Act.put, List.setIfInBounds_toArray, List.set_cons_succ, List.set_cons_zero]
            obtain ⟨_, _, _, h0⟩ := hp 0 (by simp)
            simp only [PRh6] at h0
            have hsz := hg.size
            have hgB : Below w4.heap.size w4 w' := hg.below (fun k hk => ⟨hk, fun o => by rintro ⟨j, _, _, _, hw⟩; exact False.elim hw⟩)
            rw [h0]
            go_wp2
            exact ⟨_, rfl, GrowC.refl _, rfl⟩
          | 2, _ =>
            obtain rfl := Option.some.inj ho
            clear ho
            simp only [actsD, List.getD_cons_zero, List.getD_cons_succ, List.foldl_cons, List.foldl_nil, Act.put, List.setIfInBounds_toArray, List.set_cons_succ, List.set_cons_zero]
            obtain ⟨_, _, _, h1⟩ := hp 1 (by simp)
            simp only [PRh6] at h1
            have hsz := hg.size
            have hgB : Below w4.heap.size w4 w' := hg.below (fun k hk => ⟨hk, fun o => by rintro ⟨j, _, _, _, hw⟩; exact False.elim hw⟩)
            rw [h1]
            go_wp2
            exact ⟨_, rfl, GrowC.refl _, rfl⟩
          | 3, _ =>
            obtain rfl := Option.some.inj ho
            clear ho
            simp only [actsD, List.getD_cons_zero, List.getD_cons_succ, List.foldl_cons, List.foldl_nil, Act.put, List.setIfInBounds_toArray, List.set_cons_succ, List.set_cons_zero]
            obtain ⟨_, _, _, h2⟩ := hp 2 (by simp)
            simp only [PRh6] at h2
            have hsz := hg.size
            have hgB : Below w4.heap.size w4 w' := hg.below (fun k hk => ⟨hk, fun o => by rintro ⟨j, _, _, _, hw⟩; exact False.elim hw⟩)
            rw [h2]
            have e0 := (hg.cell (tb) 0 bt.lt (by rintro ⟨j, _, hne, hb, hw⟩; exact False.elim hw)).trans (bt.cell 0 _ rfl)
            go_wp2
            exact ⟨_, rfl, GrowC.refl _, rfl⟩
          | 4, _ =>
            obtain rfl := Option.some.inj ho
            clear ho
            simp only [actsD, List.getD_cons_zero, List.getD_cons_succ, List.foldl_cons, List.foldl_nil, Act.put, List.setIfInBounds_toArray, List.set_cons_succ, List.set_cons_zero]
            have hsz := hg.size
            have hgB : Below w4.heap.size w4 w' := hg.below (fun k hk => ⟨hk, fun o => by rintro ⟨j, _, _, _, hw⟩; exact False.elim hw⟩)
            go_wp2
            exact ⟨_, rfl, GrowC.refl _, rfl⟩
          | 5, _ =>
            obtain rfl := Option.some.inj ho
            clear ho
            simp only [actsD, List.getD_cons_zero, List.getD_cons_succ, List.foldl_cons, List.foldl_nil, Act.put, List.setIfInBounds_toArray, List.set_cons_succ, List.set_cons_zero]
            obtain ⟨_, _, _, h3⟩ := hp 3 (by simp)
            simp only [PRh6] at h3
            obtain ⟨_, _, _, h4⟩ := hp 4 (by simp)
            simp only [PRh6] at h4
            have hsz := hg.size
            have hgB : Below w4.heap.size w4 w' := hg.below (fun k hk => ⟨hk, fun o => by rintro ⟨j, _, _, _, hw⟩; exact False.elim hw⟩)
            rw [h3, h4]
            go_wp2
            exact ⟨_, rfl, GrowC.refl _, rfl⟩
          | 6, _ =>
            obtain rfl := Option.some.inj ho
            clear ho
            simp only [actsD, List.getD_cons_zero, List.getD_cons_succ, List.foldl_cons, List.foldl_nil, Act.put, List.setIfInBounds_toArray, List.set_cons_succ, List.set_cons_zero]
            obtain ⟨_, _, _, h5⟩ := hp 5 (by simp)
            simp only [PRh6] at h5
            have hsz := hg.size
            have hgB : Below w4.heap.size w4 w' := hg.below (fun k hk => ⟨hk, fun o => by rintro ⟨j, _, _, _, hw⟩; exact False.elim hw⟩)
            rw [h5]
            go_wp2
            exact ⟨_, rfl, GrowC.refl _, rfl⟩
          | 7, _ =>
            obtain rfl := Option.some.inj ho
            clear ho
            simp only [actsD, List.getD_cons_zero, List.getD_cons_succ, List.foldl_cons, List.foldl_nil, Act.put, List.setIfInBounds_toArray, List.set_cons_succ, List.set_cons_zero]
            obtain ⟨_, _, _, h6⟩ := hp 6 (by simp)
            simp only [PRh6] at h6
            have hsz := hg.size
            have hgB : Below w4.heap.size w4 w' := hg.below (fun k hk => ⟨hk, fun o => by rintro ⟨j, _, _, _, hw⟩; exact False.elim hw⟩)
            rw [h6]
            have e0 := (hgB.cell (p := ⟨b, o + k * 3 + 1, none⟩) hbh).trans hd2
            go_wp2
            exact ⟨_, rfl, GrowC.refl _, rfl⟩
          | 8, _ =>
            obtain rfl := Option.some.inj ho
            clear ho
            simp only [actsD, List.getD_cons_zero, List.getD_cons_succ, List.foldl_cons, List.foldl_nil, Act.put, List.setIfInBounds_toArray, List.set_cons_succ, List.set_cons_zero]
            have hsz := hg.size
            have hgB : Below w4.heap.size w4 w' := hg.below (fun k hk => ⟨hk, fun o => by rintro ⟨j, _, _, _, hw⟩; exact False.elim hw⟩)
            go_wp2
            exact ⟨_, rfl, GrowC.refl _, rfl⟩
          | 9, _ =>
            obtain rfl := Option.some.inj ho
            clear ho
            simp only [actsD, List.getD_cons_zero, List.getD_cons_succ, List.foldl_cons, List.foldl_nil, Act.put, List.setIfInBounds_toArray, List.set_cons_succ, List.set_cons_zero]
            obtain ⟨_, _, _, h8⟩ := hp 8 (by simp)
            simp only [PRh6] at h8
            have hsz := hg.size
            have hgB : Below w4.heap.size w4 w' := hg.below (fun k hk => ⟨hk, fun o => by rintro ⟨j, _, _, _, hw⟩; exact False.elim hw⟩)
            rw [h8]
            go_wp2
            exact ⟨_, rfl, GrowC.refl _, rfl⟩
          | 10, _ =>
            obtain rfl := Option.some.inj ho
            clear ho
            simp only [actsD, List.getD_cons_zero, List.getD_cons_succ, List.foldl_cons, List.foldl_nil, Act.put, List.setIfInBounds_toArray, List.set_cons_succ, List.set_cons_zero]
            obtain ⟨_, _, _, h9⟩ := hp 9 (by simp)
            simp only [PRh6] at h9
            have hsz := hg.size
            have hgB : Below w4.heap.size w4 w' := hg.below (fun k hk => ⟨hk, fun o => by rintro ⟨j, _, _, _, hw⟩; exact False.elim hw⟩)
            rw [h9]
            go_wp2
            exact ⟨_, rfl, GrowC.refl _, rfl⟩
          | 11, _ =>
            obtain rfl := Option.some.inj ho
            clear ho
            simp only [actsD, List.getD_cons_zero, List.getD_cons_succ, List.foldl_cons, List.foldl_nil, Act.put, List.setIfInBounds_toArray, List.set_cons_succ, List.set_cons_zero]
            obtain ⟨_, _, _, h10⟩ := hp 10 (by simp)
            simp only [PRh6] at h10
            have hsz := hg.size
            have hgB : Below w4.heap.size w4 w' := hg.below (fun k hk => ⟨hk, fun o => by rintro ⟨j, _, _, _, hw⟩; exact False.elim hw⟩)
            rw [h10]
            have e0 := (hg.cell (tb) 0 bt.lt (by rintro ⟨j, _, hne, hb, hw⟩; exact False.elim hw)).trans (bt.cell 0 _ rfl)
            go_wp2
            exact ⟨_, rfl, GrowC.refl _, rfl⟩
          | 12, _ =>
            obtain rfl := Option.some.inj ho
            clear ho
            simp only [actsD, List.getD_cons_zero, List.getD_cons_succ, List.foldl_cons, List.foldl_nil, Act.put, List.setIfInBounds_toArray, List.set_cons_succ, List.set_cons_zero]
            have hsz := hg.size
            have hgB : Below w4.heap.size w4 w' := hg.below (fun k hk => ⟨hk, fun o => by rintro ⟨j, _, _, _, hw⟩; exact False.elim hw⟩)
            go_wp2
            exact ⟨_, rfl, GrowC.refl _, rfl⟩
          | 13, _ =>
            obtain rfl := Option.some.inj ho
            clear ho
            simp only [actsD, List.getD_cons_zero, List.getD_cons_succ, List.foldl_cons, List.foldl_nil, Act.put, List.setIfInBounds_toArray, List.set_cons_succ, List.set_cons_zero]
            obtain ⟨_, _, _, h11⟩ := hp 11 (by simp)
            simp only [PRh6] at h11
            obtain ⟨_, _, _, h12⟩ := hp 12 (by simp)
            simp only [PRh6] at h12
            have hsz := hg.size
            have hgB : Below w4.heap.size w4 w' := hg.below (fun k hk => ⟨hk, fun o => by rintro ⟨j, _, _, _, hw⟩; exact False.elim hw⟩)
            rw [h11, h12]
            go_wp2
            exact ⟨_, rfl, GrowC.refl _, rfl⟩
          | 14, _ =>
            obtain rfl := Option.some.inj ho
            clear ho
            simp only [actsD, List.getD_cons_zero, List.getD_cons_succ, List.foldl_cons, List.foldl_nil, Act.put, List.setIfInBounds_toArray, List.set_cons_succ, List.set_cons_zero]
            obtain ⟨_, _, _, h13⟩ := hp 13 (by simp)
            simp only [PRh6] at h13
            have hsz := hg.size
            have hgB : Below w4.heap.size w4 w' := hg.below (fun k hk => ⟨hk, fun o => by rintro ⟨j, _, _, _, hw⟩; exact False.elim hw⟩)
            rw [h13]
            go_wp2
            exact ⟨_, rfl, GrowC.refl _, rfl⟩
          | 15, _ =>
            obtain rfl := Option.some.inj ho
            clear ho
            simp only [actsD, List.getD_cons_zero, List.getD_cons_succ, List.foldl_cons, List.foldl_nil, Act.put, List.setIfInBounds_toArray, List.set_cons_succ, List.set_cons_zero]
            obtain ⟨_, _, _, h14⟩ := hp 14 (by simp)
            simp only [PRh6] at h14
            have hsz := hg.size
            have hgB : Below w4.heap.size w4 w' := hg.below (fun k hk => ⟨hk, fun o => by rintro ⟨j, _, _, _, hw⟩; exact False.elim hw⟩)
            rw [h14]
            have e0 := (hgB.cell (p := ⟨b, o + k * 3 + 2, none⟩) hbh).trans hd3
            go_wp2
            exact ⟨_, rfl, GrowC.refl _, rfl⟩
          | 16, _ =>
            obtain rfl := Option.some.inj ho
            clear ho
            simp only [actsD, List.getD_cons_zero, List.getD_cons_succ, List.foldl_cons, List.foldl_nil, Act.put, List.setIfInBounds_toArray, List.set_cons_succ, List.set_cons_zero]
            obtain ⟨_, _, _, h7⟩ := hp 7 (by simp)
            simp only [PRh6] at h7
            obtain ⟨_, _, _, h15⟩ := hp 15 (by simp)
            simp only [PRh6] at h15
            have hsz := hg.size
            have hgB : Below w4.heap.size w4 w' := hg.below (fun k hk => ⟨hk, fun o => by rintro ⟨j, _, _, _, hw⟩; exact False.elim hw⟩)
            rw [h7, h15]
            go_wp2
            exact ⟨_, rfl, GrowC.refl _, rfl⟩
          | 17, _ =>
            obtain rfl := Option.some.inj ho
            clear ho
            simp only [actsD, List.getD_cons_zero, List.getD_cons_succ, List.foldl_cons, List.foldl_nil, Act.put, List.setIfInBounds_toArray, List.set_cons_succ, List.set_cons_zero]
            have hsz := hg.size
            have hgB : Below w4.heap.size w4 w' := hg.below (fun k hk => ⟨hk, fun o => by rintro ⟨j, _, _, _, hw⟩; exact False.elim hw⟩)
            have hbx := Box.new w' #[.string ByteArray.empty, .int .i64 0] 52 rfl
            go_wp2
            exact ⟨_, rfl, GrowC.of_grow ((Grow.refl _).alloc _), rfl, (by have h9 := HHS.out; have h8 : w4.drew.heap.size = w4.heap.size := rfl; omega), hbx⟩
          | (q + 18), hq => exact absurd hq (by omega)
        intro vS lo hi w5 hg hp
        generalize hLL : List.drop 18 _ = LL
        simp only [List.drop_succ_cons, List.drop_zero, List.drop_nil] at hLL
        intro hd
        obtain ⟨_, _, _, h0⟩ := hp 0 (by decide)
        obtain ⟨_, _, _, h1⟩ := hp 1 (by decide)
        obtain ⟨_, _, _, h2⟩ := hp 2 (by decide)
        obtain ⟨_, _, _, h3⟩ := hp 3 (by decide)
        obtain ⟨_, _, _, h4⟩ := hp 4 (by decide)
        obtain ⟨_, _, _, h5⟩ := hp 5 (by decide)
        obtain ⟨_, _, _, h6⟩ := hp 6 (by decide)
        obtain ⟨_, _, _, h7⟩ := hp 7 (by decide)
        obtain ⟨_, _, _, h8⟩ := hp 8 (by decide)
        obtain ⟨_, _, _, h9⟩ := hp 9 (by decide)
        obtain ⟨_, _, _, h10⟩ := hp 10 (by decide)
        obtain ⟨_, _, _, h11⟩ := hp 11 (by decide)
        obtain ⟨_, _, _, h12⟩ := hp 12 (by decide)
        obtain ⟨_, _, _, h13⟩ := hp 13 (by decide)
        obtain ⟨_, _, _, h14⟩ := hp 14 (by decide)
        obtain ⟨_, _, _, h15⟩ := hp 15 (by decide)
        obtain ⟨_, _, _, h16⟩ := hp 16 (by decide)
        obtain ⟨_, _, _, h17⟩ := hp 17 (by decide)
        simp only [PRh6] at h0 h1 h2 h3 h4 h5 h6 h7 h8 h9 h10 h11 h12 h13 h14 h15 h16 h17
        clear hp hd
        have hsz := hg.size
        replace bt := bt.grow hg (by intro i _; rintro ⟨j, _, hw⟩; exact False.elim hw)
        replace hB := hB.trans (hg.below (fun k hk => ⟨by omega, fun o => by rintro ⟨j, _, hw⟩; exact False.elim hw⟩))
        subst hLL
        have hr : List.range 18 = [0, 1, 2, 3, 4, 5, 6, 7, 8, 9, 10, 11, 12, 13, 14, 15, 16, 17] := rfl
        rw [hr]
        clear hr
        simp only [List.drop_succ_cons, List.drop_zero, List.drop_nil, actsD, List.getD_cons_zero, List.getD_cons_succ, List.foldl_cons, List.foldl_nil, Act.put, List.setIfInBounds_toArray, List.set_cons_succ, List.set_cons_zero, h0, h1, h2, h3, h4, h5, h6, h7, h8, h9, h10, h11, h12, h13, h14, h15, h16]
        clear h0 h1 h2 h3 h4 h5 h6 h7 h8 h9 h10 h11 h12 h13 h14 h15 h16
        obtain ⟨e17, hlo17, hbx17⟩ := h17
        obtain ⟨gx, hgx⟩ : ∃ gx, lo 17 = gx := ⟨_, rfl⟩
        rw [hgx] at e17 hlo17 hbx17
        have c0 := hbx17.cell 0 _ rfl
        have c1 := hbx17.cell 1 _ rfl
        have cf := hbx17.free
        have HBX := Lib.hid hbx17
        have hGx : G ≤ gx := by have := HHS.out; omega
        have HO5 := Lib.hid (own_growx (X := fun _ => False) HO.out (GrowX.of_growC hg (fun q o hw => by obtain ⟨j, _, hw⟩ := hw; exact hw)) (fun _ _ h => h))
        have hB5 : Below G w w5 := HNX.out.trans (hg.below (fun q hq => ⟨by have h8 : w4.drew.heap.size = w4.heap.size := rfl; omega, fun o => by rintro ⟨j, _, hw⟩; exact hw⟩))
        have HB5 := Lib.hid hB5
        have hrx : ∀ q, (Value.slice bo m cb).ownBlock = some q → q ≠ gx := fun q e => by have := (HO.out.lt q e).2; have := HHS.out; omega
        have HRX := Lib.hid hrx
        rw [e17]
        clear hg hgx hbx17 e17 bt hB hB5 hrx
        have h6 : Box ((w5.setCell ⟨gx, 0, none⟩ (.string x2)).setCell ⟨gx, 1, none⟩ (.int .i64 x3)) gx [.string x2, .int .i64 x3] ∧ ((w5.setCell ⟨gx, 0, none⟩ (.string x2)).setCell ⟨gx, 1, none⟩ (.int .i64 x3)).ownsRow G 52 2 (.slice bo m cb) m (wcells out) ∧ Below G w ((w5.setCell ⟨gx, 0, none⟩ (.string x2)).setCell ⟨gx, 1, none⟩ (.int .i64 x3)) := ⟨(HBX.out.setCell 0 (.string x2)).setCell 1 (.int .i64 x3), own_growx HO5.out ((growX_setCell w5 gx 0 _).trans (growX_setCell _ gx 1 _)) (fun q e1 e2 => HRX.out q e1 e2), (HB5.out.setCell (p := ⟨gx, 0, none⟩) hGx _).setCell (p := ⟨gx, 1, none⟩) hGx _⟩
        have hG6 : G ≤ ((w5.setCell ⟨gx, 0, none⟩ (.string x2)).setCell ⟨gx, 1, none⟩ (.int .i64 x3)).heap.size := by have := h6.2.2.size; have := HG.out; omega
        have hal6 : Below ((w5.setCell ⟨gx, 0, none⟩ (.string x2)).setCell ⟨gx, 1, none⟩ (.int .i64 x3)).heap.size ((w5.setCell ⟨gx, 0, none⟩ (.string x2)).setCell ⟨gx, 1, none⟩ (.int .i64 x3)) (((w5.setCell ⟨gx, 0, none⟩ (.string x2)).setCell ⟨gx, 1, none⟩ (.int .i64 x3)).alloc (.cells #[.string x2, .int .i64 x3] 52)) := (Below.refl _ _).alloc (Nat.le_refl _) _
        have HA6 : Hid ((((w5.setCell ⟨gx, 0, none⟩ (.string x2)).setCell ⟨gx, 1, none⟩ (.int .i64 x3)).alloc (.cells #[.string x2, .int .i64 x3] 52)).ownsRow G 52 2 (.slice bo m cb) m (wcells out)) := Lib.hid (h6.2.1.alloc _)
        have HBA := Lib.hid (h6.2.2.trans (hal6.mono hG6))
        have BXA := Lib.hid (h6.1.below hal6 (Nat.le_refl _))
        have hGa : G ≤ (((w5.setCell ⟨gx, 0, none⟩ (.string x2)).setCell ⟨gx, 1, none⟩ (.int .i64 x3)).alloc (.cells #[.string x2, .int .i64 x3] 52)).heap.size := by have := HBA.out.size; have := HG.out; omega
        have HGA := Lib.hid hGa
        clear h6 hal6 hG6 hGa HBX HO5 HB5 HO HNX HTR hd1 hd2 hd3 hsz hb hbh hlo17 HHS
        go_wp2_with (at_builtin; refine wpList_append_k rwnsOf (.tmp 47) (.tmp 49) rfl rfl (base := G) rfl HA6.out rfl rfl (news := [.string x2, .int .i64 x3]) (by intro j u hu; rw [Addr.add_lit, World.cell?_alloc_at _ _ _ _ (by simp [World.setCell])]; simpa using hu) (by intro u hu; simp at hu; rcases hu with rfl | rfl <;> rfl) (by omega) (by omega) HGA.out (by omega) ?_; intro ob cp w7 hown7 hgr7 hor7)
        have hbel7 : Below G w w7 := HBA.out.trans (hgr7.below (fun q hq => ⟨Nat.lt_of_lt_of_le hq HGA.out, fun o h => by have := (HA6.out.lt q h.1).1; omega⟩))
        have hbx7 : Box w7 gx [.string x2, .int .i64 x3] := BXA.out.grow hgr7 (fun i _ h => HRX.out gx h.1 rfl)
        have hobx : ob ≠ gx := by
          rcases hor7 with e | e
          · exact HRX.out ob e
          · have := BXA.out.lt; omega
        have hGob : G ≤ ob := (hown7.lt ob rfl).1
        have hml : out.length = m := HM.out.1
        have hown8 : w7.ownsRow G 52 2 (.slice (some ⟨ob, 0, none⟩) (m + 1) cp) (m + 1) (wcells (midW out m (x2, x3))) := by
          have e1 : midW out m (x2, x3) = out ++ [(x2, x3)] := by unfold midW; rw [List.take_of_length_le (by omega), List.drop_of_length_le (by omega)]
          rw [e1, wcells_append]; exact hown7
        have H8 := Lib.hid hown8
        have HB7 := Lib.hid hbel7
        have BX7 := Lib.hid hbx7
        clear hown7 hgr7 hor7 hbel7 hbx7 hown8 HA6 HBA BXA HGA c0 c1 cf
        obtain ⟨wo, rfl⟩ : ∃ wo : World, wo = wr := ⟨_, rfl⟩
        go_wp2_with fail
        go_loopw [8] (fun i wr => ∃ (kk : Nat) (y : Wn), kk ≤ m ∧ i = .int .i64 kk ∧ Hid (∀ z ∈ out.drop kk, nmLt x2 z.1 = true) ∧ wr.ownsRow G 52 2 (.slice (some ⟨ob, 0, none⟩) (m + 1) cp) (m + 1) (wcells (midW out kk y)) ∧
          Below G w wr ∧ Box wr gx [.string x2, .int .i64 x3]) (fun i _ => (intOf i).toNat)
        case atStart => exact ⟨m, (x2, x3), Nat.le_refl _, rfl, Lib.hid (by rw [List.drop_of_length_le (by omega)]; intro z hz; cases hz), H8.out, HB7.out, BX7.out⟩
        case round =>
          clear H8 HB7 BX7 hlt
          obtain ⟨kk, y, hkk, rfl, HD, ho, hb, bx⟩ := hrel
          have HOW := Lib.hid ho
          have HBW := Lib.hid hb
          have BXW := Lib.hid bx
          have cx0 := bx.cell 0 _ rfl
          have cx1 := bx.cell 1 _ rfl
          have fz : ∀ o, wr.frozen? ⟨ob, o, none⟩ = false := fun o => own_free ho rfl o
          clear ho hb bx
          have hin : kk ≤ out.length := by omega
          have fin : ∀ (W : World), Below wr.heap.size wr W → Hid (∀ z ∈ out.take kk, nmLt x2 z.1 = false) → Hid ((W.setCell ⟨ob, kk * 2, none⟩ (.string x2)).setCell ⟨ob, kk * 2 + 1, none⟩ (.int .i64 x3) |>.ownsRow G 52 2 (.slice (some ⟨ob, 0, none⟩) (m + 1) cp) (m + 1) (wcells (midW out kk (x2, x3)))) := fun W hW hlow => Lib.hid (by
            have h1 := own_set (own_set (own_below HOW.out hW (fun q e => (HOW.out.lt q e).2)) rfl (kk * 2) (by omega) (.string x2)) rfl (kk * 2 + 1) (by omega) (.int .i64 x3)
            rw [wcells_set2 _ kk (x2, x3) (by rw [midW_length hin]; omega), midW_set hin] at h1
            exact h1)
          have FIN := Lib.hid fin
          have hperm : (midW out kk (x2, x3)).Perm (out ++ [(x2, x3)]) := by
            unfold midW
            have : (out.take kk ++ (x2, x3) :: out.drop kk).Perm ((x2, x3) :: (out.take kk ++ out.drop kk)) := List.perm_middle
            rw [List.take_append_drop] at this
            exact this.trans (List.perm_append_comm (l₁ := [(x2, x3)]) (l₂ := out))
          have HPM := Lib.hid hperm
          clear fin hperm
          by_cases hk0 : 0 < kk
          · have hk0b : decide (0 < (kk : Int)) = true := by simp; omega
            obtain ⟨k1, rfl⟩ : ∃ k1, kk = k1 + 1 := ⟨kk - 1, by omega⟩
            have hk1l : k1 < out.length := by omega
            have hat := midW_at hin y
            obtain ⟨b3, o3, c3, e3, hb3, _, hs1, hs2⟩ := Wns.at (Reads.of_own HOW.out) k1 (by omega) _ hat
            injection e3 with e1 e2 e3
            injection e1 with e1
            injection e1 with e1 e4
            subst e1 e4 e3
            obtain ⟨b4, o4, c4, e5, hb4, _, ht1, ht2⟩ := Wns.at (Reads.of_own HOW.out) (k1 + 1) (by omega) _ (by rw [List.getElem?_eq_getElem (by rw [midW_length hin]; omega)])
            injection e5 with e6 e7 e8
            injection e6 with e6
            injection e6 with e6 e9
            subst e6 e9
            simp only [Nat.zero_add] at hs1 hs2 ht1 ht2
            have hsub : ((k1 + 1 : Nat) : Int) - 1 = (k1 : Int) := by omega
            have HSTEP := Lib.hid (midW_step hin)
            have HDX : Hid (nmLt x2 out[k1].1 = true → ∀ z ∈ out.drop k1, nmLt x2 z.1 = true) := Lib.hid (fun h z hz => by
              rw [List.drop_eq_getElem_cons hk1l, List.mem_cons] at hz
              rcases hz with rfl | hz
              · exact h
              · exact HD.out z hz)
            have HLOW : Hid (nmLt x2 out[k1].1 = false → ∀ z ∈ out.take (k1 + 1), nmLt x2 z.1 = false) := Lib.hid (fun h => asc_low (x := (x2, x3)) HM.out.2.1 hin h)
            generalize out[k1] = z at *
            generalize hzz : (midW out (k1 + 1) y)[k1 + 1]'(by rw [midW_length hin]; omega) = zz at *
            obtain ⟨z1, z2⟩ := z
            obtain ⟨zz1, zz2⟩ := zz
            simp only at hs1 hs2 ht1 ht2
            clear hzz hat hk1l e2 e7 e8 hb3 hb4
            cases hcmp : nmLt x2 z1 with
            | true =>
              have hl1 : Op.bytesLess z1.toList x2.toList = false := by
                cases hq : Op.bytesLess z1.toList x2.toList with
                | false => rfl
                | true => have h2 := nmLt_trans (a := z1) (b := x2) (c := z1) hq hcmp; rw [nmLt_irrefl] at h2; cases h2
              have hl2 : (z1.toList == x2.toList) = false := str_ne (fun e => by rw [e, nmLt_irrefl] at hcmp; cases hcmp)
              have HD2 := Lib.hid (HDX.out hcmp)
              have hset : (wr.drewN 0).ownsRow G 52 2 (.slice (some ⟨ob, 0, none⟩) (m + 1) cp) (m + 1) (wcells (midW out (k1 + 1) y)) := HOW.out
              have hi0 : (0 : Int) ≤ (k1 : Int) := by omega
              have hi1 : (k1 : Int) < (m : Int) + 1 := by omega
              have hi2 : k1 < m + 1 := by omega
              have hwr : IntKind.i64.wrap (k1 : Int) = (k1 : Int) := IntWalk.i64_in _ (by omega)
              clear hcmp HDX HLOW FIN HPM hset
              go_wp2_with fail
              go_quiet (fail)
              clear hwr
              have hq := below_dn (Below.refl wr.heap.size wr) nq
              have h1 := own_set (own_set (own_below HOW.out hq (fun q e => (HOW.out.lt q e).2)) rfl ((k1 + 1) * 2) (by omega) (.string z1)) rfl ((k1 + 1) * 2 + 1) (by omega) (.int .i64 z2)
              rw [wcells_set2 _ (k1 + 1) (z1, z2) (by rw [midW_length hin]; omega), midW_set hin, HSTEP.out] at h1
              have hbz := ((HBW.out.trans (hq.mono (by have := HBW.out.size; have := HG.out; omega))).setCell (p := ⟨ob, (k1 + 1) * 2, none⟩) hGob (.string z1)).setCell (p := ⟨ob, (k1 + 1) * 2 + 1, none⟩) hGob (.int .i64 z2)
              have hbxz := ((BXW.out.below hq (Nat.le_refl _)).growx (growX_setCell _ ob ((k1 + 1) * 2) (.string z1)) (fun e => hobx e.symm)).growx (growX_setCell _ ob ((k1 + 1) * 2 + 1) (.int .i64 z2)) (fun e => hobx e.symm)
              go_wp2_with fail
              go_roundw
              case rel => exact ⟨k1, (z1, z2), by omega, rfl, HD2, h1, hbz, hbxz⟩
              case measure => simp [intOf]
            | false =>
              have HLW := Lib.hid (HLOW.out hcmp)
              have hi0 : (0 : Int) ≤ (k1 : Int) := by omega
              have hi1 : (k1 : Int) < (m : Int) + 1 := by omega
              have hi2 : k1 < m + 1 := by omega
              have hwr : IntKind.i64.wrap (k1 : Int) = (k1 : Int) := IntWalk.i64_in _ (by omega)
              cases hq1 : nmLt z1 x2 with
              | true =>
                have hl1 : Op.bytesLess z1.toList x2.toList = true := hq1
                clear hcmp HDX HLOW HSTEP hq1
                go_wp2_with fail
                go_quiet (fail)
                clear hwr
                have hq := below_dn (Below.refl wr.heap.size wr) nq
                have HASC : Hid (Asc (midW out (k1 + 1) (x2, x3))) := Lib.hid (asc_ins HM.out.2.1 HD.out HLW.out)
                have HFI := FIN.out (wr.drewN nq) hq (Lib.hid HLW.out)
                have hbz := ((HBW.out.trans (hq.mono (by have := HBW.out.size; have := HG.out; omega))).setCell (p := ⟨ob, ((k1 + 1)) * 2, none⟩) hGob (.string x2)).setCell (p := ⟨ob, ((k1 + 1)) * 2 + 1, none⟩) hGob (.int .i64 x3)
                go_wp2_with fail
                go_roundw
                case rel => exact ⟨k + 1, m + 1, cp, some ⟨ob, 0, none⟩, midW out (k1 + 1) (x2, x3), by omega, by go_num, rfl, Lib.hid ⟨by rw [midW_length (by omega)]; omega, HASC.out, by rw [HS.out]; exact HPM.out.trans (HM.out.2.2.append (List.Perm.refl _))⟩, by omega, HFI.out, hbz⟩
                case measure => simp [intOf]; omega
              | false =>
                have hl1 : Op.bytesLess z1.toList x2.toList = false := hq1
                have hl2 : (z1.toList == x2.toList) = true := str_eq (nmLt_antisymm hq1 hcmp)
                clear hcmp HDX HLOW HSTEP hq1
                go_wp2_with fail
                go_quiet (fail)
                clear hwr
                have hq := below_dn (Below.refl wr.heap.size wr) nq
                have HASC : Hid (Asc (midW out (k1 + 1) (x2, x3))) := Lib.hid (asc_ins HM.out.2.1 HD.out HLW.out)
                have HFI := FIN.out (wr.drewN nq) hq (Lib.hid HLW.out)
                have hbz := ((HBW.out.trans (hq.mono (by have := HBW.out.size; have := HG.out; omega))).setCell (p := ⟨ob, ((k1 + 1)) * 2, none⟩) hGob (.string x2)).setCell (p := ⟨ob, ((k1 + 1)) * 2 + 1, none⟩) hGob (.int .i64 x3)
                go_wp2_with fail
                go_roundw
                case rel => exact ⟨k + 1, m + 1, cp, some ⟨ob, 0, none⟩, midW out (k1 + 1) (x2, x3), by omega, by go_num, rfl, Lib.hid ⟨by rw [midW_length (by omega)]; omega, HASC.out, by rw [HS.out]; exact HPM.out.trans (HM.out.2.2.append (List.Perm.refl _))⟩, by omega, HFI.out, hbz⟩
                case measure => simp [intOf]; omega
          · obtain rfl : kk = 0 := by omega
            have hk0b : decide (0 < ((0 : Nat) : Int)) = false := by simp
            have HLW : Hid (∀ z ∈ out.take 0, nmLt x2 z.1 = false) := Lib.hid (fun z hz => by simp at hz)
            obtain ⟨b4, o4, c4, e5, hb4, _, ht1, ht2⟩ := Wns.at (Reads.of_own HOW.out) 0 (by omega) _ (by rw [List.getElem?_eq_getElem (by rw [midW_length hin]; omega)])
            injection e5 with e6 e7 e8
            injection e6 with e6
            injection e6 with e6 e9
            subst e6 e9
            simp only [Nat.zero_add, Nat.zero_mul] at ht1 ht2
            generalize hzz : (midW out 0 y)[0]'(by rw [midW_length hin]; omega) = zz at *
            obtain ⟨zz1, zz2⟩ := zz
            simp only at ht1 ht2
            clear hzz e7 e8 hb4
            go_wp2_with fail
            go_quiet (fail)
            have hq := below_dn (Below.refl wr.heap.size wr) nq
            have HASC : Hid (Asc (midW out 0 (x2, x3))) := Lib.hid (asc_ins HM.out.2.1 HD.out HLW.out)
            have HFI := FIN.out (wr.drewN nq) hq (Lib.hid HLW.out)
            have hbz := ((HBW.out.trans (hq.mono (by have := HBW.out.size; have := HG.out; omega))).setCell (p := ⟨ob, (0) * 2, none⟩) hGob (.string x2)).setCell (p := ⟨ob, (0) * 2 + 1, none⟩) hGob (.int .i64 x3)
            go_wp2_with fail
            go_roundw
            case rel => exact ⟨k + 1, m + 1, cp, some ⟨ob, 0, none⟩, midW out 0 (x2, x3), by omega, by go_num, rfl, Lib.hid ⟨by rw [midW_length (by omega)]; omega, HASC.out, by rw [HS.out]; exact HPM.out.trans (HM.out.2.2.append (List.Perm.refl _))⟩, by omega, HFI.out, hbz⟩
            case measure => simp [intOf]; omega
    · obtain rfl : n = k := by omega
      have hall : L.take n = L := List.take_of_length_le (Nat.le_of_eq HL.out)
      rw [hall] at HM
      go_wp2_with fail
      go_ret
      exact ⟨out, bo, m, cb, rfl, ⟨HM.out.2.2, HM.out.2.1⟩, HM.out.1, hmk, Reads.of_own HO.out, by rw [HG.out]; exact HNX.out⟩
end Go.Proofs.Ytoghmllkaafckaa

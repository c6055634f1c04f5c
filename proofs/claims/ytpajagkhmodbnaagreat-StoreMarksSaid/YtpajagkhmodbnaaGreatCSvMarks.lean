/- The law StoreMarks. Conditions: none. -/
import Derived.Test.YtpajagkhmodbnaaGreatCSvWrite0
import Derived.Test.YtpajagkhmodbnaaGreatCSvLaw
import Derived.Test.YtpajagkhmodbnaaGreatCSvOpen7
import Derived.Deep.DeepCutAuto
import Derived.Deep.CutBlock
namespace Go.Proofs.YtpajagkhmodbnaaGreat
set_option linter.unusedSimpArgs false
set_option linter.unusedVariables false
open Go.RowKit
theorem alloc_sz (w : World) (o : Obj) : (w.alloc o).heap.size = w.heap.size + 1 := by simp
theorem cf1024 : Cf.of 1024 = ⟨256, 258, 190⟩ := by kernel_rfl
theorem mod3 (x : Int) : ∃ q : Nat, q < 3 ∧ Int.tmod (wrap64 (Int.tmod x 3 + 3)) 3 = (q : Int) := by
  have h1 : -3 < Int.tmod x 3 ∧ Int.tmod x 3 < 3 := by
    constructor
    · have := Int.lt_tmod_of_pos x (show (0 : Int) < 3 by decide); omega
    · exact Int.tmod_lt_of_pos x (by decide)
  have h2 := Int.tmod_lt_of_pos (Int.tmod x 3 + 3) (show (0 : Int) < 3 by decide)
  have h3 := Int.tmod_nonneg 3 (show 0 ≤ Int.tmod x 3 + 3 by omega)
  have h4 : wrap64 (Int.tmod x 3 + 3) = Int.tmod x 3 + 3 := by rw [wrap64]; omega
  rw [h4]
  exact ⟨(Int.tmod (Int.tmod x 3 + 3) 3).toNat, by omega, by omega⟩
theorem and255 (x : Int) : ∃ q : Nat, q ≤ 255 ∧ bits BinOp.and IntKind.i64 x 255 = (q : Int) :=
  by
    have h : (BitVec.ofInt 64 x &&& BitVec.ofInt 64 255).toNat ≤ 255 := by
      rw [BitVec.toNat_and]
      exact Nat.le_trans Nat.and_le_right (by decide)
    refine ⟨(BitVec.ofInt 64 x &&& BitVec.ofInt 64 255).toNat, h, ?_⟩
    show IntKind.i64.wrap (((BitVec.ofInt 64 x &&& BitVec.ofInt 64 255).toNat : Nat) : Int) = _
    generalize (BitVec.ofInt 64 x &&& BitVec.ofInt 64 255).toNat = q at h ⊢
    rw [IntKind.wrap_i64]
    omega
theorem Reads.cut60 {w : World} {ao : Option Addr} {n c m : Nat} {l : List UInt8} (h : Reads 1 w (.slice ao n c) n (l.map B)) (hm : m ≤ n) : Reads 1 w (.slice ao m c) m ((l.take m).map B) := by
  obtain ⟨ao', c', e, hl, hc, hcell⟩ := h
  injection e with e1 e2 e3
  subst e1 e3
  refine ⟨_, _, rfl, ?_, by omega, fun h0 => ?_⟩
  · rw [List.length_map] at hl ⊢
    rw [List.length_take]; omega
  · obtain ⟨b, o, e, hb, hc2⟩ := hcell (by omega)
    exact ⟨b, o, e, hb, fun j u hu => hc2 j u (by
      rw [List.getElem?_map, List.getElem?_take] at hu
      split at hu
      · rw [List.getElem?_map]; exact hu
      · cases hu)⟩
theorem busy_solo' {σ : St} {x : Tx} (ho : σ.opn = [x]) (p off n : Nat) : σ.busy (x.id : Int) p off n = false := by
  unfold St.busy
  rw [ho]
  simp [hits]
theorem write_arg_st {W0 w : World} {A : Adr} {c : Cf} {σ : St} {S : Nat → Prop} {k b : Nat} {W : Nat → List UInt8} (h : Sto W0 A c k b σ W S w) (hk : k ≤ 900000) {x : Tx} (hx : σ.opn = [x]) (p off : Nat) (bs : List UInt8) (v : Value) (hv : Reads 1 W0 v bs.length (bs.map B)) (hpg : p < c.pg) (hoff : off + bs.length ≤ 504)
    (hb : b + (192 + 3 * bs.length) + 2048 ≤ (c.n - 1) * 118) :
    Calls Tryz.prog 31 #[.pointer (some ⟨A.sb, 0, none⟩), .int .i64 (x.id : Nat), .int .i64 (p : Nat), .int .i64 (off : Nat), v] w fun er w' => ∃ σ' S', er = .returned (.int .i64 0) ∧ Sto W0 A c (k + 3) (b + (192 + 3 * bs.length)) σ' (updV W p (overB (W p) off bs)) S' w' ∧ Foot S S' w w' ∧ σ'.next = σ.next ∧
      ((((W p).drop off).take bs.length = bs ∧ σ'.opn = σ.opn ∧ σ'.lines = σ.lines ∧ σ'.io.R.tail = σ.io.R.tail) ∨
       (((W p).drop off).take bs.length ≠ bs ∧ σ'.opn = [{ x with last := σ.io.R.tail + 1, l := x.l ++ [⟨σ.io.R.tail + 1, x.last, p, off, ((W p).drop off).take bs.length⟩] }] ∧ σ'.lines = σ.lines ++ [(σ.io.R.tail + 1, wrRc x.id x.last p off (((W p).drop off).take bs.length) bs)] ∧ σ'.io.R.tail = σ.io.R.tail + (96 + 2 * bs.length))) := by
  have hx0 : σ.opn[0]? = some x := by rw [hx]; rfl
  obtain ⟨ao, cp, rfl, hl, hc, hcell⟩ := hv
  rcases Nat.eq_zero_or_pos bs.length with h0 | h0
  · have hbs := List.eq_nil_of_length_eq_zero h0
    subst hbs
    have e0 : overB (W p) off [] = W p := by
      have := overB_same (W p) off 0 (by rw [h.std.len hpg]; simp at hoff; omega)
      simpa using this
    rw [e0, updV_self]
    refine (write0_st h hk hx0 p off ao cp hpg (by simpa using hoff)).mono ?_
    rintro er w' ⟨σ', S', rfl, h1, h2, h3⟩
    exact ⟨σ', S', rfl, h1.le (Nat.le_refl _) (by simp) hb, h2, h3.next, .inl ⟨by simp, h3.opn, h3.lines, h3.tail⟩⟩
  · obtain ⟨bb, o, rfl, hbb, hc2⟩ := hcell h0
    have hrd : Reads 1 w (.slice (some ⟨bb, o, none⟩) bs.length cp) bs.length (bs.map B) :=
      Reads.below (w := W0) ⟨_, _, rfl, hl, hc, fun _ => ⟨bb, o, rfl, hbb, hc2⟩⟩ h.bel (Nat.le_refl _)
    refine (write_st h hk hx0 p off bs (some ⟨bb, o, none⟩) bs.length cp hrd rfl hpg hoff (busy_solo' hx _ _ _) (fun q e => ?_) hb).mono ?_
    · have e2 : bb = q := (by simpa [Value.ownBlock] using e)
      subst e2
      exact ⟨fun hs => by have := (h.lt _ hs).1; omega, Nat.lt_of_lt_of_le hbb h.bel.size⟩
    · rintro er w' ⟨σ', S', rfl, h1, h2, h3, h4⟩
      refine ⟨σ', S', rfl, h1, h2, h3, h4.imp id (fun ⟨q1, q2, q3, q4⟩ => ⟨q1, ?_, q3, q4⟩)⟩
      rw [q2, hx]; rfl
theorem popR_le (m : Nat) : ∀ (r : List Up) (W : Nat → List UInt8), (popR m r W).1.length ≤ r.length
  | [], _ => Nat.le_refl _
  | u :: r, W => by
    rw [popR]
    split
    · exact Nat.le_refl _
    · exact Nat.le_trans (popR_le m r _) (by simp)
structure MInv (n : Nat) (ms : List Nat) (ws : List (List UInt8)) (σ : St) (x : Tx) (W : Nat → List UInt8) : Prop where
  op : σ.opn = [x]
  id : x.id = 1
  last : 1 ≤ x.last
  ups : ∀ u ∈ x.l, u.lsn ≤ x.last
  wl : ws.length = ms.length
  inv : ∀ (q m : Nat), q < n → ms[q]? = some m → 1 ≤ m ∧ m ≤ x.last ∧ (∃ y ∈ σ.lines, y.1 = m ∧ y.2.txn = 1) ∧ ws[q]? = some (areaB (popR m x.l.reverse W).2 3)
  mono : ∀ (q q' m m' : Nat), q ≤ q' → ms[q]? = some m → ms[q']? = some m' → m ≤ m'
  top : ∀ m ∈ ms, m ≤ x.last
theorem MInv.push {n : Nat} {ms : List Nat} {ws : List (List UInt8)} {σ : St} {x : Tx} {W : Nat → List UInt8} (h : MInv n ms ws σ x W) (hli : ∃ y ∈ σ.lines, y.1 = x.last ∧ y.2.txn = 1) (hn : n = ms.length) : MInv (n + 1) (ms ++ [x.last]) (ws ++ [areaB W 3]) σ x W := by
  subst hn
  refine ⟨h.op, h.id, h.last, h.ups, by simp [h.wl], fun q m hq hm => ?_, fun q q' m m' hqq hm hm' => ?_, fun m hm => ?_⟩
  · by_cases hlt : q < ms.length
    · rw [List.getElem?_append_left hlt] at hm
      rw [List.getElem?_append_left (by rw [h.wl]; exact hlt)]
      exact h.inv q m hlt hm
    · obtain rfl : q = ms.length := by omega
      rw [List.getElem?_append_right (Nat.le_refl _), Nat.sub_self] at hm
      obtain rfl := Option.some.inj hm
      refine ⟨h.last, Nat.le_refl _, hli, ?_⟩
      rw [← h.wl, List.getElem?_append_right (Nat.le_refl _), Nat.sub_self, popR_stop (fun u hu => h.ups u (List.mem_reverse.1 hu))]
      rfl
  · by_cases hlt' : q' < ms.length
    · rw [List.getElem?_append_left (by omega)] at hm
      rw [List.getElem?_append_left hlt'] at hm'
      exact h.mono q q' m m' hqq hm hm'
    · have hq' : q' = ms.length := by
        have := (List.getElem?_eq_some_iff.1 hm').1
        rw [List.length_append] at this
        simp at this
        omega
      subst hq'
      rw [List.getElem?_append_right (Nat.le_refl _), Nat.sub_self] at hm'
      obtain rfl := Option.some.inj hm'
      by_cases hlt : q < ms.length
      · rw [List.getElem?_append_left hlt] at hm
        exact h.top m (List.mem_of_getElem? hm)
      · obtain rfl : q = ms.length := by omega
        rw [List.getElem?_append_right (Nat.le_refl _), Nat.sub_self] at hm
        obtain rfl := Option.some.inj hm
        exact Nat.le_refl _
  · rcases List.mem_append.1 hm with hm | hm
    · exact h.top m hm
    · rw [List.mem_singleton.1 hm]; exact Nat.le_refl _
theorem MInv.like {n : Nat} {ms : List Nat} {ws : List (List UInt8)} {σ σ' : St} {x : Tx} {W : Nat → List UInt8} (h : MInv n ms ws σ x W) (hl : Like σ σ') : MInv n ms ws σ' x W :=
  ⟨hl.opn.trans h.op, h.id, h.last, h.ups, h.wl, by rw [hl.lines]; exact h.inv, h.mono, h.top⟩
theorem MInv.write {n : Nat} {ms : List Nat} {ws : List (List UInt8)} {σ σ' : St} {x : Tx} {W : Nat → List UInt8} (h : MInv n ms ws σ x W) (hli : ∃ y ∈ σ.lines, y.1 = x.last ∧ y.2.txn = 1) (hT : x.last ≤ σ.io.R.tail) (p off : Nat) (bs : List UInt8) (hw : off + bs.length ≤ (W p).length)
    (hc : (((W p).drop off).take bs.length = bs ∧ σ'.opn = σ.opn ∧ σ'.lines = σ.lines ∧ σ'.io.R.tail = σ.io.R.tail) ∨
       (((W p).drop off).take bs.length ≠ bs ∧ σ'.opn = [{ x with last := σ.io.R.tail + 1, l := x.l ++ [⟨σ.io.R.tail + 1, x.last, p, off, ((W p).drop off).take bs.length⟩] }] ∧ σ'.lines = σ.lines ++ [(σ.io.R.tail + 1, wrRc x.id x.last p off (((W p).drop off).take bs.length) bs)] ∧ σ'.io.R.tail = σ.io.R.tail + (96 + 2 * bs.length))) :
    ∃ x', MInv n ms ws σ' x' (updV W p (overB (W p) off bs)) ∧ x'.l.length ≤ x.l.length + 1 ∧ (∃ y ∈ σ'.lines, y.1 = x'.last ∧ y.2.txn = 1) := by
  rcases hc with ⟨h1, h2, h3, h4⟩ | ⟨h1, h2, h3, h4⟩
  · have e0 : overB (W p) off bs = W p := by
      have := overB_same (W p) off bs.length hw
      rw [h1] at this; exact this
    rw [e0, updV_self]
    exact ⟨x, ⟨h2.trans h.op, h.id, h.last, h.ups, h.wl, by rw [h3]; exact h.inv, h.mono, h.top⟩, by omega, by rw [h3]; exact hli⟩
  · refine ⟨_, ⟨h2, h.id, by simp, fun u hu => ?_, h.wl, fun q m hq hm => ?_, h.mono, fun m hm => ?_⟩, by simp, by rw [h3]; exact ⟨_, List.mem_append_right _ (List.mem_singleton.2 rfl), rfl, h.id⟩⟩
    · rcases List.mem_append.1 hu with hu | hu
      · have := h.ups u hu
        show u.lsn ≤ σ.io.R.tail + 1
        omega
      · rw [List.mem_singleton.1 hu]; exact Nat.le_refl _
    · obtain ⟨a1, a2, ⟨y, a3, a4⟩, a5⟩ := h.inv q m hq hm
      refine ⟨a1, by show m ≤ σ.io.R.tail + 1; omega, ⟨y, by rw [h3]; exact List.mem_append_left _ a3, a4⟩, ?_⟩
      rw [a5]
      show _ = some (areaB (popR m (x.l ++ [_]).reverse _).2 3)
      rw [List.reverse_append, List.reverse_cons, List.reverse_nil, List.nil_append, List.singleton_append, popR, if_neg (by show ¬ σ.io.R.tail + 1 ≤ m; omega)]
      simp only []
      rw [over_undo W p off bs hw]
    · have := h.top m hm
      show m ≤ σ.io.R.tail + 1
      omega
theorem MInv.back {n q m : Nat} {ms : List Nat} {ws : List (List UInt8)} {σ σ' : St} {x x' : Tx} {W : Nat → List UInt8} (h : MInv n ms ws σ x W) (hq : q < n) (hm : ms[q]? = some m) (ho : σ'.opn = σ.opn.set 0 x') (hid : x'.id = x.id) (hla : x.last ≤ x'.last) (hl : x'.l = (popU m (x.l.length + 1) x.l W).1) (hli : ∀ y ∈ σ.lines, y ∈ σ'.lines) :
    MInv q ms ws σ' x' (popU m (x.l.length + 1) x.l W).2 ∧ ws[q]? = some (areaB (popU m (x.l.length + 1) x.l W).2 3) ∧ x'.l.length ≤ x.l.length := by
  rw [popU_R m _ _ _ (Nat.le_refl _)] at hl ⊢
  simp only at hl ⊢
  have hr : x'.l.reverse = (popR m x.l.reverse W).1 := by rw [hl, List.reverse_reverse]
  have hmem : ∀ u ∈ x'.l, u ∈ x.l := fun u hu => by
    rw [hl] at hu
    exact List.mem_reverse.1 (popR_mem _ _ u (List.mem_reverse.1 hu))
  refine ⟨⟨by rw [ho, h.op]; rfl, hid.trans h.id, Nat.le_trans h.last hla, fun u hu => Nat.le_trans (h.ups u (hmem u hu)) hla, h.wl, fun q2 m2 hq2 hm2 => ?_, h.mono, fun m2 hm2 => Nat.le_trans (h.top m2 hm2) hla⟩, (h.inv q m hq hm).2.2.2, ?_⟩
  · obtain ⟨a1, a2, ⟨y, a3, a4⟩, a5⟩ := h.inv q2 m2 (by omega) hm2
    refine ⟨a1, Nat.le_trans a2 hla, ⟨y, hli y a3, a4⟩, ?_⟩
    rw [hr, popR_twice m2 m (h.mono q2 q m2 m (by omega) hm2 hm)]
    exact a5
  · rw [hl, List.length_reverse]
    exact Nat.le_trans (popR_le _ _ _) (by rw [List.length_reverse]; exact Nat.le_refl _)
def WSMk21 (A : Adr) (bb oo cap jj n pp of nx dcp : Nat) (dao : Option Addr) (op oof : Int) (j b o : Nat) : Prop := False
def PSMk21 (A : Adr) (bb oo cap jj n pp of nx dcp : Nat) (dao : Option Addr) (op oof : Int) (i : Nat) (v : Value) (lo hi : Nat) (w : World) : Prop :=
  match i with
  | 0 => v = .pointer (some ⟨A.sb, 0, none⟩)
  | 1 => v = .int .i64 1
  | 2 => v = .slice (some ⟨bb, oo, none⟩) n cap
  | 3 => v = .int .i64 ((jj : Nat) : Int)
  | 4 => v = .pointer (some ⟨bb, oo + jj * 7, none⟩)
  | 5 => v = .pointer (some ⟨bb, oo + jj * 7 + 2, none⟩)
  | 6 => v = .int .i64 op
  | 7 => v = .int .i64 (Int.tmod op 3)
  | 8 => v = .int .i64 (wrap64 (Int.tmod op 3 + 3))
  | 9 => v = .int .i64 ((pp : Nat) : Int)
  | 10 => v = .slice (some ⟨bb, oo, none⟩) n cap
  | 11 => v = .int .i64 ((jj : Nat) : Int)
  | 12 => v = .pointer (some ⟨bb, oo + jj * 7, none⟩)
  | 13 => v = .pointer (some ⟨bb, oo + jj * 7 + 3, none⟩)
  | 14 => v = .int .i64 oof
  | 15 => v = .int .i64 ((of : Nat) : Int)
  | 16 => v = .slice dao nx dcp
  | _ => True
abbrev bSMk21 : List (List Nat) := [[], [], [], [], [2, 3], [2, 3, 4], [2, 3, 4, 5], [2, 3, 4, 5, 6], [2, 3, 4, 5, 6, 7], [2, 3, 4, 5, 6, 7, 8], [], [], [10, 11], [10, 11, 12], [10, 11, 12, 13], [10, 11, 12, 13, 14], []]
theorem PSMk21_stable (A : Adr) (bb oo cap jj n pp of nx dcp : Nat) (dao : Option Addr) (op oof : Int)  : ∀ i j, i < 17 → j < 17 → j ≠ i → j ∉ bSMk21.getD i [] → ∀ v lo hi w w', PSMk21 A bb oo cap jj n pp of nx dcp dao op oof i v lo hi w → GrowC (WSMk21 A bb oo cap jj n pp of nx dcp dao op oof j) w w' → PSMk21 A bb oo cap jj n pp of nx dcp dao op oof i v lo hi w' := by
  intro i j hi hj hne hbs v lo hj2 w w' h hg
  match i, hi with
  | 0, _ | 1, _ | 2, _ | 3, _ | 4, _ | 5, _ | 6, _ | 7, _ | 8, _ | 9, _ | 10, _ | 11, _ | 12, _ | 13, _ | 14, _ | 15, _ | 16, _ =>
    simp only [PSMk21] at h ⊢
    exact h
  | (q + 17), hq => exact absurd hq (by omega)
theorem intsOf : SliceOf Tryz.prog 47 3 (.int .i64 0) 1 8 := ⟨Tryz.underlying47, by kernel_rfl, rfl, by decide⟩
theorem strsOf : SliceOf Tryz.prog 72 9 (.string ⟨#[]⟩) 1 16 := ⟨Tryz.underlying72, by kernel_rfl, rfl, by decide⟩
def mcells (ms : List Nat) : List Value := ms.map fun m => .int .i64 (m : Nat)
def scells' (ws : List (List UInt8)) : List Value := ws.map fun s => .string ⟨s.toArray⟩
structure MAt (w : World) (A : Adr) (j : Nat) (ms : List Nat) (ws : List (List UInt8)) (σ : St) (S : Nat → Prop) (W : Nat → List UInt8) (x : Tx) (z9 z10 : Value) (k b : Nat) (wr : World) : Prop where
  st : Sto w A (Cf.of 1024) k b σ W S wr
  mi : MInv j ms ws σ x W
  len : ms.length = j
  xl : x.l.length ≤ j
  li : ∃ y ∈ σ.lines, y.1 = x.last ∧ y.2.txn = 1
  r9 : wr.ownsRow w.heap.size 3 1 z9 j (mcells ms)
  r10 : wr.ownsRow w.heap.size 9 1 z10 j (scells' ws)
  n9 : ∀ q, z9.ownBlock = some q → ¬ S q
  n10 : ∀ q, z10.ownBlock = some q → ¬ S q
  n90 : ∀ q, z9.ownBlock = some q → ¬ z10.ownBlock = some q
structure MAt2 (w : World) (A : Adr) (i j : Nat) (ms : List Nat) (ws : List (List UInt8)) (σ : St) (S : Nat → Prop) (W : Nat → List UInt8) (x : Tx) (z9 z10 : Value) (k : Nat) (wr : World) : Prop where
  st : Sto w A (Cf.of 1024) k 5868 σ W S wr
  mi : MInv i ms ws σ x W
  len : ms.length = j
  xl : x.l.length ≤ 15
  r9 : wr.ownsRow w.heap.size 3 1 z9 j (mcells ms)
  r10 : wr.ownsRow w.heap.size 9 1 z10 j (scells' ws)
  n9 : ∀ q, z9.ownBlock = some q → ¬ S q
  n10 : ∀ q, z10.ownBlock = some q → ¬ S q
theorem MInv.less {n n' : Nat} {ms : List Nat} {ws : List (List UInt8)} {σ : St} {x : Tx} {W : Nat → List UInt8} (h : MInv n ms ws σ x W) (hn : n' ≤ n) : MInv n' ms ws σ x W :=
  ⟨h.op, h.id, h.last, h.ups, h.wl, fun q m hq hm => h.inv q m (by omega) hm, h.mono, h.top⟩
theorem MAt2.step {w wr w' : World} {A : Adr} {i i' j : Nat} {ms : List Nat} {ws : List (List UInt8)} {σ σ' : St} {S S' : Nat → Prop} {W W' : Nat → List UInt8} {x x' : Tx} {z9 z10 : Value} {k k' : Nat} (h : MAt2 w A i j ms ws σ S W x z9 z10 k wr) (hs : Sto w A (Cf.of 1024) k' 5868 σ' W' S' w') (hf : Foot S S' wr w') (hm : MInv i' ms ws σ' x' W') (hx : x'.l.length ≤ 15) : MAt2 w A i' j ms ws σ' S' W' x' z9 z10 k' w' :=
  ⟨hs, hm, h.len, hx, own_growx h.r9 hf.grow (fun q e => h.n9 q e), own_growx h.r10 hf.grow (fun q e => h.n10 q e), fun q e hs => (hf.new q hs).elim (h.n9 q e) (fun h2 => by have := (h.r9.lt q e).2; omega), fun q e hs => (hf.new q hs).elim (h.n10 q e) (fun h2 => by have := (h.r10.lt q e).2; omega)⟩
theorem b1024 {b : Nat} (h : b ≤ 20000) : b + 2048 ≤ ((Cf.of 1024).n - 1) * 118 := by rw [cf1024]; show _ ≤ (256 - 1) * 118; omega
theorem Sto.app {W0 w wq : World} {A : Adr} {c : Cf} {σ : St} {S : Nat → Prop} {k b : Nat} {W : Nat → List UInt8} (h : Sto W0 A c k b σ W S w) (o : Obj) {z : Value} (hg : GrowX (fun b => z.ownBlock = some b) (w.alloc o) wq) (hz : ∀ q, z.ownBlock = some q → ¬ S q ∧ W0.heap.size ≤ q) : Sto W0 A c k b σ W S wq := by
  have h1 := h.below ((Below.refl w.heap.size w).alloc (Nat.le_refl _) o)
  exact h1.grow hg (fun q h2 h3 => (hz q h3).1 h2) (h1.bel.trans (hg.below (fun q hq => ⟨by have := h1.bel.size; omega, fun e => by have := (hz q e).2; omega⟩)))
set_option maxRecDepth 100000 in
set_option maxHeartbeats 12800000 in
theorem marks_any {w : World} (l : List Op7) (v : Value) (n : Nat) (hl : l.length = n ∧ ∀ x ∈ l, x.ok w) (hm : n ≤ 9223372036854775807) (hr : Reads 7 w v n (o7cells l)) (lb : List Bool) (vb : Value) (nb : Nat) (hlb : lb.length = nb) (hmb : nb ≤ 9223372036854775807) (hrb : Reads 1 w vb nb (lb.map Value.bool)) :
    Calls Tryz.prog 12 #[v, vb] w fun e w' => e = .returned (.bool true) ∧ Below w.heap.size w w' := by
  have HO := Lib.hid (lopen_any w w (Below.refl _ _) 1024 8 (by decide) (by decide) (by decide) (by decide))
  have HR := Lib.hid hr
  have HRB := Lib.hid hrb
  have HL := Lib.hid hl.1
  have HI := Lib.hid hl.2
  have HLB := Lib.hid hlb
  have hsh : ∃ ao cap, v = .slice ao n cap := by obtain ⟨ao, cap, e, _⟩ := hr; exact ⟨ao, cap, e⟩
  obtain ⟨ao, cap, hv⟩ := hsh
  have HV := Lib.hid hv
  have hshb : ∃ ao cap, vb = .slice ao nb cap := by obtain ⟨ao, cap, e, _⟩ := hrb; exact ⟨ao, cap, e⟩
  obtain ⟨aob, capb, hvb⟩ := hshb
  have HVB := Lib.hid hvb
  rw [hv, hvb]
  clear hr hrb hl hlb hv hvb
  go_enter Tryz.func12, Tryz.ntmps12
  go_wp2_with fail
  refine HO.out.mono ?_
  rintro e y1 ⟨A, S, rfl, hnf, hsv, hsd, hS, hbl⟩
  have hst : Sto w A (Cf.of 1024) 0 0 (St.new 1024 8) (fun _ => nz 504) S y1 := ⟨hsv, new_fine 1024 8 (by decide), by rw [hnf]; exact hsd, Cf.of_ok 1024 (by decide)⟩
  clear hnf
  have HB := Lib.hid (begin_st hst (by decide) (b1024 (by decide)))
  clear hsv hsd hS hbl hst HO
  go_wp2_with fail
  refine HB.out.mono ?_
  rintro e y2 ⟨σ2, S2, rfl, hst, hft, ho, hn, hli, ht⟩
  have ho2 : σ2.opn = [⟨1, 1, 1, []⟩] := ho
  have hli2 : σ2.lines = [(1, { Rc.zero with kind := 1, txn := 1 })] := hli
  have hnx : (St.new 1024 8).next = 1 := rfl
  rw [hnx]
  have hat : MAt w A 0 [] [] σ2 S2 (fun _ => nz 504) ⟨1, 1, 1, []⟩ (.slice none 0 0) (.slice none 0 0) 1 288 y2 :=
    ⟨hst, ⟨ho2, rfl, Nat.le_refl _, fun u hu => (by cases hu), rfl, fun q m hq => absurd hq (Nat.not_lt_zero _), fun q q' m m' _ hm => (by cases hm), fun m hm => (by cases hm)⟩, rfl, Nat.le_refl _, by rw [hli2]; exact ⟨_, List.mem_singleton.2 rfl, rfl, rfl⟩,
      ⟨rfl, .inl ⟨rfl, rfl⟩⟩, ⟨rfl, .inl ⟨rfl, rfl⟩⟩, fun q e => (by cases e), fun q e => (by cases e), fun q e => (by cases e)⟩
  have HAT := Lib.hid hat
  clear hst hft ho hn hli ht ho2 hli2 hat HB hnx
  go_wp2_with fail
  go_loopw [9, 10, 11, 12, 13, 14, 15, 16] (fun z9 z10 z11 z12 z13 z14 z15 z16 wr => ∃ (j : Nat) (ms : List Nat) (ws : List (List UInt8)) (σ : St) (S : Nat → Prop) (W : Nat → List UInt8) (x : Tx), j ≤ n ∧ j ≤ 15 ∧ z11 = .int .i64 (j : Nat) ∧ MAt w A j ms ws σ S W x z9 z10 (1 + 6 * j) (288 + 372 * j) wr) (fun _ _ z11 _ _ _ _ _ _ => 15 - (intOf z11).toNat)
  case atStart => exact ⟨0, [], [], σ2, S2, _, _, Nat.zero_le _, Nat.zero_le _, rfl, HAT.out⟩
  case round =>
    obtain ⟨j, ms, ws, σ, S, W, x, hjn, hj15, rfl, hat⟩ := hrel
    have HA := Lib.hid hat
    clear hat
    by_cases h1 : j < n ∧ j < 15
    · have b1 : decide ((j : Int) < (n : Int)) = true := by simpa using h1.1
      have b1n : decide (j < n) = true := by simpa using h1.1
      have b2 : decide ((j : Int) < 15) = true := by simp; omega
      have b2n : decide (j < 15) = true := by simpa using h1.2
      have hx0 : σ.opn[0]? = some x := by rw [HA.out.mi.op]; rfl
      have hsave := save_st HA.out.st (by omega) hx0
      rw [HA.out.mi.id] at hsave
      have HSA := Lib.hid hsave
      have HAR := Lib.hid (area_st HA.out.st 3 (by rw [cf1024]; decide) (by decide) (by omega))
      obtain ⟨ml, hml⟩ : ∃ q, x.last = q := ⟨_, rfl⟩
      have HML := Lib.hid hml
      rw [hml] at HSA
      obtain ⟨na, hna⟩ : ∃ q, areaB W 3 = q := ⟨_, rfl⟩
      have HNA := Lib.hid hna
      rw [hna] at HAR
      clear hx0 hsave hml hna
      go_wp2_with fail
      refine HSA.out.mono ?_
      rintro e y ⟨rfl, rfl⟩
      go_wp2_with fail
      refine HAR.out.mono ?_
      rintro e y3 ⟨σ3, S3, rfl, hst, hft, hlk⟩
      have HST := Lib.hid hst
      have HFT := Lib.hid hft
      have HLK := Lib.hid hlk
      clear hst hft hlk HAR HSA
      have HR9 := Lib.hid (own_growx HA.out.r9 HFT.out.grow (fun q e => HA.out.n9 q e))
      have HR10 := Lib.hid (own_growx HA.out.r10 HFT.out.grow (fun q e => HA.out.n10 q e))
      have HN3 : Hid (∀ q, (u9.ownBlock = some q ∨ u10.ownBlock = some q) → ¬ S3 q ∧ w.heap.size ≤ q ∧ q < y3.heap.size) := Lib.hid (fun q e => by
        have hlt : w.heap.size ≤ q ∧ q < y.heap.size := e.elim (fun e => HA.out.r9.lt q e) (fun e => HA.out.r10.lt q e)
        refine ⟨fun hs => (HFT.out.new q hs).elim (fun h => e.elim (fun e => HA.out.n9 q e h) (fun e => HA.out.n10 q e h)) (fun h => by omega), hlt.1, by have := HFT.out.grow.size; omega⟩)
      have hws : w.heap.size ≤ y3.heap.size := HST.out.bel.size
      have hMI := (HA.out.mi.push HA.out.li HA.out.len.symm).like HLK.out
      have HMI := Lib.hid hMI
      clear hMI
      obtain ⟨o7, ho7⟩ : ∃ q, l[j]? = some q := ⟨_, List.getElem?_eq_getElem (by rw [HL.out]; exact h1.1)⟩
      have hok := HI.out o7 (List.mem_of_getElem? ho7)
      have HOK := Lib.hid hok
      have HO7 := Lib.hid ho7
      obtain ⟨bb, oo, cc, hv2, hbb, hcl⟩ := Op7.at HR.out j h1.1 o7 ho7
      rw [HV.out] at hv2
      injection hv2 with e1 e2 e3
      subst e1 e3
      have HCL := Lib.hid hcl
      have HBB := Lib.hid hbb
      obtain ⟨dao, dcp, hvd, _⟩ := hok.rd
      have HVD := Lib.hid hvd
      clear hok ho7 hcl hvd e2
      go_upto_region 18 with (first
        | (at_builtin; refine wpList_append_any intsOf (.tmp 60) (.tmp 62) rfl rfl rfl (HR9.out.alloc _) rfl (Reads.lit rfl rfl (Nat.le_refl _) rfl) (by intro u hu; simp at hu; subst hu; rfl) (by omega) (by omega) (by simp; omega) ?_; intro ob9 cq9 wq9 ho9 hg9 hn9; have HO9 := Lib.hid ho9; have HG9 := Lib.hid hg9; have HN9 := Lib.hid hn9; have HT10 : Hid (wq9.ownsRow w.heap.size 9 1 u10 j (scells' ws)) := Lib.hid (own_growx (HR10.out.alloc _) hg9 (fun q e1 e2 => HA.out.n90 q e2 e1)); have hws9 : w.heap.size ≤ wq9.heap.size := Nat.le_trans (by simp; omega) hg9.size; clear ho9 hg9 hn9)
        | (at_builtin; refine wpList_append_any strsOf (.tmp 64) (.tmp 66) rfl rfl rfl (HT10.out.alloc _) rfl (Reads.lit rfl rfl (Nat.le_refl _) rfl) (by intro u hu; simp at hu; subst hu; rfl) (by omega) (by omega) (by simp; omega) ?_; intro ob10 cq10 wq10 ho10 hg10 hn10; have HO10 := Lib.hid ho10; have HG10 := Lib.hid hg10; have HN10 := Lib.hid hn10; clear ho10 hg10 hn10))
      have hsq9 := HST.out.app _ HG9.out (fun q e => ⟨(HN3.out q (.inl e)).1, (HN3.out q (.inl e)).2.1⟩)
      have hsq := hsq9.app _ HG10.out (fun q e => ⟨(HN3.out q (.inr e)).1, (HN3.out q (.inr e)).2.1⟩)
      have HSQ := Lib.hid hsq
      have hbw : Below w.heap.size w wq10 := hsq.bel
      have k2 : wq10.cell? ⟨bb, oo + j * 7 + 2, none⟩ = some (.int .i64 o7.p) := (hbw.cell (p := ⟨bb, oo + j * 7 + 2, none⟩) HBB.out).trans (HCL.out 2 _ rfl)
      have k3 : wq10.cell? ⟨bb, oo + j * 7 + 3, none⟩ = some (.int .i64 o7.off) := (hbw.cell (p := ⟨bb, oo + j * 7 + 3, none⟩) HBB.out).trans (HCL.out 3 _ rfl)
      have k6 : wq10.cell? ⟨bb, oo + j * 7 + 6, none⟩ = some (.slice dao o7.bs.length dcp) := by rw [← HVD.out]; exact (hbw.cell (p := ⟨bb, oo + j * 7 + 6, none⟩) HBB.out).trans (HCL.out 6 _ rfl)
      have kbb : bb < wq10.heap.size := Nat.lt_of_lt_of_le HBB.out hbw.size
      clear hsq9 hsq hbw
      obtain ⟨nd, hnd⟩ : ∃ q, o7.bs.length = q := ⟨_, rfl⟩
      have HND := Lib.hid hnd
      rw [hnd] at k6
      have hndl : nd ≤ 9223372036854775807 := by rw [← hnd]; exact HOK.out.le
      clear hnd
      have hdc : nd ≤ dcp := by
        obtain ⟨_, _, e1, _, e3, _⟩ := HOK.out.rd
        rw [HVD.out] at e1
        injection e1 with _ _ e4
        have := HND.out
        omega
      obtain ⟨pp, hpp3, hpp⟩ := mod3 o7.p
      obtain ⟨of, hof255, hof⟩ := and255 o7.off
      by_cases h60 : 60 < nd
      · have b6 : decide ((nd : Int) > 60) = true := by simp; omega
        have b6n : decide (60 < nd) = true := by simpa using h60
        have hdc60 : 60 ≤ dcp := by omega
        have hdc0 : ¬ dcp = 0 := by omega
        obtain ⟨bx, hbx⟩ : ∃ q, o7.bs.take 60 = q := ⟨_, rfl⟩
        have HRX : Hid (Reads 1 w (.slice dao 60 dcp) 60 (bx.map B)) := Lib.hid (by
          have h5 := HOK.out.rd
          rw [HVD.out] at h5
          rw [← hbx]
          exact Reads.cut60 h5 (by have := HND.out; omega))
        have HBX : Hid (bx.length = 60) := Lib.hid (by rw [← hbx, List.length_take]; have := HND.out; omega)
        clear hbx
        go_upto_region 21 with (fail)
        clear k6 b6 b6n hndl hdc
        have hB : Below wq10.heap.size wq10 wq10 := Below.refl _ _
        refine wp_region_partsDC (WSMk21 A bb oo cap j n pp of 60 dcp dao o7.p o7.off) 17 bSMk21 [some 78, some 79, some 80, some 81, some 82, some 83, some 84, some 85, some 86, some 87, some 88, some 89, some 90, some 91, some 92, some 93, some 94, some 95, some 96] (by kernel_rfl) (by kernel_rfl) rfl (PSMk21 A bb oo cap j n pp of 60 dcp dao o7.p o7.off) (PSMk21_stable A bb oo cap j n pp of 60 dcp dao o7.p o7.off ) ?pSMk21 ?_
        case pSMk21 =>
          intro i hi o ho vs lo hx_ w' hg hp
          match i, hi with
          | 0, _ | 1, _ | 2, _ | 3, _ | 10, _ | 11, _ | 16, _ =>
            obtain rfl := Option.some.inj ho
            clear ho
            simp only [actsD, Act.put, actL]
            have hsz := hg.size
            go_wp2
            exact ⟨_, rfl, GrowC.refl _, rfl⟩
          | 4, _ =>
            obtain rfl := Option.some.inj ho
            clear ho
            simp only [actsD, Act.put, actL]
            obtain ⟨_, _, _, h2⟩ := hp 2 (by simp)
            simp only [PSMk21] at h2
            obtain ⟨_, _, _, h3⟩ := hp 3 (by simp)
            simp only [PSMk21] at h3
            have hsz := hg.size
            rw [h2, h3]
            go_wp2
            exact ⟨_, rfl, GrowC.refl _, rfl⟩
          | 5, _ =>
            obtain rfl := Option.some.inj ho
            clear ho
            simp only [actsD, Act.put, actL]
            obtain ⟨_, _, _, h4⟩ := hp 4 (by simp)
            simp only [PSMk21] at h4
            have hsz := hg.size
            rw [h4]
            go_wp2
            exact ⟨_, rfl, GrowC.refl _, rfl⟩
          | 6, _ =>
            obtain rfl := Option.some.inj ho
            clear ho
            simp only [actsD, Act.put, actL]
            obtain ⟨_, _, _, h5⟩ := hp 5 (by simp)
            simp only [PSMk21] at h5
            have hsz := hg.size
            rw [h5]
            have e0 := (hg.cell _ _ kbb (by rintro ⟨j, _, hne, hb, hw⟩; exact hw)).trans k2
            go_wp2
            exact ⟨_, rfl, GrowC.refl _, rfl⟩
          | 7, _ =>
            obtain rfl := Option.some.inj ho
            clear ho
            simp only [actsD, Act.put, actL]
            obtain ⟨_, _, _, h6⟩ := hp 6 (by simp)
            simp only [PSMk21] at h6
            have hsz := hg.size
            rw [h6]
            go_wp2
            exact ⟨_, rfl, GrowC.refl _, rfl⟩
          | 8, _ =>
            obtain rfl := Option.some.inj ho
            clear ho
            simp only [actsD, Act.put, actL]
            obtain ⟨_, _, _, h7⟩ := hp 7 (by simp)
            simp only [PSMk21] at h7
            have hsz := hg.size
            rw [h7]
            go_wp2
            exact ⟨_, rfl, GrowC.refl _, rfl⟩
          | 9, _ =>
            obtain rfl := Option.some.inj ho
            clear ho
            simp only [actsD, Act.put, actL]
            obtain ⟨_, _, _, h8⟩ := hp 8 (by simp)
            simp only [PSMk21] at h8
            have hsz := hg.size
            rw [h8]
            go_wp2
            exact ⟨_, rfl, GrowC.refl _, by show Value.int .i64 _ = Value.int .i64 _; first | rfl | rw [hpp]⟩
          | 12, _ =>
            obtain rfl := Option.some.inj ho
            clear ho
            simp only [actsD, Act.put, actL]
            obtain ⟨_, _, _, h10⟩ := hp 10 (by simp)
            simp only [PSMk21] at h10
            obtain ⟨_, _, _, h11⟩ := hp 11 (by simp)
            simp only [PSMk21] at h11
            have hsz := hg.size
            rw [h10, h11]
            go_wp2
            exact ⟨_, rfl, GrowC.refl _, rfl⟩
          | 13, _ =>
            obtain rfl := Option.some.inj ho
            clear ho
            simp only [actsD, Act.put, actL]
            obtain ⟨_, _, _, h12⟩ := hp 12 (by simp)
            simp only [PSMk21] at h12
            have hsz := hg.size
            rw [h12]
            go_wp2
            exact ⟨_, rfl, GrowC.refl _, rfl⟩
          | 14, _ =>
            obtain rfl := Option.some.inj ho
            clear ho
            simp only [actsD, Act.put, actL]
            obtain ⟨_, _, _, h13⟩ := hp 13 (by simp)
            simp only [PSMk21] at h13
            have hsz := hg.size
            rw [h13]
            have e0 := (hg.cell _ _ kbb (by rintro ⟨j, _, hne, hb, hw⟩; exact hw)).trans k3
            go_wp2
            exact ⟨_, rfl, GrowC.refl _, rfl⟩
          | 15, _ =>
            obtain rfl := Option.some.inj ho
            clear ho
            simp only [actsD, Act.put, actL]
            obtain ⟨_, _, _, h14⟩ := hp 14 (by simp)
            simp only [PSMk21] at h14
            have hsz := hg.size
            rw [h14]
            go_wp2
            exact ⟨_, rfl, GrowC.refl _, by show Value.int .i64 _ = Value.int .i64 _; first | rfl | rw [hof]⟩
          | (q + 17), hq => exact absurd hq (by omega)
        intro vS lo hi z21 hg hp hd
        obtain ⟨_, _, _, h0⟩ := hp 0 (by decide)
        obtain ⟨_, _, _, h1⟩ := hp 1 (by decide)
        obtain ⟨_, _, _, h2⟩ := hp 2 (by decide)
        obtain ⟨_, _, _, h3⟩ := hp 3 (by decide)
        obtain ⟨_, _, _, h4⟩ := hp 4 (by decide)
        obtain ⟨_, _, _, h5⟩ := hp 5 (by decide)
        obtain ⟨_, _, _, h6⟩ := hp 6 (by decide)
        obtain ⟨_, _, _, h7⟩ := hp 7 (by decide)
        obtain ⟨_, _, _, h8⟩ := hp 8 (by decide)
        obtain ⟨_, _, _, h9⟩ := hp 9 (by decide)
        obtain ⟨_, _, _, h10⟩ := hp 10 (by decide)
        obtain ⟨_, _, _, h11⟩ := hp 11 (by decide)
        obtain ⟨_, _, _, h12⟩ := hp 12 (by decide)
        obtain ⟨_, _, _, h13⟩ := hp 13 (by decide)
        obtain ⟨_, _, _, h14⟩ := hp 14 (by decide)
        obtain ⟨_, _, _, h15⟩ := hp 15 (by decide)
        obtain ⟨_, _, _, h16⟩ := hp 16 (by decide)
        simp only [PSMk21] at h0 h1 h2 h3 h4 h5 h6 h7 h8 h9 h10 h11 h12 h13 h14 h15 h16
        clear hp hd
        have hsz := hg.size
        replace hB := hB.trans (hg.below (fun k hk => ⟨by omega, fun o => by rintro ⟨j, _, hw⟩; exact False.elim hw⟩))
        have hr : List.range 17 = [0, 1, 2, 3, 4, 5, 6, 7, 8, 9, 10, 11, 12, 13, 14, 15, 16] := rfl
        rw [hr]
        clear hr
        simp only [List.drop_succ_cons, List.drop_zero, List.drop_nil, actsD, Act.put, actL, h0, h1, h2, h3, h4, h5, h6, h7, h8, h9, h10, h11, h12, h13, h14, h15, h16]
        clear h0 h1 h2 h3 h4 h5 h6 h7 h8 h9 h10 h11 h12 h13 h14 h15 h16
        have hsz21 := HSQ.out.below (hB)
        have hpg3 : pp < (Cf.of 1024).pg := by rw [cf1024]; show pp < 190; omega
        have hwr := write_arg_st hsz21 (by omega) (x := x) (HLK.out.opn.trans HA.out.mi.op) pp of bx (.slice dao 60 dcp) (by rw [HBX.out]; exact HRX.out) hpg3 (by rw [HBX.out]; omega) (b1024 (by rw [HBX.out]; omega))
        rw [show ((x.id : Nat) : Int) = ((1 : Nat) : Int) by rw [HA.out.mi.id]] at hwr
        have HW := Lib.hid hwr
        have HPG3 := Lib.hid hpg3
        have HZ := Lib.hid hB
        clear hwr hpg3 hsz21 hB hg hsz k2 k3
        go_wp2_with fail
        refine HW.out.mono ?_
        rintro e y5 ⟨σ5, S5, rfl, h5, h6, h7, h8⟩
        have H5 := Lib.hid h5
        have H6 := Lib.hid h6
        have H8 := Lib.hid h8
        clear h5 h6 h7 h8 HW
        go_wp2_with fail
        go_roundw
        · have hml2 := HML.out
          have hna2 := HNA.out
          have htl := (HSQ.out.fine.tx_at (i := 0) (x := x) (by rw [HLK.out.opn, HA.out.mi.op]; rfl)).last
          obtain ⟨x5, m1, m2, m3⟩ := HMI.out.write (by rw [HLK.out.lines]; exact HA.out.li) htl pp of bx (by rw [HSQ.out.std.len HPG3.out, HBX.out]; omega) H8.out
          rw [hml2, hna2] at m1
          have hgz : GrowX (fun _ => False) wq10 z21 := grow_below HZ.out
          have hq9 : ∀ q, (Value.slice ob9 (j + 1) cq9).ownBlock = some q → ¬ S3 q ∧ w.heap.size ≤ q ∧ q < wq10.heap.size := fun q e => by
            have h10 := HG10.out.size
            rw [alloc_sz] at h10
            have hlt := (HO9.out.lt q e).2
            rcases HN9.out q e with h | h
            · have := HN3.out q (.inl h); have h9 := HG9.out.size; rw [alloc_sz] at h9; exact ⟨this.1, this.2.1, by omega⟩
            · rw [alloc_sz] at h; exact ⟨fun hs => by have := (HST.out.lt q hs).2; omega, by omega, by omega⟩
          have hq10 : ∀ q, (Value.slice ob10 (j + 1) cq10).ownBlock = some q → ¬ S3 q ∧ w.heap.size ≤ q ∧ q < wq10.heap.size := fun q e => by
            have hlt := (HO10.out.lt q e).2
            rcases HN10.out q e with h | h
            · have := HN3.out q (.inr h); exact ⟨this.1, this.2.1, hlt⟩
            · have h9 := HG9.out.size; rw [alloc_sz] at h9 h; exact ⟨fun hs => by have := (HST.out.lt q hs).2; omega, by omega, hlt⟩
          have hq90 : ∀ q, (Value.slice ob9 (j + 1) cq9).ownBlock = some q → ¬ (Value.slice ob10 (j + 1) cq10).ownBlock = some q := fun q e1 e2 => by
            have hlt := (HO9.out.lt q e1).2
            rcases HN10.out q e2 with h | h
            · rcases HN9.out q e1 with h3 | h3
              · exact HA.out.n90 q h3 h
              · have := (HN3.out q (.inr h)).2.2; rw [alloc_sz] at h3; omega
            · rw [alloc_sz] at h; omega
          have r9a := own_growx (HO9.out.alloc _) HG10.out (fun q e1 e2 => (HN9.out q e1).elim (fun h => HA.out.n90 q h e2) (fun h => by have := (HN3.out q (.inr e2)).2.2; rw [alloc_sz] at h; omega))
          have r9b := own_growx (own_growx r9a hgz (fun _ _ h => h)) H6.out.grow (fun q e => (hq9 q e).1)
          have r10b := own_growx (own_growx HO10.out hgz (fun _ _ h => h)) H6.out.grow (fun q e => (hq10 q e).1)
          have hzs := HZ.out.size
          refine ⟨j + 1, ms ++ [ml], ws ++ [na], σ5, S5, _, x5, by omega, by omega, by go_num, ⟨H5.out.le (by omega) (by rw [HBX.out]; omega) (b1024 (by omega)), m1, by rw [List.length_append, HA.out.len]; rfl, by have := HA.out.xl; omega, m3, ?_, ?_, fun q e hs => ?_, fun q e hs => ?_, hq90⟩⟩
          · unfold mcells; rw [List.map_append]; exact r9b
          · unfold scells'; rw [List.map_append]; exact r10b
          · exact (H6.out.new q hs).elim (hq9 q e).1 (fun h => by have := (hq9 q e).2.2; omega)
          · exact (H6.out.new q hs).elim (hq10 q e).1 (fun h => by have := (hq10 q e).2.2; omega)
        · simp [intOf]; omega
      · have b6 : decide ((nd : Int) > 60) = false := by simp; omega
        have b6n : decide (60 < nd) = false := by simpa using h60
        have HRX : Hid (Reads 1 w (.slice dao nd dcp) nd (o7.bs.map B)) := Lib.hid (by
          have h5 := HOK.out.rd
          rw [HVD.out, HND.out] at h5
          exact h5)
        have HBX : Hid (o7.bs.length = nd) := Lib.hid HND.out
        obtain ⟨bx, hbx⟩ : ∃ q, o7.bs = q := ⟨_, rfl⟩
        rw [hbx] at HRX HBX
        clear hbx
        have hn60 : nd ≤ 60 := by omega
        go_upto_region 21 with (fail)
        clear k6 b6 b6n hndl hdc
        have hB : Below wq10.heap.size wq10 wq10 := Below.refl _ _
        refine wp_region_partsDC (WSMk21 A bb oo cap j n pp of nd dcp dao o7.p o7.off) 17 bSMk21 [some 78, some 79, some 80, some 81, some 82, some 83, some 84, some 85, some 86, some 87, some 88, some 89, some 90, some 91, some 92, some 93, some 94, some 95, some 96] (by kernel_rfl) (by kernel_rfl) rfl (PSMk21 A bb oo cap j n pp of nd dcp dao o7.p o7.off) (PSMk21_stable A bb oo cap j n pp of nd dcp dao o7.p o7.off ) ?pSMk21 ?_
        case pSMk21 =>
          intro i hi o ho vs lo hx_ w' hg hp
          match i, hi with
          | 0, _ | 1, _ | 2, _ | 3, _ | 10, _ | 11, _ | 16, _ =>
            obtain rfl := Option.some.inj ho
            clear ho
            simp only [actsD, Act.put, actL]
            have hsz := hg.size
            go_wp2
            exact ⟨_, rfl, GrowC.refl _, rfl⟩
          | 4, _ =>
            obtain rfl := Option.some.inj ho
            clear ho
            simp only [actsD, Act.put, actL]
            obtain ⟨_, _, _, h2⟩ := hp 2 (by simp)
            simp only [PSMk21] at h2
            obtain ⟨_, _, _, h3⟩ := hp 3 (by simp)
            simp only [PSMk21] at h3
            have hsz := hg.size
            rw [h2, h3]
            go_wp2
            exact ⟨_, rfl, GrowC.refl _, rfl⟩
          | 5, _ =>
            obtain rfl := Option.some.inj ho
            clear ho
            simp only [actsD, Act.put, actL]
            obtain ⟨_, _, _, h4⟩ := hp 4 (by simp)
            simp only [PSMk21] at h4
            have hsz := hg.size
            rw [h4]
            go_wp2
            exact ⟨_, rfl, GrowC.refl _, rfl⟩
          | 6, _ =>
            obtain rfl := Option.some.inj ho
            clear ho
            simp only [actsD, Act.put, actL]
            obtain ⟨_, _, _, h5⟩ := hp 5 (by simp)
            simp only [PSMk21] at h5
            have hsz := hg.size
            rw [h5]
            have e0 := (hg.cell _ _ kbb (by rintro ⟨j, _, hne, hb, hw⟩; exact hw)).trans k2
            go_wp2
            exact ⟨_, rfl, GrowC.refl _, rfl⟩
          | 7, _ =>
            obtain rfl := Option.some.inj ho
            clear ho
            simp only [actsD, Act.put, actL]
            obtain ⟨_, _, _, h6⟩ := hp 6 (by simp)
            simp only [PSMk21] at h6
            have hsz := hg.size
            rw [h6]
            go_wp2
            exact ⟨_, rfl, GrowC.refl _, rfl⟩
          | 8, _ =>
            obtain rfl := Option.some.inj ho
            clear ho
            simp only [actsD, Act.put, actL]
            obtain ⟨_, _, _, h7⟩ := hp 7 (by simp)
            simp only [PSMk21] at h7
            have hsz := hg.size
            rw [h7]
            go_wp2
            exact ⟨_, rfl, GrowC.refl _, rfl⟩
          | 9, _ =>
            obtain rfl := Option.some.inj ho
            clear ho
            simp only [actsD, Act.put, actL]
            obtain ⟨_, _, _, h8⟩ := hp 8 (by simp)
            simp only [PSMk21] at h8
            have hsz := hg.size
            rw [h8]
            go_wp2
            exact ⟨_, rfl, GrowC.refl _, by show Value.int .i64 _ = Value.int .i64 _; first | rfl | rw [hpp]⟩
          | 12, _ =>
            obtain rfl := Option.some.inj ho
            clear ho
            simp only [actsD, Act.put, actL]
            obtain ⟨_, _, _, h10⟩ := hp 10 (by simp)
            simp only [PSMk21] at h10
            obtain ⟨_, _, _, h11⟩ := hp 11 (by simp)
            simp only [PSMk21] at h11
            have hsz := hg.size
            rw [h10, h11]
            go_wp2
            exact ⟨_, rfl, GrowC.refl _, rfl⟩
          | 13, _ =>
            obtain rfl := Option.some.inj ho
            clear ho
            simp only [actsD, Act.put, actL]
            obtain ⟨_, _, _, h12⟩ := hp 12 (by simp)
            simp only [PSMk21] at h12
            have hsz := hg.size
            rw [h12]
            go_wp2
            exact ⟨_, rfl, GrowC.refl _, rfl⟩
          | 14, _ =>
            obtain rfl := Option.some.inj ho
            clear ho
            simp only [actsD, Act.put, actL]
            obtain ⟨_, _, _, h13⟩ := hp 13 (by simp)
            simp only [PSMk21] at h13
            have hsz := hg.size
            rw [h13]
            have e0 := (hg.cell _ _ kbb (by rintro ⟨j, _, hne, hb, hw⟩; exact hw)).trans k3
            go_wp2
            exact ⟨_, rfl, GrowC.refl _, rfl⟩
          | 15, _ =>
            obtain rfl := Option.some.inj ho
            clear ho
            simp only [actsD, Act.put, actL]
            obtain ⟨_, _, _, h14⟩ := hp 14 (by simp)
            simp only [PSMk21] at h14
            have hsz := hg.size
            rw [h14]
            go_wp2
            exact ⟨_, rfl, GrowC.refl _, by show Value.int .i64 _ = Value.int .i64 _; first | rfl | rw [hof]⟩
          | (q + 17), hq => exact absurd hq (by omega)
        intro vS lo hi z21 hg hp hd
        obtain ⟨_, _, _, h0⟩ := hp 0 (by decide)
        obtain ⟨_, _, _, h1⟩ := hp 1 (by decide)
        obtain ⟨_, _, _, h2⟩ := hp 2 (by decide)
        obtain ⟨_, _, _, h3⟩ := hp 3 (by decide)
        obtain ⟨_, _, _, h4⟩ := hp 4 (by decide)
        obtain ⟨_, _, _, h5⟩ := hp 5 (by decide)
        obtain ⟨_, _, _, h6⟩ := hp 6 (by decide)
        obtain ⟨_, _, _, h7⟩ := hp 7 (by decide)
        obtain ⟨_, _, _, h8⟩ := hp 8 (by decide)
        obtain ⟨_, _, _, h9⟩ := hp 9 (by decide)
        obtain ⟨_, _, _, h10⟩ := hp 10 (by decide)
        obtain ⟨_, _, _, h11⟩ := hp 11 (by decide)
        obtain ⟨_, _, _, h12⟩ := hp 12 (by decide)
        obtain ⟨_, _, _, h13⟩ := hp 13 (by decide)
        obtain ⟨_, _, _, h14⟩ := hp 14 (by decide)
        obtain ⟨_, _, _, h15⟩ := hp 15 (by decide)
        obtain ⟨_, _, _, h16⟩ := hp 16 (by decide)
        simp only [PSMk21] at h0 h1 h2 h3 h4 h5 h6 h7 h8 h9 h10 h11 h12 h13 h14 h15 h16
        clear hp hd
        have hsz := hg.size
        replace hB := hB.trans (hg.below (fun k hk => ⟨by omega, fun o => by rintro ⟨j, _, hw⟩; exact False.elim hw⟩))
        have hr : List.range 17 = [0, 1, 2, 3, 4, 5, 6, 7, 8, 9, 10, 11, 12, 13, 14, 15, 16] := rfl
        rw [hr]
        clear hr
        simp only [List.drop_succ_cons, List.drop_zero, List.drop_nil, actsD, Act.put, actL, h0, h1, h2, h3, h4, h5, h6, h7, h8, h9, h10, h11, h12, h13, h14, h15, h16]
        clear h0 h1 h2 h3 h4 h5 h6 h7 h8 h9 h10 h11 h12 h13 h14 h15 h16
        have hsz21 := HSQ.out.below (hB)
        have hpg3 : pp < (Cf.of 1024).pg := by rw [cf1024]; show pp < 190; omega
        have hwr := write_arg_st hsz21 (by omega) (x := x) (HLK.out.opn.trans HA.out.mi.op) pp of bx (.slice dao nd dcp) (by rw [HBX.out]; exact HRX.out) hpg3 (by rw [HBX.out]; omega) (b1024 (by rw [HBX.out]; omega))
        rw [show ((x.id : Nat) : Int) = ((1 : Nat) : Int) by rw [HA.out.mi.id]] at hwr
        have HW := Lib.hid hwr
        have HPG3 := Lib.hid hpg3
        have HZ := Lib.hid hB
        clear hwr hpg3 hsz21 hB hg hsz k2 k3
        go_wp2_with fail
        refine HW.out.mono ?_
        rintro e y5 ⟨σ5, S5, rfl, h5, h6, h7, h8⟩
        have H5 := Lib.hid h5
        have H6 := Lib.hid h6
        have H8 := Lib.hid h8
        clear h5 h6 h7 h8 HW
        go_wp2_with fail
        go_roundw
        · have hml2 := HML.out
          have hna2 := HNA.out
          have htl := (HSQ.out.fine.tx_at (i := 0) (x := x) (by rw [HLK.out.opn, HA.out.mi.op]; rfl)).last
          obtain ⟨x5, m1, m2, m3⟩ := HMI.out.write (by rw [HLK.out.lines]; exact HA.out.li) htl pp of bx (by rw [HSQ.out.std.len HPG3.out, HBX.out]; omega) H8.out
          rw [hml2, hna2] at m1
          have hgz : GrowX (fun _ => False) wq10 z21 := grow_below HZ.out
          have hq9 : ∀ q, (Value.slice ob9 (j + 1) cq9).ownBlock = some q → ¬ S3 q ∧ w.heap.size ≤ q ∧ q < wq10.heap.size := fun q e => by
            have h10 := HG10.out.size
            rw [alloc_sz] at h10
            have hlt := (HO9.out.lt q e).2
            rcases HN9.out q e with h | h
            · have := HN3.out q (.inl h); have h9 := HG9.out.size; rw [alloc_sz] at h9; exact ⟨this.1, this.2.1, by omega⟩
            · rw [alloc_sz] at h; exact ⟨fun hs => by have := (HST.out.lt q hs).2; omega, by omega, by omega⟩
          have hq10 : ∀ q, (Value.slice ob10 (j + 1) cq10).ownBlock = some q → ¬ S3 q ∧ w.heap.size ≤ q ∧ q < wq10.heap.size := fun q e => by
            have hlt := (HO10.out.lt q e).2
            rcases HN10.out q e with h | h
            · have := HN3.out q (.inr h); exact ⟨this.1, this.2.1, hlt⟩
            · have h9 := HG9.out.size; rw [alloc_sz] at h9 h; exact ⟨fun hs => by have := (HST.out.lt q hs).2; omega, by omega, hlt⟩
          have hq90 : ∀ q, (Value.slice ob9 (j + 1) cq9).ownBlock = some q → ¬ (Value.slice ob10 (j + 1) cq10).ownBlock = some q := fun q e1 e2 => by
            have hlt := (HO9.out.lt q e1).2
            rcases HN10.out q e2 with h | h
            · rcases HN9.out q e1 with h3 | h3
              · exact HA.out.n90 q h3 h
              · have := (HN3.out q (.inr h)).2.2; rw [alloc_sz] at h3; omega
            · rw [alloc_sz] at h; omega
          have r9a := own_growx (HO9.out.alloc _) HG10.out (fun q e1 e2 => (HN9.out q e1).elim (fun h => HA.out.n90 q h e2) (fun h => by have := (HN3.out q (.inr e2)).2.2; rw [alloc_sz] at h; omega))
          have r9b := own_growx (own_growx r9a hgz (fun _ _ h => h)) H6.out.grow (fun q e => (hq9 q e).1)
          have r10b := own_growx (own_growx HO10.out hgz (fun _ _ h => h)) H6.out.grow (fun q e => (hq10 q e).1)
          have hzs := HZ.out.size
          refine ⟨j + 1, ms ++ [ml], ws ++ [na], σ5, S5, _, x5, by omega, by omega, by go_num, ⟨H5.out.le (by omega) (by rw [HBX.out]; omega) (b1024 (by omega)), m1, by rw [List.length_append, HA.out.len]; rfl, by have := HA.out.xl; omega, m3, ?_, ?_, fun q e hs => ?_, fun q e hs => ?_, hq90⟩⟩
          · unfold mcells; rw [List.map_append]; exact r9b
          · unfold scells'; rw [List.map_append]; exact r10b
          · exact (H6.out.new q hs).elim (hq9 q e).1 (fun h => by have := (hq9 q e).2.2; omega)
          · exact (H6.out.new q hs).elim (hq10 q e).1 (fun h => by have := (hq10 q e).2.2; omega)
        · simp [intOf]; omega
    · have hat2 : MAt2 w A j j ms ws σ S W x u9 u10 100 wr := ⟨HA.out.st.le (by omega) (by omega) (b1024 (by decide)), HA.out.mi, HA.out.len, Nat.le_trans HA.out.xl hj15, HA.out.r9, HA.out.r10, HA.out.n9, HA.out.n10⟩
      obtain ⟨o9, c9, e9⟩ := own_shape HA.out.r9
      obtain ⟨o10, c10, e10⟩ := own_shape HA.out.r10
      have HA2 := Lib.hid hat2
      rw [e9, e10] at HA2
      subst e9 e10
      clear hat2 HA
      have hjm : (j : Int) - 1 ≤ 14 := by omega
      by_cases hjn2 : j < n
      · have hj2 : j = 15 := by omega
        have b1 : decide ((j : Int) < (n : Int)) = true := by simpa using hjn2
        have b1n : decide (j < n) = true := by simpa using hjn2
        have b2 : decide ((j : Int) < 15) = false := by simp; omega
        have b2n : decide (j < 15) = false := by simp; omega
        clear hj2
        go_wp2_with fail
        go_loopw [17, 18, 19] (fun z17 z18 z19 w2 => ∃ (i k : Nat) (σ : St) (S : Nat → Prop) (W : Nat → List UInt8) (x : Tx), i ≤ j ∧ k ≤ 100 + 60 * (15 - i) ∧ z17 = .int .i64 ((i : Int) - 1) ∧ MAt2 w A i j ms ws σ S W x (.slice o9 j c9) (.slice o10 j c10) k w2) (fun z17 _ _ _ => (intOf z17 + 1).toNat)
        case atStart => exact ⟨j, 100, σ, S, W, x, Nat.le_refl _, by omega, rfl, HA2.out⟩
        case round =>
          obtain ⟨i, k, σ, S, W, x, hij, hk, rfl, hat⟩ := hrel
          have HA := Lib.hid hat
          clear hat
          cases i with
          | zero =>
            have ez : ((0 : Nat) : Int) - 1 = -1 := by decide
            rw [ez]
            have hx0 : σ.opn[0]? = some x := by rw [HA.out.mi.op]; rfl
            have hcm := commit_st HA.out.st (by omega) hx0 (b1024 (by decide))
            rw [show ((x.id : Nat) : Int) = ((1 : Nat) : Int) by rw [HA.out.mi.id]] at hcm
            have HCM := Lib.hid hcm
            clear hcm hx0 ez
            go_wp2_with fail
            refine HCM.out.mono ?_
            rintro e y5 ⟨σ5, S5, rfl, h5, _⟩
            have HB5 := Lib.hid h5.bel
            clear h5 HCM
            go_wp2_with fail
            refine (awake7_any _).mono ?_
            rintro e y6 ⟨rfl, hb6⟩
            have HB6 := Lib.hid hb6
            clear hb6
            go_wp2_with fail
            go_ret
            exact ⟨rfl, HB5.out.trans (HB6.out.mono HB5.out.size)⟩
          | succ i =>
            have ei : ((i + 1 : Nat) : Int) - 1 = (i : Int) := by omega
            rw [ei]
            clear ei
            have c1 : decide ((i : Int) ≥ 0) = true := by simp
            by_cases hsk : i < nb ∧ lb.getD i false = true
            · have hb1 : decide ((i : Int) < (nb : Int)) = true := by simp; omega
              have hb2 : decide (i < nb) = true := by simpa using hsk.1
              have hcb : ∃ bb o, aob = some ⟨bb, o, none⟩ ∧ bb < wr.heap.size ∧ wr.cell? ⟨bb, o + i, none⟩ = some (.bool true) := by
                obtain ⟨ao', c', e1, e2, e3, e4⟩ := HRB.out.below HA.out.st.bel (Nat.le_refl _)
                rw [HVB.out] at e1
                injection e1 with e1
                subst e1
                obtain ⟨bb, o, e5, e6, e7⟩ := e4 (by omega)
                refine ⟨bb, o, e5, e6, e7 i _ ?_⟩
                rw [List.getElem?_map, List.getElem?_eq_getElem (by rw [HLB.out]; exact hsk.1)]
                have h8 := hsk.2
                rw [List.getD_eq_getElem?_getD, List.getElem?_eq_getElem (by rw [HLB.out]; exact hsk.1)] at h8
                simp only [Option.getD_some] at h8
                rw [h8]; rfl
              obtain ⟨bb, o, rfl, hbb, hcc⟩ := hcb
              go_wp2_with fail
              go_roundw
              · exact ⟨i, k, σ, S, W, x, by omega, by omega, rfl, HA.out.step HA.out.st (Foot.below (GrowX.refl _)) (HA.out.mi.less (by omega)) HA.out.xl⟩
              · simp [intOf] <;> omega
            · have hcb : (decide (i < nb) = false ∧ decide ((i : Int) < (nb : Int)) = false) ∨ (i < nb ∧ decide (i < nb) = true ∧ decide ((i : Int) < (nb : Int)) = true ∧ ∃ bb o, aob = some ⟨bb, o, none⟩ ∧ bb < wr.heap.size ∧ wr.cell? ⟨bb, o + i, none⟩ = some (.bool false)) := by
                by_cases hin : i < nb
                · right
                  refine ⟨hin, by simpa using hin, by simp; omega, ?_⟩
                  obtain ⟨ao', c', e1, e2, e3, e4⟩ := HRB.out.below HA.out.st.bel (Nat.le_refl _)
                  rw [HVB.out] at e1
                  injection e1 with e1
                  subst e1
                  obtain ⟨bb, o, e5, e6, e7⟩ := e4 (by omega)
                  refine ⟨bb, o, e5, e6, e7 i _ ?_⟩
                  rw [List.getElem?_map, List.getElem?_eq_getElem (by rw [HLB.out]; exact hin)]
                  have h8 : ¬ lb.getD i false = true := fun h => hsk ⟨hin, h⟩
                  rw [List.getD_eq_getElem?_getD, List.getElem?_eq_getElem (by rw [HLB.out]; exact hin)] at h8
                  simp only [Option.getD_some, Bool.not_eq_true] at h8
                  rw [h8]; rfl
                · left
                  exact ⟨by simpa using hin, by simp; omega⟩
              have hil : i < ms.length := by rw [HA.out.len]; omega
              obtain ⟨m, hm⟩ : ∃ m, ms[i]? = some m := ⟨_, List.getElem?_eq_getElem hil⟩
              obtain ⟨g9, q9, e9, _⟩ := own_slice HA.out.r9 (by omega)
              injection e9 with e9 _ e9c
              subst e9 e9c
              have k9 : wr.cell? ⟨g9, i, none⟩ = some (.int .i64 (m : Nat)) := own_at HA.out.r9 i _ (by unfold mcells; rw [List.getElem?_map, hm]; rfl)
              have kl9 := (HA.out.r9.lt g9 rfl).2
              have hx0 : σ.opn[0]? = some x := by rw [HA.out.mi.op]; rfl
              obtain ⟨m1, m2, m3, m4⟩ := HA.out.mi.inv i m (by omega) hm
              have hbk := back_st HA.out.st (by omega) hx0 m m1 m2 (by rw [HA.out.mi.id]; exact m3)
              rw [show ((x.id : Nat) : Int) = ((1 : Nat) : Int) by rw [HA.out.mi.id]] at hbk
              have HBK := Lib.hid hbk
              have HMM := Lib.hid hm
              clear hx0 hbk m1 m2 m3 m4 hm hsk hil
              rcases hcb with ⟨f1, f2⟩ | ⟨hin, f1, f2, bb, o, rfl, hbb, hcc⟩
              · go_wp2_with fail
                refine HBK.out.mono ?_
                rintro e y5 ⟨σ5, S5, x5, rfl, h5, h6, h7, h8, _, h9, h10, _, h11⟩
                obtain ⟨n1, n2, n3⟩ := HA.out.mi.back (Nat.lt_succ_self i) HMM.out h7 h8 h9 h10 h11
                have hxl := HA.out.xl
                have HA5 := Lib.hid (HA.out.step (h5.more (k + 45) (by omega)) h6 n1 (by omega))
                obtain ⟨na, hna⟩ : ∃ q, areaB (popU m (x.l.length + 1) x.l W).2 3 = q := ⟨_, rfl⟩
                rw [hna] at n2
                have har := area_st HA5.out.st 3 (by rw [cf1024]; decide) (by decide) (by omega)
                rw [hna] at har
                have HAR := Lib.hid har
                have HN2 := Lib.hid n2
                clear h5 h6 h7 h8 h9 h10 h11 n1 n2 n3 har hna HBK
                go_wp2_with fail
                refine HAR.out.mono ?_
                rintro e y6 ⟨σ6, S6, rfl, h5, h6, h7⟩
                have HA6 := Lib.hid (HA5.out.step (h5.more (k + 48) (by omega)) h6 (HA5.out.mi.like h7) HA5.out.xl)
                obtain ⟨g10, q10, e10, _⟩ := own_slice HA6.out.r10 (by omega)
                injection e10 with e10 _ e10c
                subst e10 e10c
                have k10 : y6.cell? ⟨g10, i, none⟩ = some (.string ⟨na.toArray⟩) := own_at HA6.out.r10 i _ (by unfold scells'; rw [List.getElem?_map, HN2.out]; rfl)
                have kl10 := (HA6.out.r10.lt g10 rfl).2
                have hss := str_self na
                clear h5 h6 h7 HAR
                go_wp2_with fail
                go_roundw
                · exact ⟨i, k + 48, σ6, S6, _, x5, by omega, by omega, rfl, HA6.out⟩
                · simp [intOf] <;> omega
              · go_wp2_with fail
                refine HBK.out.mono ?_
                rintro e y5 ⟨σ5, S5, x5, rfl, h5, h6, h7, h8, _, h9, h10, _, h11⟩
                obtain ⟨n1, n2, n3⟩ := HA.out.mi.back (Nat.lt_succ_self i) HMM.out h7 h8 h9 h10 h11
                have hxl := HA.out.xl
                have HA5 := Lib.hid (HA.out.step (h5.more (k + 45) (by omega)) h6 n1 (by omega))
                obtain ⟨na, hna⟩ : ∃ q, areaB (popU m (x.l.length + 1) x.l W).2 3 = q := ⟨_, rfl⟩
                rw [hna] at n2
                have har := area_st HA5.out.st 3 (by rw [cf1024]; decide) (by decide) (by omega)
                rw [hna] at har
                have HAR := Lib.hid har
                have HN2 := Lib.hid n2
                clear h5 h6 h7 h8 h9 h10 h11 n1 n2 n3 har hna HBK
                go_wp2_with fail
                refine HAR.out.mono ?_
                rintro e y6 ⟨σ6, S6, rfl, h5, h6, h7⟩
                have HA6 := Lib.hid (HA5.out.step (h5.more (k + 48) (by omega)) h6 (HA5.out.mi.like h7) HA5.out.xl)
                obtain ⟨g10, q10, e10, _⟩ := own_slice HA6.out.r10 (by omega)
                injection e10 with e10 _ e10c
                subst e10 e10c
                have k10 : y6.cell? ⟨g10, i, none⟩ = some (.string ⟨na.toArray⟩) := own_at HA6.out.r10 i _ (by unfold scells'; rw [List.getElem?_map, HN2.out]; rfl)
                have kl10 := (HA6.out.r10.lt g10 rfl).2
                have hss := str_self na
                clear h5 h6 h7 HAR
                go_wp2_with fail
                go_roundw
                · exact ⟨i, k + 48, σ6, S6, _, x5, by omega, by omega, rfl, HA6.out⟩
                · simp [intOf] <;> omega
      · have b1 : decide ((j : Int) < (n : Int)) = false := by simp; omega
        have b1n : decide (j < n) = false := by simpa using hjn2
        go_wp2_with fail
        go_loopw [17, 18, 19] (fun z17 z18 z19 w2 => ∃ (i k : Nat) (σ : St) (S : Nat → Prop) (W : Nat → List UInt8) (x : Tx), i ≤ j ∧ k ≤ 100 + 60 * (15 - i) ∧ z17 = .int .i64 ((i : Int) - 1) ∧ MAt2 w A i j ms ws σ S W x (.slice o9 j c9) (.slice o10 j c10) k w2) (fun z17 _ _ _ => (intOf z17 + 1).toNat)
        case atStart => exact ⟨j, 100, σ, S, W, x, Nat.le_refl _, by omega, rfl, HA2.out⟩
        case round =>
          obtain ⟨i, k, σ, S, W, x, hij, hk, rfl, hat⟩ := hrel
          have HA := Lib.hid hat
          clear hat
          cases i with
          | zero =>
            have ez : ((0 : Nat) : Int) - 1 = -1 := by decide
            rw [ez]
            have hx0 : σ.opn[0]? = some x := by rw [HA.out.mi.op]; rfl
            have hcm := commit_st HA.out.st (by omega) hx0 (b1024 (by decide))
            rw [show ((x.id : Nat) : Int) = ((1 : Nat) : Int) by rw [HA.out.mi.id]] at hcm
            have HCM := Lib.hid hcm
            clear hcm hx0 ez
            go_wp2_with fail
            refine HCM.out.mono ?_
            rintro e y5 ⟨σ5, S5, rfl, h5, _⟩
            have HB5 := Lib.hid h5.bel
            clear h5 HCM
            go_wp2_with fail
            refine (awake7_any _).mono ?_
            rintro e y6 ⟨rfl, hb6⟩
            have HB6 := Lib.hid hb6
            clear hb6
            go_wp2_with fail
            go_ret
            exact ⟨rfl, HB5.out.trans (HB6.out.mono HB5.out.size)⟩
          | succ i =>
            have ei : ((i + 1 : Nat) : Int) - 1 = (i : Int) := by omega
            rw [ei]
            clear ei
            have c1 : decide ((i : Int) ≥ 0) = true := by simp
            by_cases hsk : i < nb ∧ lb.getD i false = true
            · have hb1 : decide ((i : Int) < (nb : Int)) = true := by simp; omega
              have hb2 : decide (i < nb) = true := by simpa using hsk.1
              have hcb : ∃ bb o, aob = some ⟨bb, o, none⟩ ∧ bb < wr.heap.size ∧ wr.cell? ⟨bb, o + i, none⟩ = some (.bool true) := by
                obtain ⟨ao', c', e1, e2, e3, e4⟩ := HRB.out.below HA.out.st.bel (Nat.le_refl _)
                rw [HVB.out] at e1
                injection e1 with e1
                subst e1
                obtain ⟨bb, o, e5, e6, e7⟩ := e4 (by omega)
                refine ⟨bb, o, e5, e6, e7 i _ ?_⟩
                rw [List.getElem?_map, List.getElem?_eq_getElem (by rw [HLB.out]; exact hsk.1)]
                have h8 := hsk.2
                rw [List.getD_eq_getElem?_getD, List.getElem?_eq_getElem (by rw [HLB.out]; exact hsk.1)] at h8
                simp only [Option.getD_some] at h8
                rw [h8]; rfl
              obtain ⟨bb, o, rfl, hbb, hcc⟩ := hcb
              go_wp2_with fail
              go_roundw
              · exact ⟨i, k, σ, S, W, x, by omega, by omega, rfl, HA.out.step HA.out.st (Foot.below (GrowX.refl _)) (HA.out.mi.less (by omega)) HA.out.xl⟩
              · simp [intOf] <;> omega
            · have hcb : (decide (i < nb) = false ∧ decide ((i : Int) < (nb : Int)) = false) ∨ (i < nb ∧ decide (i < nb) = true ∧ decide ((i : Int) < (nb : Int)) = true ∧ ∃ bb o, aob = some ⟨bb, o, none⟩ ∧ bb < wr.heap.size ∧ wr.cell? ⟨bb, o + i, none⟩ = some (.bool false)) := by
                by_cases hin : i < nb
                · right
                  refine ⟨hin, by simpa using hin, by simp; omega, ?_⟩
                  obtain ⟨ao', c', e1, e2, e3, e4⟩ := HRB.out.below HA.out.st.bel (Nat.le_refl _)
                  rw [HVB.out] at e1
                  injection e1 with e1
                  subst e1
                  obtain ⟨bb, o, e5, e6, e7⟩ := e4 (by omega)
                  refine ⟨bb, o, e5, e6, e7 i _ ?_⟩
                  rw [List.getElem?_map, List.getElem?_eq_getElem (by rw [HLB.out]; exact hin)]
                  have h8 : ¬ lb.getD i false = true := fun h => hsk ⟨hin, h⟩
                  rw [List.getD_eq_getElem?_getD, List.getElem?_eq_getElem (by rw [HLB.out]; exact hin)] at h8
                  simp only [Option.getD_some, Bool.not_eq_true] at h8
                  rw [h8]; rfl
                · left
                  exact ⟨by simpa using hin, by simp; omega⟩
              have hil : i < ms.length := by rw [HA.out.len]; omega
              obtain ⟨m, hm⟩ : ∃ m, ms[i]? = some m := ⟨_, List.getElem?_eq_getElem hil⟩
              obtain ⟨g9, q9, e9, _⟩ := own_slice HA.out.r9 (by omega)
              injection e9 with e9 _ e9c
              subst e9 e9c
              have k9 : wr.cell? ⟨g9, i, none⟩ = some (.int .i64 (m : Nat)) := own_at HA.out.r9 i _ (by unfold mcells; rw [List.getElem?_map, hm]; rfl)
              have kl9 := (HA.out.r9.lt g9 rfl).2
              have hx0 : σ.opn[0]? = some x := by rw [HA.out.mi.op]; rfl
              obtain ⟨m1, m2, m3, m4⟩ := HA.out.mi.inv i m (by omega) hm
              have hbk := back_st HA.out.st (by omega) hx0 m m1 m2 (by rw [HA.out.mi.id]; exact m3)
              rw [show ((x.id : Nat) : Int) = ((1 : Nat) : Int) by rw [HA.out.mi.id]] at hbk
              have HBK := Lib.hid hbk
              have HMM := Lib.hid hm
              clear hx0 hbk m1 m2 m3 m4 hm hsk hil
              rcases hcb with ⟨f1, f2⟩ | ⟨hin, f1, f2, bb, o, rfl, hbb, hcc⟩
              · go_wp2_with fail
                refine HBK.out.mono ?_
                rintro e y5 ⟨σ5, S5, x5, rfl, h5, h6, h7, h8, _, h9, h10, _, h11⟩
                obtain ⟨n1, n2, n3⟩ := HA.out.mi.back (Nat.lt_succ_self i) HMM.out h7 h8 h9 h10 h11
                have hxl := HA.out.xl
                have HA5 := Lib.hid (HA.out.step (h5.more (k + 45) (by omega)) h6 n1 (by omega))
                obtain ⟨na, hna⟩ : ∃ q, areaB (popU m (x.l.length + 1) x.l W).2 3 = q := ⟨_, rfl⟩
                rw [hna] at n2
                have har := area_st HA5.out.st 3 (by rw [cf1024]; decide) (by decide) (by omega)
                rw [hna] at har
                have HAR := Lib.hid har
                have HN2 := Lib.hid n2
                clear h5 h6 h7 h8 h9 h10 h11 n1 n2 n3 har hna HBK
                go_wp2_with fail
                refine HAR.out.mono ?_
                rintro e y6 ⟨σ6, S6, rfl, h5, h6, h7⟩
                have HA6 := Lib.hid (HA5.out.step (h5.more (k + 48) (by omega)) h6 (HA5.out.mi.like h7) HA5.out.xl)
                obtain ⟨g10, q10, e10, _⟩ := own_slice HA6.out.r10 (by omega)
                injection e10 with e10 _ e10c
                subst e10 e10c
                have k10 : y6.cell? ⟨g10, i, none⟩ = some (.string ⟨na.toArray⟩) := own_at HA6.out.r10 i _ (by unfold scells'; rw [List.getElem?_map, HN2.out]; rfl)
                have kl10 := (HA6.out.r10.lt g10 rfl).2
                have hss := str_self na
                clear h5 h6 h7 HAR
                go_wp2_with fail
                go_roundw
                · exact ⟨i, k + 48, σ6, S6, _, x5, by omega, by omega, rfl, HA6.out⟩
                · simp [intOf] <;> omega
              · go_wp2_with fail
                refine HBK.out.mono ?_
                rintro e y5 ⟨σ5, S5, x5, rfl, h5, h6, h7, h8, _, h9, h10, _, h11⟩
                obtain ⟨n1, n2, n3⟩ := HA.out.mi.back (Nat.lt_succ_self i) HMM.out h7 h8 h9 h10 h11
                have hxl := HA.out.xl
                have HA5 := Lib.hid (HA.out.step (h5.more (k + 45) (by omega)) h6 n1 (by omega))
                obtain ⟨na, hna⟩ : ∃ q, areaB (popU m (x.l.length + 1) x.l W).2 3 = q := ⟨_, rfl⟩
                rw [hna] at n2
                have har := area_st HA5.out.st 3 (by rw [cf1024]; decide) (by decide) (by omega)
                rw [hna] at har
                have HAR := Lib.hid har
                have HN2 := Lib.hid n2
                clear h5 h6 h7 h8 h9 h10 h11 n1 n2 n3 har hna HBK
                go_wp2_with fail
                refine HAR.out.mono ?_
                rintro e y6 ⟨σ6, S6, rfl, h5, h6, h7⟩
                have HA6 := Lib.hid (HA5.out.step (h5.more (k + 48) (by omega)) h6 (HA5.out.mi.like h7) HA5.out.xl)
                obtain ⟨g10, q10, e10, _⟩ := own_slice HA6.out.r10 (by omega)
                injection e10 with e10 _ e10c
                subst e10 e10c
                have k10 : y6.cell? ⟨g10, i, none⟩ = some (.string ⟨na.toArray⟩) := own_at HA6.out.r10 i _ (by unfold scells'; rw [List.getElem?_map, HN2.out]; rfl)
                have kl10 := (HA6.out.r10.lt g10 rfl).2
                have hss := str_self na
                clear h5 h6 h7 HAR
                go_wp2_with fail
                go_roundw
                · exact ⟨i, k + 48, σ6, S6, _, x5, by omega, by omega, rfl, HA6.out⟩
                · simp [intOf] <;> omega
end Go.Proofs.YtpajagkhmodbnaaGreat

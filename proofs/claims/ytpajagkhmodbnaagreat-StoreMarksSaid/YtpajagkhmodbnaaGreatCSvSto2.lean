/- The store with its bounds and its pages in one: Save, Back, Commit, Rollback. Conditions: the device does not fail; no checkpoint. -/
import Derived.Test.YtpajagkhmodbnaaGreatPk28
import Derived.Test.YtpajagkhmodbnaaGreatCSvBack
namespace Go.Proofs.YtpajagkhmodbnaaGreat
set_option linter.unusedSimpArgs false
set_option linter.unusedVariables false
open Go.RowKit
section
variable {c : Cf} {nf k b : Nat} {σ σ' : St} {W : Nat → List UInt8}
theorem end_fine (hf : Fine c k b σ) (h : StD c nf σ W) {i : Nat} {x : Tx} (hx : σ.opn[i]? = some x) :
  (σ.end_ c i x).1 = 0 ∧ Fine c (k + 1) b (σ.end_ c i x).2 ∧ StD c nf (σ.end_ c i x).2 W ∧ (σ.end_ c i x).2.opn = σ.opn.eraseIdx i ∧ (σ.end_ c i x).2.next = σ.next ∧ (σ.end_ c i x).2.lines = σ.lines ++ [(σ.io.R.tail + 1, { Rc.zero with kind := 6, txn := x.id, prev := x.last })] ∧ (σ.end_ c i x).2.io.R.tail = σ.io.R.tail + 96 := by
 have hr := hf.room
 have hcs := hf.cost
 have htp := hf.top
 have hrs := hf.res_ge hx
 have e := St.end_eq σ c i x (by simp only [txC] at hrs; omega)
 rw [e]
 have hs : Rc.size { Rc.zero with kind := 6, txn := x.id, prev := x.last } = 96 := rfl
 refine ⟨rfl, ?_, h.congr rfl rfl, rfl, rfl, rfl, ?_⟩
 ·have h1 := sum_erase (l := σ.opn.map txC) (i := i) (a := txC x) (by rw [List.getElem?_map, hx]; rfl)
  refine hf.app { Rc.zero with kind := 6, txn := x.id, prev := x.last } rfl rfl (σ.opn.eraseIdx i) σ.next σ.commits 1 0 (Nat.le_refl _) (by have := hf.next.2; omega) (Nat.le_trans hf.commits (by omega)) (Nat.le_trans (List.length_eraseIdx_le _ _) (by have := hf.opn; omega)) (fun y hy => ?_) ?_ ?_ htp
  ·exact (hf.tx y (List.mem_of_mem_eraseIdx hy)).mono (by omega) (Nat.le_refl _)
  ·rw [map_erase]
   exact List.Nodup.sublist (List.eraseIdx_sublist _ _) hf.nd
  ·rw [hs, map_erase, res_eq]
   simp only [txC] at h1 hrs ⊢
   omega
 ·show (σ.io.R.app _).tail = _
  rw [app_tail, enc_len _ rfl rfl, hs]
theorem step_fine (hf : Fine c k b σ) (h : StD c nf σ W) {i : Nat} {x : Tx} (hx : σ.opn[i]? = some x) (kd : Nat) (hb : b + 96 + 2048 ≤ (c.n - 1) * 118) :
  (σ.step c i x { Rc.zero with kind := kd }).1 = 0 ∧ Fine c (k + 1) (b + 96) (σ.step c i x { Rc.zero with kind := kd }).2 ∧ StD c nf (σ.step c i x { Rc.zero with kind := kd }).2 W ∧ (σ.step c i x { Rc.zero with kind := kd }).2.opn = σ.opn.set i { x with last := σ.io.R.tail + 1 } ∧ (σ.step c i x { Rc.zero with kind := kd }).2.next = σ.next ∧
   (σ.step c i x { Rc.zero with kind := kd }).2.lines = σ.lines ++ [(σ.io.R.tail + 1, { Rc.zero with kind := kd, txn := x.id, prev := x.last })] ∧ (σ.step c i x { Rc.zero with kind := kd }).2.io.R.tail = σ.io.R.tail + 96 := by
 have hr := hf.room
 have hcs := hf.cost
 have e := St.step_eq σ c i x kd (by omega)
 rw [e]
 have hs : Rc.size { Rc.zero with kind := kd, txn := x.id, prev := x.last } = 96 := rfl
 refine ⟨rfl, ?_, h.congr rfl rfl, rfl, rfl, rfl, ?_⟩
 ·exact hf.setT { Rc.zero with kind := kd, txn := x.id, prev := x.last } rfl rfl hx x.l 96 σ.commits (Nat.le_trans hf.commits (by omega)) (by omega) (fun u hu => .inl hu) (by rw [hs]; omega) hb
 ·show (σ.io.R.app _).tail = _
  rw [app_tail, enc_len _ rfl rfl, hs]
theorem rollback_fine (hc : c.ok) (hf : Fine c k b σ) (h : StD c nf σ W) {i : Nat} {x : Tx} (hx : σ.opn[i]? = some x) (hb : b + 96 + 2048 ≤ (c.n - 1) * 118) :
  Fine c (k + 3 * x.l.length + 2) (b + 96) (σ.rollback c i x).2 ∧ StD c nf (σ.rollback c i x).2 (popU 0 (x.l.length + 1) x.l W).2 ∧ (σ.rollback c i x).2.opn = σ.opn.eraseIdx i ∧ (σ.rollback c i x).2.next = σ.next := by
 obtain ⟨a1, a2, a3, a4, a5, _, _⟩ := step_fine hf h hx 5 hb
 have hi := (List.getElem?_eq_some_iff.1 hx).1
 obtain ⟨s, hs⟩ : ∃ s, σ.step c i x { Rc.zero with kind := 5 } = (0, s) := ⟨_, Prod.ext a1 rfl⟩
 rw [hs] at a2 a3 a4 a5
 simp only at a2 a3 a4 a5
 have hx2 : s.opn[i]? = some { x with last := σ.io.R.tail + 1 } := by rw [a4]; exact List.getElem?_set_self hi
 obtain ⟨x', r1, r2, r3, r4, r5, r6, r7, r8, r9, r10, r11⟩ := undo_fine hc i 0 x.l.length (k + 1) s _ W a2 a3 hx2 (Nat.le_refl _)
 obtain ⟨s2, hs2⟩ : ∃ s2, St.undo c i 0 (x.l.length + 1) s = (0, s2) := ⟨_, Prod.ext r1 rfl⟩
 rw [hs2] at r2 r3 r8 r9
 simp only at r2 r3 r8 r9
 have hx3 : s2.opn[i]? = some x' := by
  rw [r3]; exact List.getElem?_set_self (by rw [a4, List.length_set]; exact hi)
 obtain ⟨e1, e2, e3, e4, e5, _, _⟩ := end_fine r2 r8 hx3
 have e : σ.rollback c i x = s2.end_ c i x' := by
  unfold St.rollback
  rw [hs]
  simp only [ne_eq, not_true_eq_false, if_false]
  rw [hs2]
  simp only [ne_eq, not_true_eq_false, if_false]
  rw [hx3]
 rw [e]
 refine ⟨e2.more _ (by omega), e3, ?_, by rw [e5, r9, a5]⟩
 rw [e4, r3, a4, List.set_set]
 exact List.eraseIdx_set_eq
theorem commit_fine (hc : c.ok) (hf : Fine c k b σ) (h : StD c nf σ W) {i : Nat} {x : Tx} (hx : σ.opn[i]? = some x) (hb : b + 96 + 2048 ≤ (c.n - 1) * 118) :
  Fine c (k + 3) (b + 96) (St.commit c σ i x).2 ∧ StD c nf (St.commit c σ i x).2 W ∧ (St.commit c σ i x).2.opn = σ.opn.eraseIdx i ∧ (St.commit c σ i x).2.next = σ.next := by
 obtain ⟨a1, a2, a3, a4, a5, a6, a7⟩ := step_fine hf h hx 4 hb
 have hi := (List.getElem?_eq_some_iff.1 hx).1
 obtain ⟨s, hs⟩ : ∃ s, (σ.step c i x { Rc.zero with kind := 4 }).2 = s := ⟨_, rfl⟩
 rw [hs] at a2 a3 a4 a5
 have hx2 : s.opn[i]? = some { x with last := σ.io.R.tail + 1 } := by rw [a4]; exact List.getElem?_set_self hi
 have hsame := flush_same c.n s.io.R s.io.D
 have hf2 : Fine c (k + 2) (b + 96) ({ s with commits := s.commits + 1, io := { D := (s.io.R.flush c.n s.io.D).2, R := (s.io.R.flush c.n s.io.D).1 } } : St) := by
  have ht := hsame.tail
  refine ⟨hsame.2.2.trans a2.start, hsame.1.trans a2.base, Nat.le_trans a2.wr (by omega), ?_, ⟨a2.next.1, by have := a2.next.2; show s.next ≤ _; omega⟩, by have := a2.commits; show s.commits + 1 ≤ _; omega, Nat.le_trans a2.opn (by omega), ?_, a2.nd, ?_, a2.top⟩
  ·show 96 * s.lines.length ≤ (s.io.R.flush c.n s.io.D).1.tail
   rw [ht]; exact a2.lines
  ·show ∀ y ∈ s.opn, TxFine c (s.io.R.flush c.n s.io.D).1.tail s.next y
   rw [ht]; exact a2.tx
  ·show (s.io.R.flush c.n s.io.D).1.tail + (s.opn.map txC).sum ≤ _
   rw [ht]; exact a2.cost
 have hd2 : StD c nf ({ s with commits := s.commits + 1, io := { D := (s.io.R.flush c.n s.io.D).2, R := (s.io.R.flush c.n s.io.D).1 } } : St) W := a3.flush hc rfl rfl
 obtain ⟨e1, e2, e3, e4, e5, _, _⟩ := end_fine hf2 hd2 (i := i) (x := { x with last := σ.io.R.tail + 1 }) hx2
 have e : St.commit c σ i x = St.end_ c ({ s with commits := s.commits + 1, io := { D := (s.io.R.flush c.n s.io.D).2, R := (s.io.R.flush c.n s.io.D).1 } } : St) i { x with last := σ.io.R.tail + 1 } := by
  unfold St.commit
  simp only []
  rw [if_neg (by rw [a1]; simp), hs]
  rw [hx2]
 rw [e]
 refine ⟨e2, e3, ?_, by rw [e5]; exact a5⟩
 rw [e4]
 show s.opn.eraseIdx i = _
 rw [a4]
 exact List.eraseIdx_set_eq
end
section
variable {W0 w w' w2 : World} {A : Adr} {c : Cf} {σ : St} {S X : Nat → Prop} {k b : Nat} {W : Nat → List UInt8}
theorem save_st (h : Sto W0 A c k b σ W S w) (hk : k ≤ 900000) {i : Nat} {x : Tx} (hx : σ.opn[i]? = some x) :
  Calls Tryz.prog 41 #[.pointer (some ⟨A.sb, 0, none⟩), .int .i64 (x.id : Nat)] w fun er w' => er = .returned (.tuple #[.int .i64 (x.last : Nat), .int .i64 0]) ∧ w' = w := by
 obtain ⟨vl, vo, EL, EO, K, S1, h1, rfl⟩ := h.sv
 obtain ⟨a1, _⟩ := h1.say h.fine (by omega)
 obtain ⟨e, he, rfl⟩ := h1.eat hx
 exact save_at h1 a1 i e (h.fine.of hx) he
theorem back_st (h : Sto W0 A c k b σ W S w) (hk : k ≤ 900000) {i : Nat} {x : Tx} (hx : σ.opn[i]? = some x) (mark : Nat) (hm1 : 1 ≤ mark) (hm2 : mark ≤ x.last) (hin : ∃ y ∈ σ.lines, y.1 = mark ∧ y.2.txn = x.id) :
  Calls Tryz.prog 42 #[.pointer (some ⟨A.sb, 0, none⟩), .int .i64 (x.id : Nat), .int .i64 (mark : Nat)] w fun er w' => ∃ σ' S' x', er = .returned (.int .i64 0) ∧ Sto W0 A c (k + 3 * x.l.length) b σ' (popU mark (x.l.length + 1) x.l W).2 S' w' ∧ Foot S S' w w' ∧
   σ'.opn = σ.opn.set i x' ∧ x'.id = x.id ∧ x'.first = x.first ∧ x.last ≤ x'.last ∧ x'.l = (popU mark (x.l.length + 1) x.l W).1 ∧ σ'.next = σ.next ∧ (∀ y ∈ σ.lines, y ∈ σ'.lines) := by
 have hf := h.fine
 obtain ⟨x', r1, r2, r3, r4, r5, r6, r7, r8, r9, r10, r11⟩ := undo_fine h.ok i mark x.l.length k σ x W hf h.std hx (Nat.le_refl _)
 obtain ⟨vl, vo, EL, EO, K, S1, h1, rfl⟩ := h.sv
 obtain ⟨a1, a2, a3, a4, a5, a6, a7, a8⟩ := h1.say hf (by omega)
 obtain ⟨e, he, rfl⟩ := h1.eat hx
 obtain ⟨b1, b2, b3, b4, b5, b6⟩ := a8 e (List.mem_of_getElem? he)
 have hr := hf.room
 have hcs := hf.cost
 have htp := hf.top
 have hwr := hf.wr
 have hrv := h1.resv
 refine (back_at h1 a1 i e (hf.of hx) he mark hm1 hm2 hin b1 (by omega) (by omega) (by omega) (by omega) (by omega) (by omega) (by omega) (by omega)).mono ?_
 rintro er w' ⟨S', rfl, g1, g2⟩
 rw [← b6] at g1
 exact ⟨_, S', x', rfl, ⟨g1, r2, r8, h.ok⟩, g2, r3, r4, r5, r6, r7, r9, r11⟩
theorem rollback_st (h : Sto W0 A c k b σ W S w) (hk : k ≤ 900000) {i : Nat} {x : Tx} (hx : σ.opn[i]? = some x) (hb : b + 96 + 2048 ≤ (c.n - 1) * 118) :
  Calls Tryz.prog 30 #[.pointer (some ⟨A.sb, 0, none⟩), .int .i64 (x.id : Nat)] w fun er w' => ∃ σ' S', er = .returned (.int .i64 0) ∧ Sto W0 A c (k + 3 * x.l.length + 2) (b + 96) σ' (popU 0 (x.l.length + 1) x.l W).2 S' w' ∧ Foot S S' w w' ∧ σ'.opn = σ.opn.eraseIdx i ∧ σ'.next = σ.next := by
 obtain ⟨r1, r2, r3, r4⟩ := rollback_fine h.ok h.fine h.std hx hb
 refine (rollback_sv h.sv h.fine (by omega) (by have := h.fine.wr; omega) hx).mono ?_
 rintro er w' ⟨S', rfl, g1, g2⟩
 exact ⟨_, S', rfl, ⟨g1, r1, r2, h.ok⟩, g2, r3, r4⟩
theorem commit_st (h : Sto W0 A c k b σ W S w) (hk : k ≤ 900000) {i : Nat} {x : Tx} (hx : σ.opn[i]? = some x) (hb : b + 96 + 2048 ≤ (c.n - 1) * 118) :
  Calls Tryz.prog 29 #[.pointer (some ⟨A.sb, 0, none⟩), .int .i64 (x.id : Nat)] w fun er w' => ∃ σ' S', er = .returned (.int .i64 0) ∧ Sto W0 A c (k + 3) (b + 96) σ' W S' w' ∧ Foot S S' w w' ∧ σ'.opn = σ.opn.eraseIdx i ∧ σ'.next = σ.next := by
 obtain ⟨r1, r2, r3, r4⟩ := commit_fine h.ok h.fine h.std hx hb
 refine (commit_sv h.sv h.fine (by omega) hx).mono ?_
 rintro er w' ⟨S', rfl, g1, g2⟩
 exact ⟨_, S', rfl, ⟨g1, r1, r2, h.ok⟩, g2, r3, r4⟩
end
end Go.Proofs.YtpajagkhmodbnaaGreat

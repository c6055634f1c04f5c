/- The pool: New. Conditions: none. -/
import Derived.Test.YtdnjjdpenfhpeaaPlDirty
namespace Go.Proofs.Ytdnjjdpenfhpeaa
set_option linter.unusedSimpArgs false
set_option linter.unusedVariables false
open Go.RowKit

def Fm.zero : Fm := ⟨0, [], false, false, 0, 0⟩
def Pl.new (n : Nat) (P : Nat → List UInt8) : Pl := ⟨List.replicate n Fm.free, 0, 0, P⟩
def newE (n k : Nat) : List Fe := List.replicate k (Fm.free, .slice none 0 0) ++ List.replicate (n - k) (Fm.zero, .slice none 0 0)
theorem newE_len {n k : Nat} (h : k ≤ n) : (newE n k).length = n := by simp [newE]; omega
theorem newE_at {n k : Nat} (h : k < n) : (newE n k)[k]? = some (Fm.zero, .slice none 0 0) := by
  unfold newE
  rw [List.getElem?_append_right (by simp), List.length_replicate, Nat.sub_self, List.getElem?_replicate, if_pos (by omega)]
theorem newE_step {n k : Nat} (h : k < n) : (newE n k).set k (Fm.free, .slice none 0 0) = newE n (k + 1) := by
  unfold newE
  rw [List.set_append_right _ _ (by simp), List.length_replicate, Nat.sub_self, show n - k = (n - (k + 1)) + 1 by omega, List.replicate_succ, List.set_cons_zero, List.replicate_succ' , List.append_assoc]
  rfl
theorem newE_mem {n k : Nat} {e : Fe} (h : e ∈ newE n k) : e.1.b = [] ∧ e.2 = .slice none 0 0 := by
  rcases List.mem_append.1 h with h | h <;> rw [List.eq_of_mem_replicate h] <;> exact ⟨rfl, rfl⟩
def Z6 : Array Value := #[.int .i64 0, .slice none 0 0, .bool false, .bool false, .int .i64 0, .int .i64 0]
theorem made_frames (n : Nat) : (madeCells Z6 (n * 6)).toList = fcells (newE n 0) := by
  apply List.ext_getElem?
  intro t
  by_cases ht : t < n * 6
  · have h6 : t / 6 < n := by omega
    have e : t = t / 6 * 6 + t % 6 := by omega
    have hz : (encF (Fm.zero, .slice none 0 0))[t % 6]? = some Z6[t % 6]! := by
      have : t % 6 < 6 := Nat.mod_lt _ (by decide)
      generalize t % 6 = r at *
      match r, this with
      | 0, _ => rfl
      | 1, _ => rfl
      | 2, _ => rfl
      | 3, _ => rfl
      | 4, _ => rfl
      | 5, _ => rfl
    have h1 : (fcells (newE n 0))[t]? = some Z6[t % 6]! := by
      have := fcells_at (newE n 0) (t / 6) (Fm.zero, .slice none 0 0) (by unfold newE; rw [List.replicate_zero, List.nil_append, List.getElem?_replicate, if_pos (by omega)]) (t % 6) _ hz
      rwa [← e] at this
    rw [h1]
    simp [madeCells, ht]
    rfl
  · rw [List.getElem?_eq_none (by simp [madeCells]; omega), List.getElem?_eq_none (by rw [fcells_length, newE_len (Nat.zero_le _)]; omega)]
theorem infoFr : (Try.prog.info? 81).map (fun i => (i.zero, i.size, i.bytes)) = some (some (.agg Z6), 6, 56) := by kernel_rfl
theorem newE_ok {n pg : Nat} {P : Nat → List UInt8} (h1 : 1 ≤ n) (h2 : n ≤ 64) : (Pl.new n P).ok pg n :=
  ⟨by simp [Pl.new], h1, h2, h1, fun x hx => by rw [List.eq_of_mem_replicate hx]; exact ⟨fun h => absurd h (by decide), fun h => by cases h⟩, by simp [Pl.new]⟩
theorem eql_fn {P : Program} (w : World) (t : TypeId) (fn : Nat) (caps : Array Value) {x y z} (h : P.underlying t = some (.func x y z)) : (binOp .eql t (.func (.func fn) #[] caps) .nilFunc).run P w = .ok (.bool false) w := by
  have key : ∀ d : Nat, (Op.equalIn (d + 1) t (.func (.func fn) #[] caps) .nilFunc).run P w = .ok false w := by
    intro d; simp [Op.equalIn, run_underlying h]
  have h2 : (Op.equal t (.func (.func fn) #[] caps) .nilFunc).run P w = .ok false w := key 9999
  simp [binOp, h2]
section
variable {W0 : World} {n f d fr pg : Nat} {St : Type} {FI : St → (Nat → Prop) → World → Prop} {s : St} {S1 S2 : Nat → Prop} {w : World} {fn : Nat} {caps : Array Value} {step : St → Int → Int × St} {okS : St → Prop} {P : Nat → List UInt8}
set_option maxRecDepth 100000 in
set_option maxHeartbeats 3200000 in
theorem pnew_pv (hF : ForceOf W0 fn caps FI step okS) (h3 : FV W0 f d fr pg P S1 w) (h4 : FI s S2 w) (h9 : Disj S1 S2) (h1 : 1 ≤ n) (h2 : n ≤ 64) :
    Calls Try.prog 8 #[.pointer (some ⟨f, 0, none⟩), .int .i64 (n : Nat), .func (.func fn) #[] caps] w fun e w' => ∃ g S', e = .returned (.tuple #[.pointer (some ⟨g, 0, none⟩), .int .i64 0]) ∧ PV W0 g n f d fr pg (.func (.func fn) #[] caps) FI (Pl.new n P) s S' w' ∧ Foot (fun k => S1 k ∨ S2 k) S' w w' := by
  have hb1 : decide ((n : Int) < 1) = false := by simp; omega
  have hb2 : decide ((n : Int) > 64) = false := by simp; omega
  have hb3 : decide (64 < (n : Int)) = false := by simp; omega
  have hb4 : decide (64 < n) = false := by simp; omega
  have hb5 : decide (n < 1) = false := by simp; omega
  obtain ⟨i0, hi, hz0, hz1, hz2⟩ := info_parts infoFr
  have H3 := Lib.hid h3
  have H4 := Lib.hid h4
  have H9 := Lib.hid h9
  have HF := Lib.hid hF
  have hbs := h3.bel.size
  have hfn := fun w => eql_fn (P := Try.prog) w _ fn caps Try.underlying33
  clear h3 h4 h9 hF
  go_enter Try.func8, Try.ntmps8
  go_wp2_with (at_make; refine wpList_make_full _ rfl _ _ 77 rfl w.heap.size 81 i0 (.agg Z6) 6 Try.underlying77 hi hz0 hz1 .i64 .i64 _ _ n rfl rfl rfl rfl (by rw [hz2]; omega) (by unfold maxLen; omega) (Nat.le_refl _) ?_; intro w0 hown0 hgrow0)
  have hb0 : Below w.heap.size w w0 := (Below.refl w.heap.size w).grown hgrow0 (Nat.le_refl _) (fun q e => by cases e)
  have bx := Box.new w0 #[.pointer (some ⟨f, 0, none⟩), .slice (some ⟨w.heap.size, 0, none⟩) n n, .func (.func fn) #[] caps, .int .i64 0, .int .i64 0] 79 rfl
  have hal := hb0.alloc hb0.size (.cells #[.pointer (some ⟨f, 0, none⟩), .slice (some ⟨w.heap.size, 0, none⟩) n n, .func (.func fn) #[] caps, .int .i64 0, .int .i64 0] 79)
  have hrow : w0.ownsRow w.heap.size 81 6 (.slice (some ⟨w.heap.size, 0, none⟩) n n) n (fcells (newE n 0)) := by
    have := hown0; rw [show (Value.agg Z6).cells = Z6 from rfl, made_frames] at this; exact this
  have hrow1 := hrow.alloc (.cells #[.pointer (some ⟨f, 0, none⟩), .slice (some ⟨w.heap.size, 0, none⟩) n n, .func (.func fn) #[] caps, .int .i64 0, .int .i64 0] 79)
  have hlb : w.heap.size < w0.heap.size := (hrow.lt w.heap.size rfl).2
  have hat : PoolAt (w0.alloc (.cells #[.pointer (some ⟨f, 0, none⟩), .slice (some ⟨w.heap.size, 0, none⟩) n n, .func (.func fn) #[] caps, .int .i64 0, .int .i64 0] 79)) W0.heap.size w0.heap.size w.heap.size n f (.func (.func fn) #[] caps) (newE n 0) 0 0 (fun _ => False) :=
    ⟨bx, own_base hrow1 hbs, newE_len (Nat.zero_le _), fun e he => by obtain ⟨e1, e2⟩ := newE_mem he; rw [e1, e2]; exact SecAt.nil, fun k h => h.elim, fun h => h, fun h => h, by omega⟩
  obtain ⟨lb, hlbe⟩ : ∃ x, w.heap.size = x := ⟨_, rfl⟩
  obtain ⟨g, hge⟩ : ∃ x, w0.heap.size = x := ⟨_, rfl⟩
  rw [hlbe, hge] at hat
  rw [hlbe] at hal hlb
  have HLB := Lib.hid hlbe
  rw [hlbe, hge]
  clear hown0 hgrow0 hrow hrow1 bx hb0
  generalize w0.alloc (.cells #[.pointer (some ⟨f, 0, none⟩), .slice (some ⟨lb, 0, none⟩) n n, .func (.func fn) #[] caps, .int .i64 0, .int .i64 0] 79) = w1 at *
  have c1 := hat.box.cell 1 _ rfl
  have glt := hat.box.lt
  have HAT := Lib.hid hat
  have HAL := Lib.hid hal
  clear hat hal
  go_wp2_with fail
  go_loopw [35] (fun z wr => ∃ k : Nat, k ≤ n ∧ z = .int .i64 k ∧ PoolAt wr W0.heap.size g lb n f (.func (.func fn) #[] caps) (newE n k) 0 0 (fun _ => False) ∧ Below lb w wr ∧ g < wr.heap.size) (fun z _ => n - (intOf z).toNat)
  case atStart => exact ⟨0, Nat.zero_le _, rfl, HAT.out, HAL.out, glt⟩
  case round =>
    obtain ⟨k, hk, rfl, hat, hbl, hgz⟩ := hrel
    have d1 := hat.box.cell 1 _ rfl
    have dlt := hat.box.lt
    have lefz := hat.fzl
    have lelt := hat.ll.2
    have HA := Lib.hid hat
    have HB := Lib.hid hbl
    by_cases hkn : k < n
    · have x0 := hat.cell k _ (newE_at hkn) 0 _ rfl
      rw [Nat.add_zero] at x0
      simp only [Fm.zero] at x0
      have hkb : decide (k < n) = true := by simpa using hkn
      obtain ⟨a1, a2⟩ := hat.setF k _ (Fm.free, .slice none 0 0) (newE_at hkn) 0 (by omega) (.int .i64 (-1)) rfl SecAt.nil
      rw [Nat.add_zero, newE_step hkn] at a1
      rw [Nat.add_zero] at a2
      have HA1 := Lib.hid a1
      have HA2 := Lib.hid a2
      clear hat hbl a1 a2
      go_wp2_with fail
      go_roundw
      · exact ⟨k + 1, by omega, by go_num, HA1.out, HB.out.trans (HA2.out.below (fun k hk => ⟨by have := HB.out.size; have := HLB.out; omega, fun e => by omega⟩)), by have := HA2.out.size; omega⟩
      · simp [intOf]; omega
    · obtain rfl : k = n := by omega
      clear hat hbl
      go_wp2_with fail
      go_ret2
      have hmF : (newE k k).map (·.1) = List.replicate k Fm.free := by simp [newE]
      have hlw : w.heap.size = lb := HLB.out
      have hbw : Below w.heap.size w wr := by rw [hlw]; exact HB.out
      have h3' := H3.out.below hbw
      have h4' : FI s S2 wr := HF.out.grow _ _ (fun _ => False) _ _ H4.out (grow_below hbw) (fun _ _ h => h) h3'.bel
      refine ⟨g, _, rfl, ⟨lb, newE k k, _, S1, S2, HA.out, by omega, h3', h4', hmF, newE_ok h1 h2, ?_, ?_, H9.out, rfl⟩, ⟨grow_below hbw, ?_⟩⟩
      · rintro q (e | e | e) hs
        · have := (H3.out.lt q hs).2; omega
        · have := (H3.out.lt q hs).2; omega
        · exact e
      · rintro q (e | e | e) hs
        · have := (HF.out.lt _ _ _ H4.out q hs).2; omega
        · have := (HF.out.lt _ _ _ H4.out q hs).2; omega
        · exact e
      · rintro q ((e | e | e) | hs)
        · exact .inr (by omega)
        · exact .inr (by omega)
        · exact e.elim
        · exact .inl hs
theorem pnew_bad (w : World) (f : Nat) (m : Int) (hm : m < 1 ∨ 64 < m) (fn : Nat) (caps : Array Value) :
    Calls Try.prog 8 #[.pointer (some ⟨f, 0, none⟩), .int .i64 m, .func (.func fn) #[] caps] w fun e w' => e = .returned (.tuple #[.pointer none, .int .i64 1]) ∧ w' = w := by
  have hfn := fun w => eql_fn (P := Try.prog) w _ fn caps Try.underlying33
  by_cases h1 : m < 1
  · have hb1 : decide (m < 1) = true := by simpa using h1
    clear hm h1
    go_enter Try.func8, Try.ntmps8
    go_wp2_with fail
    go_ret2
    exact ⟨rfl, rfl⟩
  · have hb1 : decide (m < 1) = false := by simpa using h1
    have hb2 : decide (m > 64) = true := by simp; omega
    have hb3 : decide (64 < m) = true := by simp; omega
    clear hm h1
    go_enter Try.func8, Try.ntmps8
    go_wp2_with fail
    go_ret2
    exact ⟨rfl, rfl⟩
end
end Go.Proofs.Ytdnjjdpenfhpeaa

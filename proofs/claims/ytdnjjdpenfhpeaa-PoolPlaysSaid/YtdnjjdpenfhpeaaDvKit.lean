/- The device: what it is, where it lies. Conditions: none. -/
import Derived.Test.YtdnjjdpenfhpeaaAppK
import Derived.Test.YtdnjjdpenfhpeaaBox
import Derived.Test.YtdnjjdpenfhpeaaPartsC
namespace Go.Proofs.Ytdnjjdpenfhpeaa
set_option linter.unusedSimpArgs false
set_option linter.unusedVariables false
open Go.RowKit

theorem GrowX.step {X Y : Nat → Prop} {a b c : World} (h : GrowX X a b) (k : GrowX Y b c) (hY : ∀ q, q < a.heap.size → Y q → X q) : GrowX X a c :=
  ⟨k.os.trans h.os, k.tape.trans h.tape, k.output.trans h.output, Nat.le_trans h.size k.size, fun i hi hx => (k.block i (Nat.lt_of_lt_of_le hi h.size) (fun y => hx (hY i hi y))).trans (h.block i hi hx)⟩

theorem Box.growx {X : Nat → Prop} {w w' : World} {g : Nat} {vs : List Value} (h : Box w g vs) (hg : GrowX X w w') (hX : ¬ X g) : Box w' g vs := by
  have hb : w'.heap[g]? = w.heap[g]? := hg.block g h.lt hX
  refine ⟨Nat.lt_of_lt_of_le h.lt hg.size, fun i v hi => ?_, fun o => ?_⟩
  · rw [← h.cell i v hi]; exact World.cell?_of_block (w := w) hb
  · rw [← h.free o]; exact World.frozen?_of_block (w := w) hb
theorem grow_below {X : Nat → Prop} {w w' : World} (h : Below w.heap.size w w') : GrowX X w w' := ⟨h.os, h.tape, h.output, h.size, fun k hk _ => h.block k hk⟩

/-- what a call writes: of what was, only S; what it owns then: S', old or new -/
structure Foot (S S' : Nat → Prop) (w w' : World) : Prop where
  grow : GrowX S w w'
  new : ∀ k, S' k → S k ∨ w.heap.size ≤ k
theorem Foot.below {S : Nat → Prop} {w w' : World} (h : GrowX (fun _ => False) w w') : Foot S S w w' := ⟨h.mono (fun _ h => h.elim), fun k h => .inl h⟩
theorem Foot.trans {S S' S'' : Nat → Prop} {a b c : World} (h : Foot S S' a b) (k : Foot S' S'' b c) : Foot S S'' a c :=
  ⟨h.grow.step k.grow (fun q hq hs => (h.new q hs).elim (fun h => h) (fun h => by omega)), fun q hs => (k.new q hs).elim (fun hs => h.new q hs) (fun h2 => .inr (Nat.le_trans h.grow.size h2))⟩
def Disj (S R : Nat → Prop) : Prop := ∀ k, S k → R k → False
theorem Foot.disj {S S' R : Nat → Prop} {w w' : World} (h : Foot S S' w w') (hd : Disj S R) (hR : ∀ k, R k → k < w.heap.size) : Disj S' R :=
  fun k hs hr => (h.new k hs).elim (fun hs => hd k hs hr) (fun h2 => by have := hR k hr; omega)
theorem Disj.symm {S R : Nat → Prop} (h : Disj S R) : Disj R S := fun k a b => h k b a

def zsec : List UInt8 := List.replicate 128 0
def padS (s : List UInt8) : List UInt8 := if s = [] then zsec else s
/-- a device: what lasts, what waits -/
structure Dv where
  l : List (List UInt8)
  c : List (Nat × List UInt8)
  fuse : Int
  dead : Bool
  calls : Int
def overC (i : Nat) (c : List (Nat × List UInt8)) (b : List UInt8) : List UInt8 := c.foldl (fun b x => if x.1 = i then x.2 else b) b
/-- sector i as it is read -/
def Dv.sec (D : Dv) (i : Nat) : List UInt8 := overC i D.c (padS (D.l.getD i []))
structure Dv.ok (D : Dv) : Prop where
  l : ∀ s ∈ D.l, s = [] ∨ s.length = 128
  c : ∀ x ∈ D.c, x.1 < D.l.length ∧ x.2.length = 128
  n : D.l.length ≤ 8192
  f1 : -1 ≤ D.fuse
  f2 : D.fuse ≤ 9223372036854775807
def wrapC (n : Int) : Int := wrap64 (n + 1)
/-- one call of the fuse: does it go well, and what then -/
def Dv.burn (D : Dv) : Bool × Dv :=
  if D.fuse = 0 then (false, { D with dead := true }) else
  if 0 < D.fuse then (true, { D with fuse := D.fuse - 1, calls := wrapC D.calls }) else (true, { D with calls := wrapC D.calls })

abbrev Se := List UInt8 × Value
abbrev Ce := Nat × List UInt8 × Value
def ccel (E : List Ce) : List Value := E.flatMap fun e => [.int .i64 (e.1 : Int), e.2.2]
theorem ccel_length (E : List Ce) : (ccel E).length = E.length * 2 := by
  induction E with
  | nil => rfl
  | cons a r ih => simp only [ccel, List.flatMap_cons, List.length_append, List.length_cons, List.length_nil] at *; omega
theorem ccel_append (E F : List Ce) : ccel (E ++ F) = ccel E ++ ccel F := by simp [ccel]
theorem ccel_at (E : List Ce) (k : Nat) (e : Ce) (h : E[k]? = some e) : (ccel E)[k * 2]? = some (.int .i64 (e.1 : Int)) ∧ (ccel E)[k * 2 + 1]? = some e.2.2 := by
  induction E generalizing k with
  | nil => simp at h
  | cons a r ih =>
    cases k with
    | zero => simp at h; subst h; exact ⟨rfl, rfl⟩
    | succ k =>
      have := ih k (by simpa using h)
      simp only [ccel, List.flatMap_cons] at *
      rw [Nat.succ_mul]
      refine ⟨?_, ?_⟩
      · rw [List.getElem?_append_right (by simp)]; simpa using this.1
      · rw [List.getElem?_append_right (by simp)]
        have e : k * 2 + 2 + 1 - [Value.int .i64 (a.1 : Int), a.2.2].length = k * 2 + 1 := by simp
        rw [e]; exact this.2
/-- a slice in K that reads as the bytes b -/
def SecAt (w : World) (K : Nat → Prop) (b : List UInt8) (v : Value) : Prop := Reads 1 w v b.length (b.map B) ∧ ∀ q, v.ownBlock = some q → K q

structure DvAt (w : World) (G d : Nat) (D : Dv) (vl vc : Value) (EL : List Se) (EC : List Ce) (K : Nat → Prop) : Prop where
  box : Box w d [vl, vc, .int .i64 D.fuse, .bool D.dead, .int .i64 D.calls]
  lrow : w.ownsRow G 37 1 vl EL.length (EL.map (·.2))
  crow : w.ownsRow G 91 2 vc EC.length (ccel EC)
  lis : D.l = EL.map (·.1)
  cis : D.c = EC.map fun e => (e.1, e.2.1)
  ltx : ∀ e ∈ EL, SecAt w K e.1 e.2
  ctx : ∀ e ∈ EC, SecAt w K e.2.1 e.2.2
  kin : ∀ k, K k → G ≤ k ∧ k < w.heap.size
  kd : ¬ K d
  kl : ∀ q, vl.ownBlock = some q → ¬ K q ∧ q ≠ d ∧ ¬ vc.ownBlock = some q
  kc : ∀ q, vc.ownBlock = some q → ¬ K q ∧ q ≠ d
  ok : D.ok
theorem SecAt.grow {X K : Nat → Prop} {w w' : World} {b : List UInt8} {v : Value} (h : SecAt w K b v) (hg : GrowX X w w') (hX : ∀ k, K k → ¬ X k) : SecAt w' K b v := by
  refine ⟨?_, h.2⟩
  obtain ⟨ao, c, e, hl, hc, hr⟩ := h.1
  refine ⟨ao, c, e, hl, hc, fun hn => ?_⟩
  obtain ⟨q, o, e2, hq, hcell⟩ := hr hn
  subst e2
  refine ⟨q, o, rfl, Nat.lt_of_lt_of_le hq hg.size, fun j u hu => ?_⟩
  have hk : ¬ X q := hX q (h.2 q (by rw [e]; rfl))
  have := hcell j u hu
  have hb := hg.block q hq hk
  simp only [World.cell?] at *
  rw [hb]
  exact this
theorem DvAt.put {w w' : World} {G d : Nat} {D D' : Dv} {vl vc : Value} {EL : List Se} {EC : List Ce} {K : Nat → Prop} (h : DvAt w G d D vl vc EL EC K)
    (hb : Box w' d [vl, vc, .int .i64 D'.fuse, .bool D'.dead, .int .i64 D'.calls]) (hg : GrowX (fun k => k = d) w w') (hl : D'.l = D.l) (hc : D'.c = D.c) (hok : D'.ok) : DvAt w' G d D' vl vc EL EC K :=
  ⟨hb, own_growx h.lrow hg (fun q e => (h.kl q e).2.1), own_growx h.crow hg (fun q e => (h.kc q e).2), hl.trans h.lis, hc.trans h.cis,
    fun e he => (h.ltx e he).grow hg (fun k hk e => h.kd (e ▸ hk)), fun e he => (h.ctx e he).grow hg (fun k hk e => h.kd (e ▸ hk)),
    fun k hk => ⟨(h.kin k hk).1, Nat.lt_of_lt_of_le (h.kin k hk).2 hg.size⟩, h.kd, h.kl, h.kc, hok⟩
theorem DvAt.grow {X : Nat → Prop} {w w' : World} {G d : Nat} {D : Dv} {vl vc : Value} {EL : List Se} {EC : List Ce} {K : Nat → Prop} (h : DvAt w G d D vl vc EL EC K)
    (hg : GrowX X w w') (h1 : ¬ X d) (h2 : ∀ q, vl.ownBlock = some q → ¬ X q) (h3 : ∀ q, vc.ownBlock = some q → ¬ X q) (h4 : ∀ q, K q → ¬ X q) : DvAt w' G d D vl vc EL EC K :=
  ⟨h.box.growx hg h1, own_growx h.lrow hg h2, own_growx h.crow hg h3, h.lis, h.cis, fun e he => (h.ltx e he).grow hg h4, fun e he => (h.ctx e he).grow hg h4,
    fun k hk => ⟨(h.kin k hk).1, Nat.lt_of_lt_of_le (h.kin k hk).2 hg.size⟩, h.kd, h.kl, h.kc, h.ok⟩
/-- the device at d, newer than W0; S are its blocks -/
def DV (W0 : World) (d : Nat) (D : Dv) (S : Nat → Prop) (w : World) : Prop :=
  ∃ vl vc EL EC K, DvAt w W0.heap.size d D vl vc EL EC K ∧ W0.heap.size ≤ d ∧ Below W0.heap.size W0 w ∧ S = fun k => k = d ∨ vl.ownBlock = some k ∨ vc.ownBlock = some k ∨ K k
theorem DV.bel {W0 w : World} {d : Nat} {D : Dv} {S : Nat → Prop} (h : DV W0 d D S w) : Below W0.heap.size W0 w := by obtain ⟨_, _, _, _, _, _, _, h, _⟩ := h; exact h
theorem DV.ok {W0 w : World} {d : Nat} {D : Dv} {S : Nat → Prop} (h : DV W0 d D S w) : D.ok := by obtain ⟨_, _, _, _, _, h, _⟩ := h; exact h.ok
theorem DV.lt {W0 w : World} {d : Nat} {D : Dv} {S : Nat → Prop} (h : DV W0 d D S w) : ∀ k, S k → W0.heap.size ≤ k ∧ k < w.heap.size := by
  obtain ⟨vl, vc, EL, EC, K, h1, h2, h3, rfl⟩ := h
  rintro k (rfl | h | h | h)
  · exact ⟨h2, h1.box.lt⟩
  · exact h1.lrow.lt k h
  · exact h1.crow.lt k h
  · exact h1.kin k h
theorem DV.grow {W0 w w' : World} {d : Nat} {D : Dv} {S X : Nat → Prop} (h : DV W0 d D S w) (hg : GrowX X w w') (hX : Disj S X) (hB : Below W0.heap.size W0 w') : DV W0 d D S w' := by
  obtain ⟨vl, vc, EL, EC, K, h1, h2, h3, rfl⟩ := h
  exact ⟨vl, vc, EL, EC, K, h1.grow hg (fun h => hX d (.inl rfl) h) (fun q e h => hX q (.inr (.inl e)) h) (fun q e h => hX q (.inr (.inr (.inl e))) h) (fun q e h => hX q (.inr (.inr (.inr e))) h), h2, hB, rfl⟩
theorem DV.below {W0 w w' : World} {d : Nat} {D : Dv} {S : Nat → Prop} (h : DV W0 d D S w) (hb : Below w.heap.size w w') : DV W0 d D S w' :=
  h.grow (X := fun _ => False) (grow_below hb) (fun _ _ h => h) (h.bel.trans (hb.mono h.bel.size))
end Go.Proofs.Ytdnjjdpenfhpeaa

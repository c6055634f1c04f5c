/- The law PoolCleans. Conditions: none. -/
import Derived.Test.YtdnjjdpenfhpeaaPlCleansP
import Derived.Deep.DeepCutAuto
import Derived.Deep.CutBlock
import Derived.BigQuiet
namespace Go.Proofs.Ytdnjjdpenfhpeaa
set_option linter.unusedSimpArgs false
set_option linter.unusedVariables false
open Go.RowKit

/-- a script's cells -/
abbrev Xop := Int × Int × Int × Int
def xcells (l : List Xop) : List Value := l.flatMap fun x => [.int .i64 x.1, .int .i64 x.2.1, .int .i64 x.2.2.1, .int .i64 x.2.2.2]
instance : Inhabited Xop := ⟨(0, 0, 0, 0)⟩
theorem Xops.at {w : World} {v : Value} {n : Nat} {l : List Xop} (h : Reads 4 w v n (xcells l)) (k : Nat) (hk : k < n) (x : Xop) (hx : l[k]? = some x) :
    ∃ b o c, v = .slice (some ⟨b, o, none⟩) n c ∧ b < w.heap.size ∧ w.cell? ⟨b, o + k * 4, none⟩ = some (.int .i64 x.1) ∧ w.cell? ⟨b, o + k * 4 + 1, none⟩ = some (.int .i64 x.2.1) ∧ w.cell? ⟨b, o + k * 4 + 2, none⟩ = some (.int .i64 x.2.2.1) ∧ w.cell? ⟨b, o + k * 4 + 3, none⟩ = some (.int .i64 x.2.2.2) := by
  obtain ⟨ao, c, rfl, hl, hc, hr⟩ := h
  obtain ⟨b, o, rfl, hb, hcell⟩ := hr (by omega)
  obtain ⟨hi, he⟩ := List.getElem?_eq_some_iff.1 hx
  have at4 : ∀ (j : Nat) (u : Value), ([.int .i64 x.1, .int .i64 x.2.1, .int .i64 x.2.2.1, .int .i64 x.2.2.2] : List Value)[j]? = some u → (xcells l)[k * 4 + j]? = some u := fun j u hu =>
    flat_at (fun x : Xop => [.int .i64 x.1, .int .i64 x.2.1, .int .i64 x.2.2.1, .int .i64 x.2.2.2]) 4 (fun _ => rfl) l k hi j u (by rw [getElem!_pos l k hi, he]; exact hu)
  refine ⟨b, o, c, rfl, hb, ?_, ?_, ?_, ?_⟩
  · exact hcell _ _ (at4 0 _ rfl)
  · rw [Nat.add_assoc]; exact hcell _ _ (at4 1 _ rfl)
  · rw [Nat.add_assoc]; exact hcell _ _ (at4 2 _ rfl)
  · rw [Nat.add_assoc]; exact hcell _ _ (at4 3 _ rfl)
section
variable {W0 : World} {g n f d fr pg : Nat} {St : Type} {FI : St → (Nat → Prop) → World → Prop} {p : Pl} {s : St} {S : Nat → Prop} {w : World} {fn : Nat} {caps : Array Value} {step : St → Int → Int × St} {fv : Value}
/-- the file is read beside its pool -/
theorem fileread_pv (hF : ForceOf W0 fn caps FI step) (h : PV W0 g n f d fr pg fv FI p s S w) (q : Nat) (hq : q < pg) :
    Calls Try.prog 11 #[.pointer (some ⟨f, 0, none⟩), .int .i64 (q : Nat)] w fun e w' => ∃ v : Value, e = .returned (.tuple #[v, .int .i64 0]) ∧ w'.ownsRow w.heap.size 5 1 v 512 ((p.P q).map B) ∧ PV W0 g n f d fr pg fv FI p s S w' ∧ GrowX S w w' := by
  obtain ⟨lb, E, K, S1, S2, I1, I2, I3, I4, I5, I6, I7, I8, I9, rfl⟩ := h
  refine (fread_fv I3 q hq).mono ?_
  rintro e y ⟨vb, rfl, hrow, hfv, hgr⟩
  exact ⟨vb, rfl, hrow, ⟨lb, E, K, S1, S2, I1.grow hgr (fun hs => I7 g (.inl rfl) hs) (fun hs => I7 lb (.inr (.inl rfl)) hs) (fun k hk hs => I7 k (.inr (.inr hk)) hs), I2, hfv, hF.grow _ _ _ _ _ I4 hgr I9.symm hfv.bel, I5, I6, I7, I8, I9, rfl⟩, hgr.mono (fun k hk => .inr (.inl hk))⟩
end
def arr (f : Nat → Int) (n : Nat) : List Value := (List.range n).map fun q => .int .i64 (f q)
theorem arr_at (f : Nat → Int) {n q : Nat} (h : q < n) : (arr f n)[q]? = some (.int .i64 (f q)) := by unfold arr; rw [List.getElem?_map, List.getElem?_range h]; rfl
theorem arr_set (f : Nat → Int) {n q : Nat} (h : q < n) (v : Int) : (arr f n).set q (.int .i64 v) = arr (upd f q v) n := by
  unfold arr
  apply List.ext_getElem?
  intro j
  rw [List.getElem?_set]
  by_cases e : q = j
  · subst e
    rw [if_pos rfl, if_pos (by simpa using h), List.getElem?_map, List.getElem?_range h]
    simp [upd]
  · rw [if_neg e, List.getElem?_map, List.getElem?_map]
    by_cases hj : j < n
    · rw [List.getElem?_range hj]
      have : ¬ j = q := fun e2 => e e2.symm
      simp [upd, this]
    · rw [List.getElem?_eq_none (by simpa using hj)]; rfl
/-- where PoolCleans stands -/
structure CAt (w : World) (g f dd b1 b2 : Nat) (p : Pl) (fi la : Nat → Int) (S : Nat → Prop) (wr : World) : Prop where
  pv : PV w g 6 f dd 0 6 (.func (.func 9) #[] #[]) (QF w) p () S wr
  x1 : Box wr b1 (arr fi 6)
  x2 : Box wr b2 (arr la 6)
  n1 : w.heap.size ≤ b1
  n2 : w.heap.size ≤ b2
  ne : b1 ≠ b2
  s1 : ¬ S b1
  s2 : ¬ S b2
  inv : CInv p.F fi la
theorem CAt.step {w : World} {g f dd b1 b2 : Nat} {p p' : Pl} {fi la : Nat → Int} {S S' : Nat → Prop} {wr wr' : World} (h : CAt w g f dd b1 b2 p fi la S wr) (hp : PV w g 6 f dd 0 6 (.func (.func 9) #[] #[]) (QF w) p' () S' wr') (hf : Foot S S' wr wr') :
    Box wr' b1 (arr fi 6) ∧ Box wr' b2 (arr la 6) ∧ ¬ S' b1 ∧ ¬ S' b2 :=
  ⟨h.x1.growx hf.grow h.s1, h.x2.growx hf.grow h.s2, fun hs => (hf.new b1 hs).elim h.s1 (fun e => by have := h.x1.lt; omega), fun hs => (hf.new b2 hs).elim h.s2 (fun e => by have := h.x2.lt; omega)⟩
theorem expD_at (fi : Nat → Int) {q : Nat} (h0 : ¬ fi q = 0) : ∀ {n : Nat}, q < n → (expD fi n)[(expD fi q).length]? = some ((q : Int), fi q)
  | n + 1, hq => by
    rw [expD_succ]
    by_cases e : q = n
    · subst e
      rw [if_neg h0, List.getElem?_append_right (Nat.le_refl _), Nat.sub_self]
      rfl
    · have ih := expD_at fi h0 (show q < n by omega)
      split
      · exact ih
      · rw [List.getElem?_append_left (List.getElem?_eq_some_iff.1 ih).1]
        exact ih
theorem Dcs.at {w : World} {v : Value} {n : Nat} {l : List (Int × Int)} (h : Reads 2 w v n (dcells l)) (k : Nat) (hk : k < n) (x : Int × Int) (hx : l[k]? = some x) :
    ∃ b o c, v = .slice (some ⟨b, o, none⟩) n c ∧ b < w.heap.size ∧ w.cell? ⟨b, o + k * 2, none⟩ = some (.int .i64 x.1) ∧ w.cell? ⟨b, o + k * 2 + 1, none⟩ = some (.int .i64 x.2) := by
  obtain ⟨ao, c, rfl, hl, hc, hr⟩ := h
  obtain ⟨b, o, rfl, hb, hcell⟩ := hr (by omega)
  obtain ⟨hi, he⟩ := List.getElem?_eq_some_iff.1 hx
  have at2 : ∀ (j : Nat) (u : Value), ([.int .i64 x.1, .int .i64 x.2] : List Value)[j]? = some u → (dcells l)[k * 2 + j]? = some u := fun j u hu =>
    flat_at (fun x : Int × Int => [.int .i64 x.1, .int .i64 x.2]) 2 (fun _ => rfl) l k hi j u (by rw [getElem!_pos l k hi, he]; exact hu)
  exact ⟨b, o, c, rfl, hb, hcell _ _ (at2 0 _ rfl), by rw [Nat.add_assoc]; exact hcell _ _ (at2 1 _ rfl)⟩
theorem mod6 (x : Int) : ∃ q : Nat, q < 6 ∧ Int.tmod (wrap64 (Int.tmod x 6 + 6)) 6 = (q : Int) := by
  have h1 : -6 < Int.tmod x 6 ∧ Int.tmod x 6 < 6 := by
    constructor
    · have := Int.lt_tmod_of_pos x (show (0 : Int) < 6 by decide); omega
    · exact Int.tmod_lt_of_pos x (by decide)
  have h2 := Int.tmod_lt_of_pos (Int.tmod x 6 + 6) (show (0 : Int) < 6 by decide)
  have h3 := Int.tmod_nonneg 6 (show 0 ≤ Int.tmod x 6 + 6 by omega)
  have h4 : wrap64 (Int.tmod x 6 + 6) = Int.tmod x 6 + 6 := by rw [wrap64]; omega
  rw [h4]
  exact ⟨(Int.tmod (Int.tmod x 6 + 6) 6).toNat, by omega, by omega⟩

def WCn17 (q b2 HS cx : Nat) (ax : Option Addr) (lv : Int) (bb : List UInt8) (j b o : Nat) : Prop := False
def PCn17 (q b2 HS cx : Nat) (ax : Option Addr) (lv : Int) (bb : List UInt8) (i : Nat) (v : Value) (lo hi : Nat) (w : World) : Prop :=
  match i with
  | 0 => v = .int .i64 0
  | 1 => v = .bool false
  | 2 => v = .bool false
  | 3 => v = .slice ax 512 cx
  | 4 => v = .string ⟨bb.toArray⟩
  | 5 => v = .int .i64 ((q : Nat) : Int)
  | 6 => v = .pointer (some ⟨b2, q, none⟩)
  | 7 => v = .int .i64 lv
  | 8 => ∃ g, v = .slice (some ⟨g, 0, none⟩) 512 512 ∧ Buf w g bb
  | 9 => v = .string ⟨bb.toArray⟩
  | 10 => v = .bool false
  | _ => True
theorem PCn17_stable (q b2 HS cx : Nat) (ax : Option Addr) (lv : Int) (bb : List UInt8)  : ∀ i j, i < 11 → j < 11 → j ≠ i → j ∉ ([[], [0], [0, 1], [0, 1, 2], [0, 1, 2, 3], [0, 1, 2], [0, 1, 2, 5], [0, 1, 2, 5, 6], [0, 1, 2, 5, 6, 7], [0, 1, 2, 5, 6, 7, 8], [0, 1, 2, 3, 4, 5, 6, 7, 8, 9]] : List (List Nat)).getD i [] → ∀ v lo hi w w', PCn17 q b2 HS cx ax lv bb i v lo hi w → GrowC (WCn17 q b2 HS cx ax lv bb j) w w' → PCn17 q b2 HS cx ax lv bb i v lo hi w' := by
  intro i j hi hj hne hbs v lo hj2 w w' h hg
  match i, hi with
  | 0, _ =>
    simp only [PCn17] at h ⊢
    exact h
  | 1, _ =>
    simp only [PCn17] at h ⊢
    exact h
  | 2, _ =>
    simp only [PCn17] at h ⊢
    exact h
  | 3, _ =>
    simp only [PCn17] at h ⊢
    exact h
  | 4, _ =>
    simp only [PCn17] at h ⊢
    exact h
  | 5, _ =>
    simp only [PCn17] at h ⊢
    exact h
  | 6, _ =>
    simp only [PCn17] at h ⊢
    exact h
  | 7, _ =>
    simp only [PCn17] at h ⊢
    exact h
  | 8, _ =>
    simp only [PCn17] at h ⊢
    obtain ⟨g, h1, h2⟩ := h
    exact ⟨g, h1, h2.growx (GrowX.of_growC hg (Y := fun _ => False) (fun k o h => h)) (fun h => h)⟩
  | 9, _ =>
    simp only [PCn17] at h ⊢
    exact h
  | 10, _ =>
    simp only [PCn17] at h ⊢
    exact h
  | (q + 11), hq => exact absurd hq (by omega)

set_option maxRecDepth 100000 in
set_option maxHeartbeats 6400000 in
theorem cleans_any (sc : List Xop) (v : Value) (n : Nat) (hl : sc.length = n) (hn : n ≤ 9223372036854775807) (w : World) (hv : Reads 4 w v n (xcells sc)) :
    Calls Try.prog 3 #[v] w fun e w' => e = .returned (.bool true) ∧ Below w.heap.size w w' := by
  have HF := Lib.hid (force_cleans w)
  have HV := Lib.hid hv
  have HL := Lib.hid hl
  obtain ⟨av, cv, rfl, _⟩ := hv
  clear hl
  go_enter Try.func3, Try.ntmps3
  go_wp2_with fail
  refine (dnew_dv w w (Below.refl _ _) 40 (by decide) (by decide)).mono ?_
  rintro e y1 ⟨dd, Sd, rfl, hdv, hnw, hbl⟩
  have HD := Lib.hid hdv
  clear hdv hnw hbl
  go_wp2_with fail
  refine (fopen_dv HD.out (new_good (by decide)) (by decide) 0 6 (by decide) (by decide) (new_sec _ _)).mono ?_
  rintro e y2 ⟨f, Sf, rfl, hfv, _⟩
  have HFV : Hid (FV w f dd 0 6 P0 Sf y2) := Lib.hid (hfv.ext (fun q hq => new_page _ _))
  clear hfv
  go_wp2_with fail
  refine (pnew_pv (n := 6) HF.out HFV.out (s := ()) (S2 := fun _ => False) ⟨rfl, HFV.out.bel⟩ (fun k _ h => h) (by decide) (by decide)).mono ?_
  rintro e y3 ⟨g, S3, rfl, hpv, _⟩
  have HPV3 := Lib.hid hpv
  clear hpv
  go_wp2_with fail
  have hsz1 : (y3.alloc (.cells #[.int .i64 0, .int .i64 0, .int .i64 0, .int .i64 0, .int .i64 0, .int .i64 0] 34)).heap.size = y3.heap.size + 1 := by rw [World.alloc, Array.size_push]
  have hcat : ∃ b1 b2, b1 = y3.heap.size ∧ b2 = y3.heap.size + 1 ∧ CAt w g f dd b1 b2 (Pl.new 6 P0) (fun _ => 0) (fun _ => 0) S3 ((y3.alloc (.cells #[.int .i64 0, .int .i64 0, .int .i64 0, .int .i64 0, .int .i64 0, .int .i64 0] 34)).alloc (.cells #[.int .i64 0, .int .i64 0, .int .i64 0, .int .i64 0, .int .i64 0, .int .i64 0] 34)) := by
    refine ⟨_, _, rfl, rfl, ?_⟩
    have hb1 : Below y3.heap.size y3 (y3.alloc (.cells #[.int .i64 0, .int .i64 0, .int .i64 0, .int .i64 0, .int .i64 0, .int .i64 0] 34)) := (Below.refl _ _).alloc (Nat.le_refl _) _
    have p1 := HPV3.out.below HF.out hb1
    have hb2 := (Below.refl (y3.alloc (.cells #[.int .i64 0, .int .i64 0, .int .i64 0, .int .i64 0, .int .i64 0, .int .i64 0] 34)).heap.size (y3.alloc (.cells #[.int .i64 0, .int .i64 0, .int .i64 0, .int .i64 0, .int .i64 0, .int .i64 0] 34))).alloc (Nat.le_refl _) (.cells #[.int .i64 0, .int .i64 0, .int .i64 0, .int .i64 0, .int .i64 0, .int .i64 0] 34)
    have hbs := HPV3.out.bel.size
    refine ⟨p1.below HF.out hb2, (Box.new y3 _ _ rfl).alloc _, Box.new _ _ _ hsz1.symm, hbs, by omega, by omega, fun hs => by have := (HPV3.out.lt HF.out _ hs).2; omega, fun hs => by have := (HPV3.out.lt HF.out _ hs).2; omega, CInv.new 6⟩
  obtain ⟨b1, b2, hb1, hb2, hc0⟩ := hcat
  rw [← hb2, ← hb1]
  have HC0 := Lib.hid hc0
  clear hb1 hb2 hc0
  generalize ((y3.alloc (.cells #[.int .i64 0, .int .i64 0, .int .i64 0, .int .i64 0, .int .i64 0, .int .i64 0] 34)).alloc (.cells #[.int .i64 0, .int .i64 0, .int .i64 0, .int .i64 0, .int .i64 0, .int .i64 0] 34)) = y4 at HC0 ⊢
  go_loopw [11, 12] (fun z i wr => ∃ (k : Nat) (p : Pl) (fi la : Nat → Int) (S : Nat → Prop), k ≤ n ∧ k ≤ 60 ∧ i = .int .i64 k ∧ z = .int .i64 (p.wr : Nat) ∧ p.wr ≤ k ∧ CAt w g f dd b1 b2 p fi la S wr) (fun _ i _ => n - (intOf i).toNat)
  case atStart => exact ⟨0, Pl.new 6 P0, _, _, S3, Nat.zero_le _, Nat.zero_le _, rfl, rfl, Nat.le_refl _, HC0.out⟩
  case round =>
    obtain ⟨k, p, fi, la, S, hk, hk60, rfl, rfl, hwk, hat⟩ := hrel
    have HAT := Lib.hid hat
    clear hat HC0
    by_cases hlt : k < n
    case neg =>
      have hb1 : decide (k < n) = false := by simpa using hlt
      go_wp2_with fail
      refine (awake_any _).mono ?_
      rintro e wz ⟨rfl, hbz⟩
      have HBZ := Lib.hid hbz
      clear hbz
      go_wp2_with fail
      go_ret
      exact ⟨rfl, HAT.out.pv.bel.trans (HBZ.out.mono HAT.out.pv.bel.size)⟩
    have hb1 : decide (k < n) = true := by simpa using hlt
    by_cases h60 : k < 60
    case neg =>
      have hb2 : decide (k < 60) = false := by simpa using h60
      have hb3 : decide ((k : Int) < 60) = false := by simp; omega
      go_wp2_with fail
      refine (awake_any _).mono ?_
      rintro e wz ⟨rfl, hbz⟩
      have HBZ := Lib.hid hbz
      clear hbz
      go_wp2_with fail
      go_ret
      exact ⟨rfl, HAT.out.pv.bel.trans (HBZ.out.mono HAT.out.pv.bel.size)⟩
    have hb3 : decide ((k : Int) < 60) = true := by simp; omega
    have hkl : k < sc.length := by rw [HL.out]; exact hlt
    obtain ⟨b, o, c', e, hb, hc1, hc2, _, _⟩ := Xops.at HV.out k hlt sc[k] (List.getElem?_eq_getElem hkl)
    injection e with e1 e2 e3
    subst e1 e3
    generalize sc[k] = x at *
    obtain ⟨xk, xp, xa, xl⟩ := x
    have HAT0 := HAT.out.pv.bel
    have hd1 := (HAT0.cell (p := ⟨b, o + k * 4, none⟩) hb).trans hc1
    have hd2 := (HAT0.cell (p := ⟨b, o + k * 4 + 1, none⟩) hb).trans hc2
    try simp only at hd1 hd2
    obtain ⟨q, hq6, hq⟩ := mod6 xp
    have hbw : b < wr.heap.size := Nat.lt_of_lt_of_le hb HAT0.size
    clear hc1 hc2 hkl e2 HAT0
    go_upto_if 62 with (fail)
    clear hd1 hd2 hb hbw hq
    have HQ6 := Lib.hid hq6
    have hw60 : p.wr ≤ 60 := by omega
    have hwr1 : p.wr + 1 ≤ 1000000000 := by omega
    go_cut [11] (fun z wx => ∃ (p' : Pl) (fi' la' : Nat → Int) (S' : Nat → Prop), z = .int .i64 (p'.wr : Nat) ∧ p'.wr ≤ k + 1 ∧ CAt w g f dd b1 b2 p' fi' la' S' wx)
    case first =>
      by_cases hx2 : xk = 2
      case pos =>
        have hkb : (xk == 2) = true := by simpa using hx2
        clear hx2
        rcases HAT.out.inv.has q hq6 with h0 | ⟨h0, _⟩
        · have hev := evict_pv HF.out HAT.out.pv (q : Nat) hwr1
          rw [cl_evict0 HAT.out.inv h0] at hev
          have HEV := Lib.hid hev
          have HH0 := Lib.hid h0
          clear hev h0
          go_wp2_with fail
          refine HEV.out.mono ?_
          rintro e wz ⟨S', rfl, hpv, hft⟩
          obtain ⟨z1, z2, z3, z4⟩ := HAT.out.step hpv hft
          have cq := z1.cell q _ (arr_at fi hq6)
          rw [HH0.out] at cq
          have cfz := z1.free
          have clt := z1.lt
          have HPV := Lib.hid hpv
          have HZ1 := Lib.hid z1
          have HZ2 := Lib.hid z2
          have HZ3 := Lib.hid z3
          have HZ4 := Lib.hid z4
          clear hpv hft z1 z2 z3 z4
          go_wp2_with fail
          go_meet
          have hz := HZ1.out.setCell q (.int .i64 0)
          have he : (arr fi 6).set q (.int .i64 0) = arr fi 6 := by
            rw [arr_set fi hq6]; congr 1; funext x; unfold upd; split
            · next e => rw [e, HH0.out]
            · rfl
          rw [he] at hz
          have hg := growX_setCell wz b1 q (.int .i64 0)
          exact ⟨p, fi, la, S', rfl, by omega, HPV.out.grow HF.out hg (fun k hs e => HZ3.out (e ▸ hs)) (HPV.out.bel.trans (hg.below (fun k hk => ⟨Nat.lt_of_lt_of_le hk HPV.out.bel.size, fun e => by have := HAT.out.n1; omega⟩))), hz, HZ2.out.growx hg (fun e => HAT.out.ne e.symm), HAT.out.n1, HAT.out.n2, HAT.out.ne, HZ3.out, HZ4.out, HAT.out.inv⟩
        · obtain ⟨hr1, hinv, hwr', hPq⟩ := cl_evict1 HAT.out.inv hq6 h0
          have hev := evict_pv HF.out HAT.out.pv (q : Nat) hwr1
          obtain ⟨r, hr⟩ : ∃ r, p.evict step0 () (q : Nat) = r := ⟨_, rfl⟩
          rw [hr] at hev hr1 hinv hwr' hPq
          obtain ⟨re, p', su⟩ := r
          simp only at hr1 hinv hwr' hPq
          subst hr1
          have HEV := Lib.hid hev
          have HINV := Lib.hid hinv
          have HWR := Lib.hid hwr'
          have HPQ := Lib.hid hPq
          have hpos : decide (fi q > 0) = true := by simpa using h0
          have hpos2 : decide (0 < fi q) = true := by simpa using h0
          clear hev hr hinv hwr' hPq h0
          go_wp2_with fail
          refine HEV.out.mono ?_
          rintro e wz ⟨S', rfl, hpv, hft⟩
          obtain ⟨z1, z2, z3, z4⟩ := HAT.out.step hpv hft
          have cq := z1.cell q _ (arr_at fi hq6)
          have clt := z1.lt
          have HPV := Lib.hid hpv
          have HZ1 := Lib.hid z1
          have HZ2 := Lib.hid z2
          have HZ3 := Lib.hid z3
          have HZ4 := Lib.hid z4
          clear hpv hft z1 z2 z3 z4
          go_wp2_with fail
          refine (fileread_pv HF.out HPV.out q hq6).mono ?_
          rintro e y3 ⟨vr, rfl, hrow, hpv, hgr⟩
          obtain ⟨ax, cx, evx⟩ := own_shape hrow
          subst evx
          obtain ⟨bb, hbb⟩ : ∃ b, pageL 9 (la q) = b := ⟨_, rfl⟩
          rw [HPQ.out, hbb] at hrow
          have HBP := Lib.hid hbb
          have HBL : Hid (bb.length = 512) := Lib.hid (by rw [← hbb]; exact pageL_len _ _)
          have HRD : Hid (Reads 1 y3 (.slice ax 512 cx) 512 (bb.map B)) := Lib.hid (Reads.of_own hrow)
          have HPV3 := Lib.hid hpv
          have HB1 : Hid (Box y3 b1 (arr fi 6)) := Lib.hid (HZ1.out.growx hgr HZ3.out)
          have HB2 : Hid (Box y3 b2 (arr la 6)) := Lib.hid (HZ2.out.growx hgr HZ4.out)
          have HLQ : Hid ((arr la 6)[q]? = some (.int .i64 (la q))) := Lib.hid (arr_at la hq6)
          clear hpv hgr hrow hbb cq clt
          go_upto_region 17 with (fail)
          have hB : Below y3.heap.size y3 y3 := Below.refl _ _
          obtain ⟨HS, hHS⟩ : ∃ x, y3.heap.size = x := ⟨_, rfl⟩
          obtain ⟨lv, hlv⟩ : ∃ x, la q = x := ⟨_, rfl⟩
          rw [hlv] at HLQ HBP
          refine wp_region_partsDC (WCn17 q b2 HS cx ax lv bb) 11 [[], [0], [0, 1], [0, 1, 2], [0, 1, 2, 3], [0, 1, 2], [0, 1, 2, 5], [0, 1, 2, 5, 6], [0, 1, 2, 5, 6, 7], [0, 1, 2, 5, 6, 7, 8], [0, 1, 2, 3, 4, 5, 6, 7, 8, 9]] [some 77, some 78, some 79, some 80, some 81, some 82, some 83, some 84, some 85, some 86, some 87, some 88] (by kernel_rfl) (by kernel_rfl) rfl (PCn17 q b2 HS cx ax lv bb) (PCn17_stable q b2 HS cx ax lv bb ) ?pCn17 ?_
          case pCn17 =>
            intro i hi o ho vs lo hx_ w' hg hp
            match i, hi with
            | 0, _ =>
              obtain rfl := Option.some.inj ho
              clear ho
              simp only [actsD, List.getD_cons_zero, List.getD_cons_succ, List.foldl_cons, List.foldl_nil, Act.put, List.setIfInBounds_toArray, List.set_cons_succ, List.set_cons_zero]
              have hsz := hg.size
              have hgB : Below y3.heap.size y3 w' := hg.below (fun k hk => ⟨hk, fun o => by rintro ⟨j, _, _, _, hw⟩; exact False.elim hw⟩)
              go_wp2
              exact ⟨_, rfl, GrowC.refl _, rfl⟩
            | 1, _ =>
              obtain rfl := Option.some.inj ho
              clear ho
              simp only [actsD, List.getD_cons_zero, List.getD_cons_succ, List.foldl_cons, List.foldl_nil, Act.put, List.setIfInBounds_toArray, List.set_cons_succ, List.set_cons_zero]
              obtain ⟨_, _, _, h0⟩ := hp 0 (by simp)
              simp only [PCn17] at h0
              have hsz := hg.size
              have hgB : Below y3.heap.size y3 w' := hg.below (fun k hk => ⟨hk, fun o => by rintro ⟨j, _, _, _, hw⟩; exact False.elim hw⟩)
              rw [h0]
              go_wp2
              exact ⟨_, rfl, GrowC.refl _, rfl⟩
            | 2, _ =>
              obtain rfl := Option.some.inj ho
              clear ho
              simp only [actsD, List.getD_cons_zero, List.getD_cons_succ, List.foldl_cons, List.foldl_nil, Act.put, List.setIfInBounds_toArray, List.set_cons_succ, List.set_cons_zero]
              obtain ⟨_, _, _, h1⟩ := hp 1 (by simp)
              simp only [PCn17] at h1
              have hsz := hg.size
              have hgB : Below y3.heap.size y3 w' := hg.below (fun k hk => ⟨hk, fun o => by rintro ⟨j, _, _, _, hw⟩; exact False.elim hw⟩)
              rw [h1]
              go_wp2
              exact ⟨_, rfl, GrowC.refl _, rfl⟩
            | 3, _ =>
              obtain rfl := Option.some.inj ho
              clear ho
              simp only [actsD, List.getD_cons_zero, List.getD_cons_succ, List.foldl_cons, List.foldl_nil, Act.put, List.setIfInBounds_toArray, List.set_cons_succ, List.set_cons_zero]
              obtain ⟨_, _, _, h2⟩ := hp 2 (by simp)
              simp only [PCn17] at h2
              have hsz := hg.size
              have hgB : Below y3.heap.size y3 w' := hg.below (fun k hk => ⟨hk, fun o => by rintro ⟨j, _, _, _, hw⟩; exact False.elim hw⟩)
              rw [h2]
              go_wp2
              exact ⟨_, rfl, GrowC.refl _, rfl⟩
            | 4, _ =>
              obtain rfl := Option.some.inj ho
              clear ho
              simp only [actsD, List.getD_cons_zero, List.getD_cons_succ, List.foldl_cons, List.foldl_nil, Act.put, List.setIfInBounds_toArray, List.set_cons_succ, List.set_cons_zero]
              obtain ⟨_, _, _, h2⟩ := hp 2 (by simp)
              simp only [PCn17] at h2
              obtain ⟨_, _, _, h3⟩ := hp 3 (by simp)
              simp only [PCn17] at h3
              have hsz := hg.size
              have hgB : Below y3.heap.size y3 w' := hg.below (fun k hk => ⟨hk, fun o => by rintro ⟨j, _, _, _, hw⟩; exact False.elim hw⟩)
              rw [h2, h3]
              have hcv := run_str_reads Try.underlying37 Try.underlying5 Try.underlying9 bb (HRD.out.growx (X := fun _ => False) (grow_below hgB) (fun _ _ h => h))
              go_wp2
              exact ⟨_, rfl, GrowC.refl _, rfl⟩
            | 5, _ =>
              obtain rfl := Option.some.inj ho
              clear ho
              simp only [actsD, List.getD_cons_zero, List.getD_cons_succ, List.foldl_cons, List.foldl_nil, Act.put, List.setIfInBounds_toArray, List.set_cons_succ, List.set_cons_zero]
              obtain ⟨_, _, _, h2⟩ := hp 2 (by simp)
              simp only [PCn17] at h2
              have hsz := hg.size
              have hgB : Below y3.heap.size y3 w' := hg.below (fun k hk => ⟨hk, fun o => by rintro ⟨j, _, _, _, hw⟩; exact False.elim hw⟩)
              rw [h2]
              go_wp2
              exact ⟨_, rfl, GrowC.refl _, rfl⟩
            | 6, _ =>
              obtain rfl := Option.some.inj ho
              clear ho
              simp only [actsD, List.getD_cons_zero, List.getD_cons_succ, List.foldl_cons, List.foldl_nil, Act.put, List.setIfInBounds_toArray, List.set_cons_succ, List.set_cons_zero]
              obtain ⟨_, _, _, h2⟩ := hp 2 (by simp)
              simp only [PCn17] at h2
              obtain ⟨_, _, _, h5⟩ := hp 5 (by simp)
              simp only [PCn17] at h5
              have hsz := hg.size
              have hgB : Below y3.heap.size y3 w' := hg.below (fun k hk => ⟨hk, fun o => by rintro ⟨j, _, _, _, hw⟩; exact False.elim hw⟩)
              rw [h2, h5]
              go_wp2
              exact ⟨_, rfl, GrowC.refl _, rfl⟩
            | 7, _ =>
              obtain rfl := Option.some.inj ho
              clear ho
              simp only [actsD, List.getD_cons_zero, List.getD_cons_succ, List.foldl_cons, List.foldl_nil, Act.put, List.setIfInBounds_toArray, List.set_cons_succ, List.set_cons_zero]
              obtain ⟨_, _, _, h2⟩ := hp 2 (by simp)
              simp only [PCn17] at h2
              obtain ⟨_, _, _, h6⟩ := hp 6 (by simp)
              simp only [PCn17] at h6
              have hsz := hg.size
              have hgB : Below y3.heap.size y3 w' := hg.below (fun k hk => ⟨hk, fun o => by rintro ⟨j, _, _, _, hw⟩; exact False.elim hw⟩)
              rw [h2, h6]
              have e9 := (HB2.out.below hgB (Nat.le_refl _)).cell q _ HLQ.out
              go_wp2
              exact ⟨_, rfl, GrowC.refl _, rfl⟩
            | 8, _ =>
              obtain rfl := Option.some.inj ho
              clear ho
              simp only [actsD, List.getD_cons_zero, List.getD_cons_succ, List.foldl_cons, List.foldl_nil, Act.put, List.setIfInBounds_toArray, List.set_cons_succ, List.set_cons_zero]
              obtain ⟨_, _, _, h2⟩ := hp 2 (by simp)
              simp only [PCn17] at h2
              obtain ⟨_, _, _, h7⟩ := hp 7 (by simp)
              simp only [PCn17] at h7
              have hsz := hg.size
              have hgB : Below y3.heap.size y3 w' := hg.below (fun k hk => ⟨hk, fun o => by rintro ⟨j, _, _, _, hw⟩; exact False.elim hw⟩)
              rw [h2, h7]
              go_wp2_with fail
              refine (page_any w' 9 lv).mono ?_
              rintro e wh ⟨g2, rfl, h1, h2, h3⟩
              go_wp2
              exact ⟨_, rfl, GrowC.of_grow ⟨h3.os, h3.tape, h3.output, h3.size, fun k hk => h3.block k hk (fun h => h)⟩, g2, rfl, by rw [← HBP.out]; exact h1⟩
            | 9, _ =>
              obtain rfl := Option.some.inj ho
              clear ho
              simp only [actsD, List.getD_cons_zero, List.getD_cons_succ, List.foldl_cons, List.foldl_nil, Act.put, List.setIfInBounds_toArray, List.set_cons_succ, List.set_cons_zero]
              obtain ⟨_, _, _, h2⟩ := hp 2 (by simp)
              simp only [PCn17] at h2
              obtain ⟨_, _, _, h8⟩ := hp 8 (by simp)
              simp only [PCn17] at h8
              have hsz := hg.size
              have hgB : Below y3.heap.size y3 w' := hg.below (fun k hk => ⟨hk, fun o => by rintro ⟨j, _, _, _, hw⟩; exact False.elim hw⟩)
              rw [h2]
              obtain ⟨g2, e8, h8b⟩ := h8
              rw [e8]
              have hcv := run_str_reads Try.underlying37 Try.underlying5 Try.underlying9 bb (h8b.reads512 HBL.out)
              go_wp2
              exact ⟨_, rfl, GrowC.refl _, rfl⟩
            | 10, _ =>
              obtain rfl := Option.some.inj ho
              clear ho
              simp only [actsD, List.getD_cons_zero, List.getD_cons_succ, List.foldl_cons, List.foldl_nil, Act.put, List.setIfInBounds_toArray, List.set_cons_succ, List.set_cons_zero]
              obtain ⟨_, _, _, h2⟩ := hp 2 (by simp)
              simp only [PCn17] at h2
              obtain ⟨_, _, _, h4⟩ := hp 4 (by simp)
              simp only [PCn17] at h4
              obtain ⟨_, _, _, h9⟩ := hp 9 (by simp)
              simp only [PCn17] at h9
              have hsz := hg.size
              have hgB : Below y3.heap.size y3 w' := hg.below (fun k hk => ⟨hk, fun o => by rintro ⟨j, _, _, _, hw⟩; exact False.elim hw⟩)
              rw [h2, h4, h9]
              have hst := str_self bb
              have hst2 : ((⟨bb.toArray⟩ : ByteArray).toList != (⟨bb.toArray⟩ : ByteArray).toList) = false := by simp
              go_wp2
              exact ⟨_, rfl, GrowC.refl _, rfl⟩
            | (q + 11), hq => exact absurd hq (by omega)
          intro vS lo hi w5 hg hp hd
          obtain ⟨_, _, _, h0⟩ := hp 0 (by decide)
          obtain ⟨_, _, _, h1⟩ := hp 1 (by decide)
          obtain ⟨_, _, _, h2⟩ := hp 2 (by decide)
          obtain ⟨_, _, _, h3⟩ := hp 3 (by decide)
          obtain ⟨_, _, _, h4⟩ := hp 4 (by decide)
          obtain ⟨_, _, _, h5⟩ := hp 5 (by decide)
          obtain ⟨_, _, _, h6⟩ := hp 6 (by decide)
          obtain ⟨_, _, _, h7⟩ := hp 7 (by decide)
          obtain ⟨_, _, _, h8⟩ := hp 8 (by decide)
          obtain ⟨_, _, _, h9⟩ := hp 9 (by decide)
          obtain ⟨_, _, _, h10⟩ := hp 10 (by decide)
          simp only [PCn17] at h0 h1 h2 h3 h4 h5 h6 h7 h8 h9 h10
          clear hp hd
          have hsz := hg.size
          replace hB := hB.trans (hg.below (fun k hk => ⟨by omega, fun o => by rintro ⟨j, _, hw⟩; exact False.elim hw⟩))
          have hr : List.range 11 = [0, 1, 2, 3, 4, 5, 6, 7, 8, 9, 10] := rfl
          rw [hr]
          clear hr
          simp only [List.drop_succ_cons, List.drop_zero, List.drop_nil, actsD, List.getD_cons_zero, List.getD_cons_succ, List.foldl_cons, List.foldl_nil, Act.put, List.setIfInBounds_toArray, List.set_cons_succ, List.set_cons_zero, h0, h1, h2, h3, h4, h5, h6, h7, h9, h10]
          clear h0 h1 h2 h3 h4 h5 h6 h7 h9 h10
          have HPV5 := Lib.hid (HPV3.out.below HF.out hB)
          have z1 := HB1.out.below hB (Nat.le_refl _)
          have z2 := HB2.out.below hB (Nat.le_refl _)
          have HZ15 := Lib.hid z1
          have HZ25 := Lib.hid z2
          have cq := z1.cell q _ (arr_at fi hq6)
          have cfz := z1.free
          have clt := z1.lt
          have hwp : wrap64 ((p.wr : Int) + 1) = ((p'.wr : Nat) : Int) := by have := HWR.out; rw [wrap64]; omega
          clear z1 z2 hB hg hsz
          go_wp2_with fail
          go_meet
          have hz := HZ15.out.setCell q (.int .i64 0)
          rw [arr_set fi hq6] at hz
          have hg := growX_setCell w5 b1 q (.int .i64 0)
          exact ⟨p', upd fi q 0, la, S', by have := HWR.out; simp; omega, by have := HWR.out; omega, HPV5.out.grow HF.out hg (fun k hs e => HZ3.out (e ▸ hs)) (HPV5.out.bel.trans (hg.below (fun k hk => ⟨Nat.lt_of_lt_of_le hk HPV5.out.bel.size, fun e => by have := HAT.out.n1; omega⟩))), hz, HZ25.out.growx hg (fun e => HAT.out.ne e.symm), HAT.out.n1, HAT.out.n2, HAT.out.ne, HZ3.out, HZ4.out, HINV.out⟩
      case neg =>
        have hkb : (xk == 2) = false := by simpa using hx2
        clear hx2
        obtain ⟨hr1, hinv, hwr', _⟩ := cl_put HAT.out.inv HAT.out.pv.ok.len hq6 ((k : Int) + 1) (by omega)
        obtain ⟨r, hr⟩ : ∃ r, p.put 6 step0 () (q : Nat) (pageL 9 ((k : Int) + 1)) ((k : Int) + 1) = r := ⟨_, rfl⟩
        rw [hr] at hr1 hinv hwr'
        obtain ⟨re, p', su⟩ := r
        simp only at hr1 hinv hwr'
        subst hr1
        have HINV := Lib.hid hinv
        have HWR := Lib.hid hwr'
        have HR := Lib.hid hr
        have hwk1 : wrap64 ((k : Int) + 1) = (k : Int) + 1 := by rw [wrap64]; omega
        clear hr hinv hwr'
        go_wp2_with fail
        refine (page_any _ 9 ((k : Int) + 1)).mono ?_
        rintro e y4 ⟨gb, rfl, hbuf, hgb, hgr⟩
        have hb4 : Below wr.heap.size wr y4 := ⟨hgr.os, hgr.tape, hgr.output, hgr.size, fun k hk => hgr.block k hk (fun h => h)⟩
        have hpv4 := HAT.out.pv.below HF.out hb4
        have hput := put_good HF.out hpv4 (q : Nat) ⟨by omega, by show (q : Int) < ((6 : Nat) : Int); omega⟩ (pageL 9 ((k : Int) + 1)) (pageL_len _ _) ((k : Int) + 1) (by omega) _ (hbuf.reads512 (pageL_len _ _)) (fun k e hs => by have e2 : gb = k := (by simpa [Value.ownBlock] using e); have := (HAT.out.pv.lt HF.out k hs).2; omega) hwr1
        rw [HR.out] at hput
        have HPUT := Lib.hid hput
        have HB1 : Hid (Box y4 b1 (arr fi 6)) := Lib.hid (HAT.out.x1.below hb4 (Nat.le_refl _))
        have HB2 : Hid (Box y4 b2 (arr la 6)) := Lib.hid (HAT.out.x2.below hb4 (Nat.le_refl _))
        clear hbuf hgb hgr hb4 hpv4 hput
        go_wp2_with fail
        refine HPUT.out.mono ?_
        rintro e wz ⟨S', rfl, hpv, hft⟩
        have z1 := HB1.out.growx hft.grow HAT.out.s1
        have z2 := HB2.out.growx hft.grow HAT.out.s2
        have hlt1 := HB1.out.lt
        have hlt2 := HB2.out.lt
        have HZ3 : Hid (¬ S' b1) := Lib.hid (fun hs => (hft.new b1 hs).elim HAT.out.s1 (fun e => by omega))
        have HZ4 : Hid (¬ S' b2) := Lib.hid (fun hs => (hft.new b2 hs).elim HAT.out.s2 (fun e => by omega))
        have cq := z1.cell q _ (arr_at fi hq6)
        have cfz := z1.free
        have clt := z1.lt
        have dq := z2.cell q _ (arr_at la hq6)
        have dfz := z2.free
        have dlt := z2.lt
        have HPV := Lib.hid hpv
        have HZ1 := Lib.hid z1
        have HZ2 := Lib.hid z2
        have hne := HAT.out.ne
        clear hpv hft z1 z2 hlt1 hlt2
        have hg1 := growX_setCell wz b2 q (.int .i64 ((k : Int) + 1))
        have hpv1 := HPV.out.grow HF.out hg1 (fun k hs e => HZ4.out (e ▸ hs)) (HPV.out.bel.trans (hg1.below (fun k hk => ⟨Nat.lt_of_lt_of_le hk HPV.out.bel.size, fun e => by have := HAT.out.n2; omega⟩)))
        have hx2 := HZ2.out.setCell q (.int .i64 ((k : Int) + 1))
        rw [arr_set la hq6] at hx2
        have hx1 := HZ1.out.growx hg1 hne
        have HPVA := Lib.hid hpv1
        have HX2 := Lib.hid hx2
        have HX1 := Lib.hid hx1
        clear hg1 hpv1 hx2 hx1
        by_cases hz0 : fi q = 0
        · have hzb : (fi q == 0) = true := by simpa using hz0
          have HIN2 : Hid (CInv p'.F (upd fi q ((k : Int) + 1)) (upd la q ((k : Int) + 1))) := Lib.hid (by have := HINV.out; rw [if_pos hz0] at this; exact this)
          clear hz0
          go_wp2_with fail
          go_meet
          have hg := growX_setCell (wz.setCell ⟨b2, q, none⟩ (.int .i64 ((k : Int) + 1))) b1 q (.int .i64 ((k : Int) + 1))
          have hz := HX1.out.setCell q (.int .i64 ((k : Int) + 1))
          rw [arr_set fi hq6] at hz
          exact ⟨p', _, _, S', by rw [HWR.out], by have := HWR.out; omega, HPVA.out.grow HF.out hg (fun k hs e => HZ3.out (e ▸ hs)) (HPVA.out.bel.trans (hg.below (fun k hk => ⟨Nat.lt_of_lt_of_le hk HPVA.out.bel.size, fun e => by have := HAT.out.n1; omega⟩))), hz, HX2.out.growx hg (fun e => hne e.symm), HAT.out.n1, HAT.out.n2, HAT.out.ne, HZ3.out, HZ4.out, HIN2.out⟩
        · have hzb : (fi q == 0) = false := by simpa using hz0
          have HIN2 : Hid (CInv p'.F fi (upd la q ((k : Int) + 1))) := Lib.hid (by have := HINV.out; rw [if_neg hz0] at this; exact this)
          clear hz0
          go_wp2_with fail
          go_meet
          exact ⟨p', _, _, S', by rw [HWR.out], by have := HWR.out; omega, HPVA.out, HX1.out, HX2.out, HAT.out.n1, HAT.out.n2, HAT.out.ne, HZ3.out, HZ4.out, HIN2.out⟩
    case rest =>
      obtain ⟨p', fi', la', S', rfl, hwk', hat'⟩ := hcut
      have HA := Lib.hid hat'
      have HWK' := Lib.hid hwk'
      clear hat' HAT hwk hw60 hwr1 hq6 hwk'
      go_wp2_with fail
      refine (dirty_pv HF.out HA.out.pv).mono ?_
      rintro e y6 ⟨c, ao, m, rfl, hdi, hcm, hm6, hrd, hpv, hbl⟩
      have hce := HA.out.inv.dirty hdi
      subst hce
      have HRD := Lib.hid hrd
      have HCM := Lib.hid hcm
      have HPV := Lib.hid hpv
      have hx1 := HA.out.x1.below hbl (Nat.le_refl _)
      have HX1 := Lib.hid hx1
      have HX2 := Lib.hid (HA.out.x2.below hbl (Nat.le_refl _))
      have hlt1 := hx1.lt
      clear hdi hcm hrd hpv hbl hx1
      go_wp2_with fail
      go_loopw [17, 18] (fun z i wx => ∃ q : Nat, q ≤ 6 ∧ i = .int .i64 q ∧ z = .int .i64 ((expD fi' q).length : Nat) ∧ Below y6.heap.size y6 wx) (fun _ i _ => 6 - (intOf i).toNat)
      case atStart => exact ⟨0, Nat.zero_le _, rfl, rfl, Below.refl _ _⟩
      case round =>
        obtain ⟨q, hq6, rfl, rfl, hby⟩ := hrel
        have HBY := Lib.hid hby
        have hlt2 : b1 < wr.heap.size := by have := hby.size; omega
        clear hby
        by_cases hq : q < 6
        case neg =>
          obtain rfl : q = 6 := by omega
          rw [HCM.out]
          have hmb : ((m : Int) != (m : Int)) = false := by simp
          go_wp2_with fail
          refine (writes_pv (HPV.out.below HF.out HBY.out)).mono ?_
          rintro e wz ⟨rfl, rfl⟩
          have hwb : (((p'.wr : Nat) : Int) != ((p'.wr : Nat) : Int)) = false := by simp
          go_wp2_with fail
          exact ⟨⟨k + 1, p', fi', la', S', by omega, by omega, by simp, rfl, HWK'.out, ⟨HPV.out.below HF.out HBY.out, HX1.out.below HBY.out (Nat.le_refl _), HX2.out.below HBY.out (Nat.le_refl _), HA.out.n1, HA.out.n2, HA.out.ne, HA.out.s1, HA.out.s2, HA.out.inv⟩⟩, by simp [intOf]; omega⟩
        have hqb : decide ((q : Int) < 6) = true := by simp; omega
        have cq := (HX1.out.below HBY.out (Nat.le_refl _)).cell q _ (arr_at fi' hq)
        have hes := expD_succ fi' q
        by_cases h0 : fi' q = 0
        · rw [if_pos h0] at hes
          have HES := Lib.hid hes
          have hzb : (fi' q == 0) = true := by simpa using h0
          clear hes h0
          go_wp2_with fail
          exact ⟨⟨q + 1, by omega, by simp, by rw [HES.out], HBY.out⟩, by simp [intOf]; omega⟩
        · rw [if_neg h0] at hes
          have HES := Lib.hid hes
          have hat := expD_at fi' h0 hq
          have hkm : (expD fi' q).length < m := by rw [← HCM.out]; exact (List.getElem?_eq_some_iff.1 hat).1
          have HKL : Hid ((expD fi' (q + 1)).length = (expD fi' q).length + 1) := Lib.hid (by rw [hes, List.length_append]; rfl)
          have hzb : (fi' q == 0) = false := by simpa using h0
          obtain ⟨bd, od, cd, e, _, hc1, hc2⟩ := Dcs.at (HRD.out.below HBY.out (Nat.le_refl _)) _ hkm _ hat
          injection e with e1 e2 e3
          subst e1 e3
          simp only at hc1 hc2
          clear hes h0 hat e2
          generalize (expD fi' q).length = kk at *
          have hkb : decide (kk < m) = true := by simpa using hkm
          have hkb2 : decide ((kk : Int) ≥ (m : Int)) = false := by simp; omega
          have hkb3 : decide (m ≤ kk) = false := by simp; omega
          go_upto_region 32 with (fail)
          have hqq : ((q : Int) == (q : Int)) = true := by simp
          have hff : (fi' q == fi' q) = true := by simp
          go_quiet (fail)
          go_wp2
          exact ⟨⟨q + 1, by omega, by simp, by rw [HKL.out]; simp, HBY.out.trans ⟨rfl, rfl, rfl, Nat.le_refl _, fun _ _ => rfl⟩⟩, by simp [intOf]; omega⟩
end Go.Proofs.Ytdnjjdpenfhpeaa

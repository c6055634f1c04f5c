/- What node.Cut answers. Conditions: a node whose lists belong together, a place inside it. -/
import Derived.Test.YtfbblgcdggpehaaNClip
import Derived.Test.YtfbblgcdggpehaaBox
namespace Go.Proofs.Ytfbblgcdggpehaa
set_option linter.unusedSimpArgs false
set_option linter.unusedVariables false
open Go.RowKit

def Nd.cutL (x : Nd) (h : Nat) : Nd := if x.leaf then ⟨true, x.keys.take h, x.vals.take h, [], 0⟩ else ⟨false, x.keys.take h, [], x.kids.take (h + 1), 0⟩
def Nd.cutR (x : Nd) (h : Nat) : Nd := if x.leaf then ⟨true, x.keys.drop h, x.vals.drop h, [], x.next⟩ else ⟨false, x.keys.drop (h + 1), [], x.kids.drop (h + 1), x.next⟩

/-- the answer of Cut -/
def CutEnd (x : Nd) (h : Nat) (w : World) (e : Ending) (w' : World) : Prop :=
  ∃ lk lv ld rk rv rd s, e = .returned (.tuple #[nodeV (x.cutL h) lk lv ld, s, nodeV (x.cutR h) rk rv rd]) ∧
    Kept (fun k => k < w.heap.size) w' (fun w2 => NodeAt w2 lk lv ld (x.cutL h) ∧ NodeAt w2 rk rv rd (x.cutR h) ∧ Reads 1 w2 s (x.keys.getD h []).length ((x.keys.getD h []).map B)) ∧ Below w.heap.size w w'

theorem Nd.ok.cut {x : Nd} (h : x.ok) (b : Bool) (K V : List (List UInt8)) (D : List Int) (n : Int) (_ : b = b) (hK : ∀ l ∈ K, l ∈ x.keys) (hV : ∀ l ∈ V, l ∈ x.vals) (h1 : K.length ≤ x.keys.length) (h2 : V.length ≤ x.vals.length) (h3 : D.length ≤ x.kids.length) : (⟨b, K, V, D, n⟩ : Nd).ok :=
  ⟨Nat.le_trans h1 h.keys, Nat.le_trans h2 h.vals, Nat.le_trans h3 h.kids, fun l hl => h.keys2 l (hK l hl), fun l hl => h.vals2 l (hV l hl)⟩

theorem Texts.some_addr {w : World} {ao : Option Addr} {n c : Nat} {L : List (List UInt8)} (h : Texts w (.slice ao n c) L) (hn : 0 < L.length) : ∃ b off, ao = some ⟨b, off, none⟩ := by
  obtain ⟨xs, ⟨ao', cap', he, hl, hc, hr⟩, _⟩ := h
  injection he with e1 e2 e3
  subst e1
  obtain ⟨b, off, rfl, _⟩ := hr hn
  exact ⟨b, off, rfl⟩

theorem Texts.take {w : World} {b o n c : Nat} {L : List (List UInt8)} (h : Texts w (.slice (some ⟨b, o, none⟩) n c) L) (k m : Nat) (hn : L.length = n) (hk : k ≤ n) (hm : m = k) : Texts w (.slice (some ⟨b, o, none⟩) m c) (L.take k) := by
  subst hm
  obtain ⟨xs, hr, ht⟩ := h
  rw [hn] at hr
  obtain ⟨ao', cap', he, hl, hle, hc⟩ := hr
  injection he with h1 h2 h3
  subst h1 h3
  have e : (L.take m).length = m := by rw [List.length_take]; omega
  refine ⟨xs.take m, ?_, ht.take m⟩
  rw [e]
  refine ⟨_, _, rfl, by rw [List.length_take, hl]; omega, by omega, fun hpos => ?_⟩
  obtain ⟨b', o', hb, hlt, hcell⟩ := hc (by omega)
  injection hb with hb
  injection hb with e1 e2
  subst e1 e2
  refine ⟨b, o, rfl, hlt, fun j u hu => ?_⟩
  rw [List.getElem?_take] at hu
  split at hu
  · exact hcell j u hu
  · cases hu

theorem Texts.drop {w : World} {b o n c : Nat} {L : List (List UInt8)} (h : Texts w (.slice (some ⟨b, o, none⟩) n c) L) (k m c' : Nat) (hn : L.length = n) (hk : k ≤ n) (hm : m = n - k) (hc' : m ≤ c') : Texts w (.slice (some ⟨b, o + k, none⟩) m c') (L.drop k) := by
  subst hm
  obtain ⟨xs, hr, ht⟩ := h
  rw [hn] at hr
  obtain ⟨ao', cap', he, hl, hle, hc⟩ := hr
  injection he with h1 h2 h3
  subst h1 h3
  have e : (L.drop k).length = n - k := by rw [List.length_drop, hn]
  refine ⟨xs.drop k, ?_, ht.drop k⟩
  rw [e]
  refine ⟨_, _, rfl, by rw [List.length_drop, hl, Nat.mul_one, Nat.mul_one], hc', fun hpos => ?_⟩
  obtain ⟨b', o', hb, hlt, hcell⟩ := hc (by omega)
  injection hb with hb
  injection hb with e1 e2
  subst e1 e2
  refine ⟨b, o + k, rfl, hlt, fun j u hu => ?_⟩
  rw [List.getElem?_drop] at hu
  rw [Nat.add_assoc]
  exact hcell (k + j) u hu

/-- one of the texts -/
theorem Texts.at {w : World} {b o n c : Nat} {L : List (List UInt8)} (h : Texts w (.slice (some ⟨b, o, none⟩) n c) L) (k : Nat) (hk : k < L.length) :
    ∃ a0 c0, w.cell? ⟨b, o + k, none⟩ = some (.slice a0 L[k].length c0) ∧ b < w.heap.size ∧ Reads 1 w (.slice a0 L[k].length c0) L[k].length (L[k].map B) := by
  obtain ⟨xs, hr, ht⟩ := h
  obtain ⟨ao', cap', he, hl, hle, hc⟩ := hr
  injection he with h1 h2 h3
  subst h1 h2 h3
  obtain ⟨b', o', hb, hlt, hcell⟩ := hc (by omega)
  injection hb with hb
  injection hb with e1 e2
  subst e1 e2
  have hx : k < xs.length := by omega
  have hr2 := ht.2 k _ _ (List.getElem?_eq_getElem hx) (List.getElem?_eq_getElem hk)
  have hc2 := hcell k _ (List.getElem?_eq_getElem hx)
  obtain ⟨a0, c0, he, _⟩ := id hr2
  rw [he] at hr2 hc2
  exact ⟨a0, c0, hc2, hlt, hr2⟩

theorem Texts.at_kept {B0 : Nat} {w : World} {b o n c : Nat} {L : List (List UInt8)} (hk : Kept (fun k => k < B0) w (fun w2 => Texts w2 (.slice (some ⟨b, o, none⟩) n c) L)) (k : Nat) (hkl : k < L.length) :
    ∃ a0 c0, w.cell? ⟨b, o + k, none⟩ = some (.slice a0 L[k].length c0) ∧ (b < w.heap.size ∧ ¬ b < B0) ∧ Kept (fun k => k < B0) w (fun w2 => Reads 1 w2 (.slice a0 L[k].length c0) L[k].length (L[k].map B)) := by
  obtain ⟨a0, c0, h1, h2, h3⟩ := hk.now.at k hkl
  have hnb : ¬ b < B0 := kept_above (X := fun k => k < B0) (o := o + k) hk (fun w2 h => by
    obtain ⟨_, _, h, _⟩ := h.at k hkl
    exact ⟨_, h⟩)
  refine ⟨a0, c0, h1, ⟨h2, hnb⟩, fun w2 hg => ?_⟩
  obtain ⟨a1, c1, k1, k2, k3⟩ := (hk w2 hg).at k hkl
  have hcell : w2.cell? ⟨b, o + k, none⟩ = w.cell? ⟨b, o + k, none⟩ := by
    have := hg.block b h2 hnb
    simp only [World.cell?, this]
  rw [hcell, h1] at k1
  injection k1 with k1
  injection k1 with e1 _ e3
  subst e1 e3
  exact k3

theorem copied_sl (x : Nd) (ks vs ds : Value) (w : World) (hx : NodeAt w ks vs ds x) (hok : x.ok) (b : Bool) (n : Int) (nk nv nd : Nat) (hb : x.leaf = b) (hn : x.next = n) (hk : x.keys.length = nk) (hv : x.vals.length = nv) (hd : x.kids.length = nd) :
    Calls Try.prog 27 #[.agg #[.bool b, ks, vs, ds, .int .i64 n]] w fun e w' => ∃ ak av ad, e = .returned (.agg #[.bool b, .slice ak nk nk, .slice av nv nv, .slice ad nd nd, .int .i64 n]) ∧
      Kept (fun k => k < w.heap.size) w' (fun w2 => NodeAt w2 (.slice ak nk nk) (.slice av nv nv) (.slice ad nd nd) x) ∧ Below w.heap.size w w' := by
  subst hb hn hk hv hd
  exact copied_any x ks vs ds w hx hok

end Go.Proofs.Ytfbblgcdggpehaa

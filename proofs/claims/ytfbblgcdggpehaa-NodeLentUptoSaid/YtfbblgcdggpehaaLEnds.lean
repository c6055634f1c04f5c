/- What Put, Del, Split, Merge hand back may be spoilt: it is all new memory. Conditions: short lists. -/
import Derived.Test.YtfbblgcdggpehaaLSpoilW
import Derived.Test.YtfbblgcdggpehaaLSplit
import Derived.Test.YtfbblgcdggpehaaLMergeI
import Derived.Test.YtfbblgcdggpehaaNDelN
import Derived.Test.YtfbblgcdggpehaaNPutP
namespace Go.Proofs.Ytfbblgcdggpehaa
set_option linter.unusedSimpArgs false
set_option linter.unusedVariables false
open Go.RowKit

/-- a node that may be spoilt, all in new memory -/
def SpoilEnd (w w' : World) (v : Value) : Prop :=
  ∃ b a1 n1 c1 a2 n2 c2 a3 n3 c3 n, v = .agg #[.bool b, .slice a1 n1 c1, .slice a2 n2 c2, .slice a3 n3 c3, .int .i64 n] ∧ SpoilOk w.heap.size w'.heap.size w' (.slice a1 n1 c1) (.slice a2 n2 c2) (.slice a3 n3 c3) ∧ Below w.heap.size w w'
theorem NodeEnd.spoil {y : Nd} {w w' : World} {v : Value} (h : NodeEnd y w w' v) (hok : y.ok) : SpoilEnd w w' v := by
  obtain ⟨ak, av, ad, rfl, hk, hb⟩ := h
  exact ⟨y.leaf, _, _, _, _, _, _, _, _, _, y.next, rfl, hk.now.spoil hok, hb⟩
theorem put_spoil (x : Nd) (hsm : x.small) (hk1 : x.keys.length + 1 ≤ 1048576) (hv1 : x.vals.length + 1 ≤ 1048576) (ks vs ds : Value) (k v : List UInt8) (kv vv : Value) (w : World) (hx : NodeAt w ks vs ds x) (hk : Reads 1 w kv k.length (k.map B)) (hv : Reads 1 w vv v.length (v.map B)) (hkl : k.length ≤ 1048576) (hvl : v.length ≤ 1048576) (b : Bool) (n : Int) (hb : x.leaf = b) (hn : x.next = n) :
    Calls Try.prog 20 #[.agg #[.bool b, ks, vs, ds, .int .i64 n], kv, vv] w fun e w' => ∃ r, e = .returned r ∧ SpoilEnd w w' r := by
  subst hb hn
  refine (put_any x hsm ks vs ds k v kv vv w hx hk hv hkl hvl).mono ?_
  rintro e w' ⟨r, rfl, h⟩
  exact ⟨r, rfl, h.spoil (hsm.put hk1 hv1 hkl hvl).ok⟩
theorem del_spoil (x : Nd) (hsm : x.small) (ks vs ds : Value) (k : List UInt8) (kv : Value) (w : World) (hx : NodeAt w ks vs ds x) (hk : Reads 1 w kv k.length (k.map B)) (hkl : k.length ≤ 1048576) (b : Bool) (n : Int) (hb : x.leaf = b) (hn : x.next = n) :
    Calls Try.prog 19 #[.agg #[.bool b, ks, vs, ds, .int .i64 n], kv] w fun e w' => ∃ r ok, e = .returned (.tuple #[r, .bool ok]) ∧ SpoilEnd w w' r := by
  subst hb hn
  refine (del_any x hsm ks vs ds k kv w hx hk hkl).mono ?_
  rintro e w' ⟨r, rfl, h⟩
  exact ⟨r, _, rfl, h.spoil (hsm.del k).ok⟩
theorem split_spoil (x : Nd) (hsm : x.small) (ks vs ds : Value) (w : World) (hx : NodeAt w ks vs ds x) (b : Bool) (n : Int) (hb : x.leaf = b) (hn : x.next = n) :
    Calls Try.prog 11 #[.agg #[.bool b, ks, vs, ds, .int .i64 n]] w fun e w' => ∃ b1 a1 n1 c1 a2 n2 c2 a3 n3 c3 m1 a0 n0 c0 b2 a4 n4 c4 a5 n5 c5 a6 n6 c6 m2,
      e = .returned (.tuple #[.agg #[.bool b1, .slice a1 n1 c1, .slice a2 n2 c2, .slice a3 n3 c3, .int .i64 m1], .slice a0 n0 c0, .agg #[.bool b2, .slice a4 n4 c4, .slice a5 n5 c5, .slice a6 n6 c6, .int .i64 m2]]) ∧
      SpoilOk w.heap.size w'.heap.size w' (.slice a1 n1 c1) (.slice a2 n2 c2) (.slice a3 n3 c3) ∧ BytesOk w.heap.size w'.heap.size w' (.slice a0 n0 c0) ∧ SpoilOk w.heap.size w'.heap.size w' (.slice a4 n4 c4) (.slice a5 n5 c5) (.slice a6 n6 c6) ∧ Below w.heap.size w w' := by
  by_cases hc : 2 ≤ x.keys.length ∧ x.fits = true
  · refine (splitO_many x ks vs ds w hx hsm.ok hc.2 hc.1 b n hb hn).mono ?_
    rintro e w' ⟨lk, lv, ld, rk, rv, rd, s, rfl, hk, hB⟩
    obtain ⟨h1, h2, h3, h4⟩ := hk.now
    obtain ⟨⟨i1, i2, i3, rfl⟩, ⟨i4, i5, i6, rfl⟩, i7, i8, i9, rfl⟩ := h1.node.shape
    obtain ⟨⟨j1, j2, j3, rfl⟩, ⟨j4, j5, j6, rfl⟩, j7, j8, j9, rfl⟩ := h2.node.shape
    obtain ⟨s1, s3, rfl⟩ := h3.shape
    refine ⟨_, _, _, _, _, _, _, _, _, _, _, _, _, _, _, _, _, _, _, _, _, _, _, _, _, rfl, h1.spoil (hsm.cutL _).ok, BytesOk.of h3 h4 ?_, h2.spoil (hsm.cutR _).ok, hB⟩
    have : x.keys.length / 2 < x.keys.length := by omega
    rw [List.getD_eq_getElem?_getD, List.getElem?_eq_getElem this]
    exact hsm.ok.keys2 _ (List.getElem_mem this)
  · refine (splitO_few x ks vs ds w hx hsm.ok (by
      by_cases h2 : 2 ≤ x.keys.length
      · right
        cases hf : x.fits with
        | true => exact absurd ⟨h2, hf⟩ hc
        | false => rfl
      · left; omega) b n hb hn).mono ?_
    rintro e w' ⟨lk, lv, ld, rfl, hk, hB⟩
    have h1 := hk.now
    obtain ⟨⟨i1, i2, i3, rfl⟩, ⟨i4, i5, i6, rfl⟩, i7, i8, i9, rfl⟩ := h1.node.shape
    exact ⟨_, _, _, _, _, _, _, _, _, _, _, _, _, _, _, _, _, _, _, _, _, _, _, _, _, rfl, h1.spoil hsm.ok, BytesOk.nil, SpoilOk.nil, hB⟩
theorem NewEndO.spoil {y : Nd} {w w' : World} {e : Ending} (h : NewEndO y w e w') (hok : y.ok) : ∃ r, e = .returned r ∧ SpoilEnd w w' r := by
  obtain ⟨ak, av, ad, rfl, hk, hb⟩ := h
  exact ⟨_, rfl, y.leaf, _, _, _, _, _, _, _, _, _, y.next, rfl, hk.now.spoil hok, hb⟩
theorem merge_spoil (x : Nd) (hsm : x.small) (ks vs ds : Value) (k : List UInt8) (kv : Value) (w : World) (hx : NodeAt w ks vs ds x) (hk : Reads 1 w kv k.length (k.map B)) (hkl : k.length ≤ 1048576) (b : Bool) (n : Int) (hb : x.leaf = b) (hn : x.next = n) :
    Calls Try.prog 12 #[.agg #[.bool b, ks, vs, ds, .int .i64 n], kv, .agg #[.bool b, ks, vs, ds, .int .i64 n]] w fun e w' => ∃ r, e = .returned r ∧ SpoilEnd w w' r := by
  have hm : ∀ {l : List UInt8}, l ∈ x.keys ++ x.keys → l.length ≤ 1099511627776 := fun hl => hsm.ok.keys2 _ (by rcases List.mem_append.1 hl with h | h <;> exact h)
  have hmv : ∀ l ∈ x.vals ++ x.vals, l.length ≤ 1099511627776 := fun l hl => hsm.ok.vals2 _ (by rcases List.mem_append.1 hl with h | h <;> exact h)
  have q1 := hsm.keys
  have q2 := hsm.vals
  have q3 := hsm.kids
  have ho : kv.oneCell' = true := by obtain ⟨_, _, e, _⟩ := hk; rw [e]; rfl
  cases hf : x.fits with
  | true =>
    cases b with
    | true =>
      refine (mergeO_leaf x x ks vs ds kv ks vs ds w hx hsm.ok hx hsm.ok n n hf hf hb hn hb hn).mono ?_
      intro e w' h
      exact h.spoil ⟨by simp; omega, by simp; omega, by simp; omega, fun l hl => hm hl, hmv⟩
    | false =>
      refine (mergeO_inner x x ks vs ds kv ks vs ds w hx hsm.ok hx hsm.ok n n hf hf k k.length hk (by omega) hb hn hb hn).mono ?_
      intro e w' h
      exact h.spoil ⟨by simp; omega, by simp; omega, by simp; omega, fun l hl => by
        have hl : l ∈ x.keys ++ [k] ++ x.keys := hl
        rcases List.mem_append.1 hl with h | h
        · rcases List.mem_append.1 h with h | h
          · exact hsm.ok.keys2 _ h
          · rw [List.mem_singleton.1 h]; omega
        · exact hsm.ok.keys2 _ h, hmv⟩
  | false =>
    cases b with
    | true =>
      refine (mergeO_untrue x x ks vs ds kv ks vs ds w hx hsm.ok hx hsm.ok n n hf ho hb hn hb hn).mono ?_
      intro e w' h
      exact h.spoil hsm.ok
    | false =>
      refine (mergeO_unfalse x x ks vs ds kv ks vs ds w hx hsm.ok hx hsm.ok n n hf ho hb hn hb hn).mono ?_
      intro e w' h
      exact h.spoil hsm.ok
end Go.Proofs.Ytfbblgcdggpehaa

/- What the law's spoil does to a node in new memory: writes into that memory alone. Conditions: none. -/
import Derived.Test.YtfbblgcdggpehaaLMerge
namespace Go.Proofs.Ytfbblgcdggpehaa
set_option linter.unusedSimpArgs false
set_option linter.unusedVariables false
open Go.RowKit

/-- n cells that may be written, in blocks from G up to E -/
def SpanOk (G E : Nat) (w : World) (p : Value → Prop) (v : Value) : Prop :=
  ∃ a n c, v = .slice a n c ∧ n ≤ 1099511627776 ∧ (0 < n → ∃ b o, a = some ⟨b, o, none⟩ ∧ n ≤ c ∧ G ≤ b ∧ b < E ∧ b < w.heap.size ∧ (∀ j, w.frozen? ⟨b, j, none⟩ = false) ∧ ∀ j, j < n → ∃ u, w.cell? ⟨b, o + j, none⟩ = some u ∧ p u)
theorem SpanOk.sl {G E : Nat} {w : World} {p : Value → Prop} {a : Option Addr} {n c : Nat} (h : SpanOk G E w p (.slice a n c)) (hn : 0 < n) :
    ∃ b o, a = some ⟨b, o, none⟩ ∧ n ≤ c ∧ G ≤ b ∧ b < E ∧ b < w.heap.size ∧ (∀ j, w.frozen? ⟨b, j, none⟩ = false) ∧ ∀ j, j < n → ∃ u, w.cell? ⟨b, o + j, none⟩ = some u ∧ p u := by
  obtain ⟨a', n', c', he, _, h⟩ := h
  injection he with e1 e2 e3
  rw [e1, e2, e3]
  exact h (by omega)
def IsU8 (v : Value) : Prop := ∃ x, v = .int .u8 x
def IsI64 (v : Value) : Prop := ∃ x, v = .int .i64 x
def BytesOk (G E : Nat) (w : World) (v : Value) : Prop := SpanOk G E w IsU8 v
def IntsOk (G E : Nat) (w : World) (v : Value) : Prop := SpanOk G E w IsI64 v
def RowOk (G E : Nat) (w : World) (v : Value) : Prop := SpanOk G E w (BytesOk G E w) v

theorem SpanOk.le {G E : Nat} {w : World} {p : Value → Prop} {a : Option Addr} {n c : Nat} (h : SpanOk G E w p (.slice a n c)) : n ≤ 1099511627776 := by
  obtain ⟨a', n', c', he, hm, _⟩ := h
  injection he with e1 e2 e3
  omega
/-- what may follow what in a cell -/
def Turns (u v : Value) : Prop := u = v ∨ (IsU8 u ∧ IsU8 v) ∨ (IsI64 u ∧ IsI64 v) ∨ ((∃ a n c, u = .slice a n c) ∧ v = .slice none 0 0)
/-- a world behind writes into blocks from G up to E that keep to the cells' kinds -/
structure Turn (G E : Nat) (w w' : World) : Prop where
  grow : GrowC (fun b _ => G ≤ b ∧ b < E) w w'
  cell : ∀ b o u, w.cell? ⟨b, o, none⟩ = some u → ∃ v, w'.cell? ⟨b, o, none⟩ = some v ∧ Turns u v
theorem Turns.refl (u : Value) : Turns u u := .inl rfl
theorem Turns.trans {u v x : Value} (h : Turns u v) (k : Turns v x) : Turns u x := by
  rcases h with rfl | ⟨h1, h2⟩ | ⟨h1, h2⟩ | ⟨h1, rfl⟩
  · exact k
  · rcases k with rfl | ⟨_, k2⟩ | ⟨⟨y, k1⟩, _⟩ | ⟨⟨_, _, _, k1⟩, _⟩
    · exact .inr (.inl ⟨h1, h2⟩)
    · exact .inr (.inl ⟨h1, k2⟩)
    · obtain ⟨z, h2⟩ := h2; rw [h2] at k1; cases k1
    · obtain ⟨z, h2⟩ := h2; rw [h2] at k1; cases k1
  · rcases k with rfl | ⟨⟨y, k1⟩, _⟩ | ⟨_, k2⟩ | ⟨⟨_, _, _, k1⟩, _⟩
    · exact .inr (.inr (.inl ⟨h1, h2⟩))
    · obtain ⟨z, h2⟩ := h2; rw [h2] at k1; cases k1
    · exact .inr (.inr (.inl ⟨h1, k2⟩))
    · obtain ⟨z, h2⟩ := h2; rw [h2] at k1; cases k1
  · rcases k with rfl | ⟨⟨y, k1⟩, _⟩ | ⟨⟨y, k1⟩, _⟩ | ⟨_, k2⟩
    · exact .inr (.inr (.inr ⟨h1, rfl⟩))
    · cases k1
    · cases k1
    · exact .inr (.inr (.inr ⟨h1, k2⟩))
theorem Turn.refl (G E : Nat) (w : World) : Turn G E w w := ⟨GrowC.refl w, fun b o u h => ⟨u, h, .refl u⟩⟩
theorem Turn.trans {G E : Nat} {w w' w'' : World} (h : Turn G E w w') (k : Turn G E w' w'') : Turn G E w w'' :=
  ⟨h.grow.trans k.grow, fun b o u hu => by
    obtain ⟨v, h1, h2⟩ := h.cell b o u hu
    obtain ⟨x, h3, h4⟩ := k.cell b o v h1
    exact ⟨x, h3, h2.trans h4⟩⟩
theorem Turn.set {G E : Nat} {w : World} {b o : Nat} {u v : Value} (h : w.cell? ⟨b, o, none⟩ = some u) (hG : G ≤ b) (hE : b < E) (hl : b < w.heap.size) (ht : Turns u v) : Turn G E w (w.setCell ⟨b, o, none⟩ v) :=
  ⟨(GrowC.refl w).setCell ⟨hG, hE⟩ hl _, fun b' o' u' hu => by
    by_cases e : (⟨b', o', none⟩ : Addr) = ⟨b, o, none⟩
    · rw [e] at hu
      rw [h] at hu
      obtain rfl := Option.some.inj hu
      rw [e]
      exact ⟨v, World.cell?_setCell_same _ _ _ h, ht⟩
    · exact ⟨u', (World.cell?_setCell_other _ _ _ _ (fun e2 => e e2.symm)).trans hu, .refl _⟩⟩
theorem Turn.grown {G E : Nat} {w w' : World} (h : Below w.heap.size w w') : Turn G E w w' :=
  ⟨GrowC.of_grow h, fun b o u hu => ⟨u, (h.cell (p := ⟨b, o, none⟩) (World.block_lt_of_cell? w _ hu)).trans hu, .refl _⟩⟩
theorem SpanOk.turn {G E : Nat} {w w' : World} {p q : Value → Prop} {v : Value} (h : SpanOk G E w p v) (ht : Turn G E w w') (hp : ∀ u v, p u → Turns u v → q v) : SpanOk G E w' q v := by
  obtain ⟨a, n, c, rfl, hm, h⟩ := h
  refine ⟨a, n, c, rfl, hm, fun hn => ?_⟩
  obtain ⟨b, o, rfl, hc, hG, hE, hl, hf, hcell⟩ := h hn
  refine ⟨b, o, rfl, hc, hG, hE, Nat.lt_of_lt_of_le hl ht.grow.size, fun j => (ht.grow.frozen b j hl).trans (hf j), fun j hj => ?_⟩
  obtain ⟨u, hu, hpu⟩ := hcell j hj
  obtain ⟨u', hu', htt⟩ := ht.cell _ _ _ hu
  exact ⟨u', hu', hp _ _ hpu htt⟩
theorem BytesOk.turn {G E : Nat} {w w' : World} {v : Value} (h : BytesOk G E w v) (ht : Turn G E w w') : BytesOk G E w' v :=
  SpanOk.turn h ht (fun u v ⟨x, hx⟩ ht => by
    rcases ht with rfl | ⟨_, h2⟩ | ⟨⟨y, h2⟩, _⟩ | ⟨⟨_, _, _, h2⟩, _⟩
    · exact ⟨x, hx⟩
    · exact h2
    · rw [hx] at h2; cases h2
    · rw [hx] at h2; cases h2)
theorem IntsOk.turn {G E : Nat} {w w' : World} {v : Value} (h : IntsOk G E w v) (ht : Turn G E w w') : IntsOk G E w' v :=
  SpanOk.turn h ht (fun u v ⟨x, hx⟩ ht => by
    rcases ht with rfl | ⟨⟨y, h2⟩, _⟩ | ⟨_, h2⟩ | ⟨⟨_, _, _, h2⟩, _⟩
    · exact ⟨x, hx⟩
    · rw [hx] at h2; cases h2
    · exact h2
    · rw [hx] at h2; cases h2)
theorem BytesOk.nil {G E : Nat} {w : World} : BytesOk G E w (.slice none 0 0) := ⟨none, 0, 0, rfl, by decide, fun h => absurd h (by decide)⟩
theorem RowOk.turn {G E : Nat} {w w' : World} {v : Value} (h : RowOk G E w v) (ht : Turn G E w w') : RowOk G E w' v :=
  SpanOk.turn h ht (fun u v hb htt => by
    rcases htt with rfl | ⟨⟨y, h2⟩, _⟩ | ⟨⟨y, h2⟩, _⟩ | ⟨_, rfl⟩
    · exact hb.turn ht
    · obtain ⟨_, _, _, e, _⟩ := hb; rw [h2] at e; cases e
    · obtain ⟨_, _, _, e, _⟩ := hb; rw [h2] at e; cases e
    · exact BytesOk.nil)
/-- of a slice that reads so, in new memory -/
theorem SpanOk.of {G : Nat} {w : World} {p : Value → Prop} {v : Value} {n : Nat} {xs : List Value} (hr : Reads 1 w v n xs) (hn : NewS G w v) (hm : n ≤ 1099511627776) (hp : ∀ u ∈ xs, p u) : SpanOk G w.heap.size w p v := by
  obtain ⟨a, c, rfl, hl, hc, hcell⟩ := hr
  refine ⟨a, n, c, rfl, hm, fun h0 => ?_⟩
  obtain ⟨b, o, rfl, hlt, hcc⟩ := hcell h0
  obtain ⟨hG, hf⟩ := hn b o n c rfl h0
  refine ⟨b, o, rfl, hc, hG, hlt, hlt, hf, fun j hj => ?_⟩
  have hj2 : j < xs.length := by omega
  exact ⟨xs[j], hcc j _ (List.getElem?_eq_getElem hj2), hp _ (List.getElem_mem hj2)⟩
theorem BytesOk.of {G : Nat} {w : World} {v : Value} {n : Nat} {l : List UInt8} (hr : Reads 1 w v n (l.map B)) (hn : NewS G w v) (hm : n ≤ 1099511627776) : BytesOk G w.heap.size w v :=
  SpanOk.of hr hn hm (fun u hu => by obtain ⟨x, _, rfl⟩ := List.mem_map.1 hu; exact ⟨_, rfl⟩)
theorem IntsOk.of {G : Nat} {w : World} {v : Value} {n : Nat} {l : List Int} (hr : Reads 1 w v n (l.map I)) (hn : NewS G w v) (hm : n ≤ 1099511627776) : IntsOk G w.heap.size w v :=
  SpanOk.of hr hn hm (fun u hu => by obtain ⟨x, _, rfl⟩ := List.mem_map.1 hu; exact ⟨_, rfl⟩)
theorem RowOk.of {G : Nat} {w : World} {v : Value} {n : Nat} {L : List (List UInt8)} {xs : List Value} (hr : Reads 1 w v n xs) (ht : TOwn G w xs L) (hn : NewS G w v) (hm : n ≤ 1099511627776) (hL : ∀ l ∈ L, l.length ≤ 1099511627776) : RowOk G w.heap.size w v :=
  SpanOk.of hr hn hm (fun u hu => by
    obtain ⟨i, hi, rfl⟩ := List.getElem_of_mem hu
    have hi2 : i < L.length := by rw [← ht.reads.1]; exact hi
    exact BytesOk.of (ht.reads.2 i _ _ (List.getElem?_eq_getElem hi) (List.getElem?_eq_getElem hi2)) (ht.new _ hu) (hL _ (List.getElem_mem hi2)))
/-- a node that may be spoilt -/
structure SpoilOk (G E : Nat) (w : World) (ks vs ds : Value) : Prop where
  keys : RowOk G E w ks
  vals : RowOk G E w vs
  kids : IntsOk G E w ds
theorem NodeO.spoil {G : Nat} {w : World} {ks vs ds : Value} {x : Nd} (h : NodeO G w ks vs ds x) (hok : x.ok) : SpoilOk G w.heap.size w ks vs ds := by
  obtain ⟨⟨xk, h1, h2⟩, ⟨xv, h3, h4⟩, h5, h6, h7, h8⟩ := h
  exact ⟨RowOk.of h1 h2 h6 hok.keys hok.keys2, RowOk.of h3 h4 h7 hok.vals hok.vals2, IntsOk.of h5 h8 hok.kids⟩
theorem SpoilOk.turn {G E : Nat} {w w' : World} {ks vs ds : Value} (h : SpoilOk G E w ks vs ds) (ht : Turn G E w w') : SpoilOk G E w' ks vs ds := ⟨h.keys.turn ht, h.vals.turn ht, h.kids.turn ht⟩
theorem SpoilOk.nil {G E : Nat} {w : World} : SpoilOk G E w (.slice none 0 0) (.slice none 0 0) (.slice none 0 0) :=
  ⟨⟨none, 0, 0, rfl, by decide, fun h => absurd h (by decide)⟩, ⟨none, 0, 0, rfl, by decide, fun h => absurd h (by decide)⟩, ⟨none, 0, 0, rfl, by decide, fun h => absurd h (by decide)⟩⟩

theorem Turn.box {G E g : Nat} {w w' : World} {vs : List Value} (h : Turn G E w w') (ba : Box w g vs) (hE : E ≤ g) : Box w' g vs := ba.grow h.grow (fun i _ => by omega)

set_option maxRecDepth 100000 in
set_option maxHeartbeats 12800000 in
theorem spoil_any (b : Bool) (n : Int) (ks vs ds : Value) (G E : Nat) (w : World) (hE : E ≤ w.heap.size) (h : SpoilOk G E w ks vs ds) :
    Calls Try.prog 25 #[.agg #[.bool b, ks, vs, ds, .int .i64 n]] w fun e w' => e = .returned (.tuple #[]) ∧ Turn G E w w' := by
  obtain ⟨ka, nk, kc, rfl, _⟩ := id h.keys
  obtain ⟨va, nv, vc, rfl, _⟩ := id h.vals
  obtain ⟨da, nd, dc, rfl, _⟩ := id h.kids
  obtain ⟨g, hg0⟩ : ∃ g, w.heap.size = g := ⟨_, rfl⟩
  have ba := Box.new w #[.bool b, .slice ka nk kc, .slice va nv vc, .slice da nd dc, .int .i64 n] 25 hg0.symm
  have ht : Turn G E w (w.alloc (.cells #[.bool b, .slice ka nk kc, .slice va nv vc, .slice da nd dc, .int .i64 n] 25)) := Turn.grown ((Below.refl w.heap.size w).alloc (Nat.le_refl _) _)
  have mk := SpanOk.le h.keys
  have mv := SpanOk.le h.vals
  have md := SpanOk.le h.kids
  have H := Lib.hid h
  have HG := Lib.hid hg0
  have HW := Lib.hid (And.intro ba ht)
  have hEg : E ≤ g := by omega
  clear h hg0 ba ht
  go_enter Try.func25, Try.ntmps25
  go_wp2_with fail
  rw [HG.out]
  refine wp_world (fun u => Box u g [.bool b, .slice ka nk kc, .slice va nv vc, .slice da nd dc, .int .i64 n] ∧ Turn G E w u) HW.out ?_
  clear HW
  rintro w0 ⟨ba, ht⟩
  go_loopw [2] (fun i wr => ∃ j : Nat, j ≤ nk ∧ i = .int .i64 j ∧ Box wr g [.bool b, .slice ka nk kc, .slice va nv vc, .slice da nd dc, .int .i64 n] ∧ Turn G E w wr) (fun i _ => nk - (intOf i).toNat)
  case atStart => exact ⟨0, Nat.zero_le _, rfl, ba, ht⟩
  case round =>
    clear ba ht
    obtain ⟨j, hj, rfl, ba, ht⟩ := hrel
    by_cases hlt : j < nk
    · have hrow : RowOk G E wr (.slice ka nk _) := H.out.keys.turn ht
      obtain ⟨bk, ok, rfl, _, hGb, hEb, hl, hf, hc⟩ := SpanOk.sl hrow (by omega)
      obtain ⟨s0, hs, sa, sm, sc, rfl, msm, hsb⟩ := hc j hlt
      have HS := Lib.hid hs
      clear hrow hc hsb hs hf hl
      have ca0 := ba.cell 0 _ rfl
      have ca1 := ba.cell 1 _ rfl
      have ca2 := ba.cell 2 _ rfl
      have ca3 := ba.cell 3 _ rfl
      have ca4 := ba.cell 4 _ rfl
      have fa := ba.free
      go_wp2_with fail
      clear ca0 ca1 ca2 ca3 ca4 fa
      go_loopw [3] (fun i u => ∃ q : Nat, q ≤ sm ∧ i = .int .i64 q ∧ Box u g [.bool b, .slice (some ⟨bk, ok, none⟩) nk kc, .slice va nv vc, .slice da nd dc, .int .i64 n] ∧ Turn G E w u ∧ u.cell? ⟨bk, ok + j, none⟩ = some (.slice sa sm sc)) (fun i _ => sm - (intOf i).toNat)
      case atStart => exact ⟨0, Nat.zero_le _, rfl, ba, ht, HS.out⟩
      case round =>
        clear ba ht HS
        obtain ⟨q, hq, rfl, ba, ht, hs⟩ := hrel
        obtain ⟨b0, o0, e4, _, _, _, hl, hf, hc⟩ := SpanOk.sl (H.out.keys.turn ht : RowOk G E _ (.slice _ nk _)) (by omega)
        injection e4 with e4
        injection e4 with e5 e6
        rw [← e5] at hl hf hc
        rw [← e6] at hc
        clear e5 e6
        obtain ⟨s0, hs2, hbo⟩ := hc j hlt
        obtain rfl := Option.some.inj (hs.symm.trans hs2)
        clear hs2 hc
        have HS := Lib.hid hs
        by_cases hlq : q < sm
        · obtain ⟨b2, o2, rfl, _, hG2, hE2, hl2, hf2, hc2⟩ := SpanOk.sl hbo (by omega)
          obtain ⟨u0, hu, z, rfl⟩ := hc2 q hlq
          have HU := Lib.hid hu
          have HT := Lib.hid ht
          have HL2 := Lib.hid hl2
          clear hbo hc2 ht hl2
          have ca0 := ba.cell 0 _ rfl
          have ca1 := ba.cell 1 _ rfl
          have ca2 := ba.cell 2 _ rfl
          have ca3 := ba.cell 3 _ rfl
          have ca4 := ba.cell 4 _ rfl
          have fa := ba.free
          go_wp2
          go_roundw
          case rel =>
            have hst := Turn.set (v := .int .u8 (IntKind.u8.wrap (z + 1))) HU.out hG2 hE2 HL2.out (.inr (.inl ⟨⟨_, rfl⟩, ⟨_, rfl⟩⟩))
            refine ⟨q + 1, by omega, by go_num, hst.box ba hEg, HT.out.trans hst, (World.cell?_setCell_other _ _ _ _ (fun e => ?_)).trans HS.out⟩
            have h1 := HU.out
            rw [e, HS.out] at h1
            cases h1
          case measure => simp [intOf]; omega
        · obtain rfl : sm = q := by omega
          have HT := Lib.hid ht
          have HL := Lib.hid hl
          clear hbo ht hl
          have ca0 := ba.cell 0 _ rfl
          have ca1 := ba.cell 1 _ rfl
          have ca2 := ba.cell 2 _ rfl
          have ca3 := ba.cell 3 _ rfl
          have ca4 := ba.cell 4 _ rfl
          have fa := ba.free
          go_wp2
          go_roundw
          case rel =>
            have hst := Turn.set (v := .slice none 0 0) HS.out hGb hEb HL.out (.inr (.inr (.inr ⟨⟨_, _, _, rfl⟩, rfl⟩)))
            exact ⟨j + 1, by omega, by go_num, hst.box ba hEg, HT.out.trans hst⟩
          case measure => simp [intOf]; omega
    · obtain rfl : nk = j := by omega
      have ca0 := ba.cell 0 _ rfl
      have ca1 := ba.cell 1 _ rfl
      have ca2 := ba.cell 2 _ rfl
      have ca3 := ba.cell 3 _ rfl
      have ca4 := ba.cell 4 _ rfl
      have fa := ba.free
      go_wp2_with fail
      clear ca0 ca1 ca2 ca3 ca4 fa
      go_loopw [4] (fun i wr => ∃ j : Nat, j ≤ nd ∧ i = .int .i64 j ∧ Box wr g [.bool b, .slice ka nk kc, .slice va nv vc, .slice da nd dc, .int .i64 n] ∧ Turn G E w wr) (fun i _ => nd - (intOf i).toNat)
      case atStart => exact ⟨0, Nat.zero_le _, rfl, ba, ht⟩
      case round =>
        clear ba ht
        obtain ⟨j, hj, rfl, ba, ht⟩ := hrel
        by_cases hlt : j < nd
        · have hrow : IntsOk G E wr (.slice da nd _) := H.out.kids.turn ht
          obtain ⟨bk, ok, rfl, _, hGb, hEb, hl, hf, hc⟩ := SpanOk.sl hrow (by omega)
          obtain ⟨s0, hs, z, rfl⟩ := hc j hlt
          have HS := Lib.hid hs
          have HT := Lib.hid ht
          have HL := Lib.hid hl
          clear hrow hc ht hl
          have ca0 := ba.cell 0 _ rfl
          have ca1 := ba.cell 1 _ rfl
          have ca2 := ba.cell 2 _ rfl
          have ca3 := ba.cell 3 _ rfl
          have ca4 := ba.cell 4 _ rfl
          have fa := ba.free
          go_wp2
          go_roundw
          case rel =>
            have hst := Turn.set (v := .int .i64 (-5)) HS.out hGb hEb HL.out (.inr (.inr (.inl ⟨⟨_, rfl⟩, ⟨_, rfl⟩⟩)))
            exact ⟨j + 1, by omega, by go_num, hst.box ba hEg, HT.out.trans hst⟩
          case measure => simp [intOf]; omega
        · obtain rfl : nd = j := by omega
          have ca0 := ba.cell 0 _ rfl
          have ca1 := ba.cell 1 _ rfl
          have ca2 := ba.cell 2 _ rfl
          have ca3 := ba.cell 3 _ rfl
          have ca4 := ba.cell 4 _ rfl
          have fa := ba.free
          go_wp2_with fail
          clear ca0 ca1 ca2 ca3 ca4 fa
          go_loopw [5] (fun i wr => ∃ j : Nat, j ≤ nv ∧ i = .int .i64 j ∧ Box wr g [.bool b, .slice ka nk kc, .slice va nv vc, .slice da nd dc, .int .i64 n] ∧ Turn G E w wr) (fun i _ => nv - (intOf i).toNat)
          case atStart => exact ⟨0, Nat.zero_le _, rfl, ba, ht⟩
          case round =>
            clear ba ht
            obtain ⟨j, hj, rfl, ba, ht⟩ := hrel
            by_cases hlt : j < nv
            · have hrow : RowOk G E wr (.slice va nv _) := H.out.vals.turn ht
              obtain ⟨bk, ok, rfl, _, hGb, hEb, hl, hf, hc⟩ := SpanOk.sl hrow (by omega)
              obtain ⟨s0, hs, sa, sm, sc, rfl, msm, hsb⟩ := hc j hlt
              have HS := Lib.hid hs
              clear hrow hc hsb hs hf hl
              have ca0 := ba.cell 0 _ rfl
              have ca1 := ba.cell 1 _ rfl
              have ca2 := ba.cell 2 _ rfl
              have ca3 := ba.cell 3 _ rfl
              have ca4 := ba.cell 4 _ rfl
              have fa := ba.free
              go_wp2_with fail
              clear ca0 ca1 ca2 ca3 ca4 fa
              go_loopw [6] (fun i u => ∃ q : Nat, q ≤ sm ∧ i = .int .i64 q ∧ Box u g [.bool b, .slice ka nk kc, .slice (some ⟨bk, ok, none⟩) nv vc, .slice da nd dc, .int .i64 n] ∧ Turn G E w u ∧ u.cell? ⟨bk, ok + j, none⟩ = some (.slice sa sm sc)) (fun i _ => sm - (intOf i).toNat)
              case atStart => exact ⟨0, Nat.zero_le _, rfl, ba, ht, HS.out⟩
              case round =>
                clear ba ht HS
                obtain ⟨q, hq, rfl, ba, ht, hs⟩ := hrel
                obtain ⟨b0, o0, e4, _, _, _, hl, hf, hc⟩ := SpanOk.sl (H.out.vals.turn ht : RowOk G E _ (.slice _ nv _)) (by omega)
                injection e4 with e4
                injection e4 with e5 e6
                rw [← e5] at hl hf hc
                rw [← e6] at hc
                clear e5 e6
                obtain ⟨s0, hs2, hbo⟩ := hc j hlt
                obtain rfl := Option.some.inj (hs.symm.trans hs2)
                clear hs2 hc
                have HS := Lib.hid hs
                by_cases hlq : q < sm
                · obtain ⟨b2, o2, rfl, _, hG2, hE2, hl2, hf2, hc2⟩ := SpanOk.sl hbo (by omega)
                  obtain ⟨u0, hu, z, rfl⟩ := hc2 q hlq
                  have HU := Lib.hid hu
                  have HT := Lib.hid ht
                  have HL2 := Lib.hid hl2
                  clear hbo hc2 ht hl2
                  have ca0 := ba.cell 0 _ rfl
                  have ca1 := ba.cell 1 _ rfl
                  have ca2 := ba.cell 2 _ rfl
                  have ca3 := ba.cell 3 _ rfl
                  have ca4 := ba.cell 4 _ rfl
                  have fa := ba.free
                  go_wp2
                  go_roundw
                  case rel =>
                    have hst := Turn.set (v := .int .u8 (IntKind.u8.wrap (z + 1))) HU.out hG2 hE2 HL2.out (.inr (.inl ⟨⟨_, rfl⟩, ⟨_, rfl⟩⟩))
                    refine ⟨q + 1, by omega, by go_num, hst.box ba hEg, HT.out.trans hst, (World.cell?_setCell_other _ _ _ _ (fun e => ?_)).trans HS.out⟩
                    have h1 := HU.out
                    rw [e, HS.out] at h1
                    cases h1
                  case measure => simp [intOf]; omega
                · obtain rfl : sm = q := by omega
                  have HT := Lib.hid ht
                  have HL := Lib.hid hl
                  clear hbo ht hl
                  have ca0 := ba.cell 0 _ rfl
                  have ca1 := ba.cell 1 _ rfl
                  have ca2 := ba.cell 2 _ rfl
                  have ca3 := ba.cell 3 _ rfl
                  have ca4 := ba.cell 4 _ rfl
                  have fa := ba.free
                  go_wp2
                  go_roundw
                  case rel => exact ⟨j + 1, by omega, by go_num, ba, HT.out⟩
                  case measure => simp [intOf]; omega
            · obtain rfl : nv = j := by omega
              have ca0 := ba.cell 0 _ rfl
              have ca1 := ba.cell 1 _ rfl
              have ca2 := ba.cell 2 _ rfl
              have ca3 := ba.cell 3 _ rfl
              have ca4 := ba.cell 4 _ rfl
              have fa := ba.free
              go_wp2
              go_end0
              exact ⟨rfl, ht⟩

end Go.Proofs.Ytfbblgcdggpehaa

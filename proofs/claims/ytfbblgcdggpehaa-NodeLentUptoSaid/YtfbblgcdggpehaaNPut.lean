/- What node.Put answers. Conditions: short lists. -/
import Derived.Test.YtfbblgcdggpehaaNDel
import Derived.Deep.DeepCutAuto
namespace Go.Proofs.Ytfbblgcdggpehaa
set_option linter.unusedSimpArgs false
set_option linter.unusedVariables false
open Go.RowKit

/-- a leaf with a key -/
def Nd.put (x : Nd) (k v : List UInt8) : Nd :=
  if x.leaf && x.fits then
    if fhas x.keys k then ⟨x.leaf, x.keys, x.vals.set (fpos x.keys k) v, x.kids, x.next⟩
    else ⟨x.leaf, x.keys.take (fpos x.keys k) ++ k :: x.keys.drop (fpos x.keys k), x.vals.take (fpos x.keys k) ++ v :: x.vals.drop (fpos x.keys k), x.kids, x.next⟩
  else x
/-- a leaf without a key -/
def Nd.delOk (x : Nd) (k : List UInt8) : Bool := x.leaf && x.fits && fhas x.keys k
def Nd.del (x : Nd) (k : List UInt8) : Nd :=
  if x.delOk k then ⟨x.leaf, x.keys.eraseIdx (fpos x.keys k), x.vals.eraseIdx (fpos x.keys k), x.kids, x.next⟩ else x

theorem NodeO.mono {G G' : Nat} {w : World} {ks vs ds : Value} {x : Nd} (h : NodeO G w ks vs ds x) (hG : G' ≤ G) : NodeO G' w ks vs ds x := by
  obtain ⟨⟨xk, h1, h2⟩, ⟨xv, h3, h4⟩, h5, h6, h7, h8⟩ := h
  exact ⟨⟨xk, h1, h2.mono hG⟩, ⟨xv, h3, h4.mono hG⟩, h5, h6.mono hG, h7.mono hG, h8.mono hG⟩

/-- a node is answered, in new memory -/
def NodeEnd (y : Nd) (w : World) (w' : World) (v : Value) : Prop :=
  ∃ ak av ad, v = nodeV y (.slice ak y.keys.length y.keys.length) (.slice av y.vals.length y.vals.length) (.slice ad y.kids.length y.kids.length) ∧
    Kept (fun k => k < w.heap.size) w' (fun w2 => NodeO w.heap.size w2 (.slice ak y.keys.length y.keys.length) (.slice av y.vals.length y.vals.length) (.slice ad y.kids.length y.kids.length) y) ∧ Below w.heap.size w w'

theorem ownsRow_set {w : World} {base e : Nat} {g n cap p : Nat} {ys : List Value} (h : w.ownsRow base e 1 (.slice (some ⟨g, 0, none⟩) n cap) n ys) (hp : p < n) (v : Value) :
    (w.setCell ⟨g, p, none⟩ v).ownsRow base e 1 (.slice (some ⟨g, 0, none⟩) n cap) n (ys.set p v) := by
  rcases h.2 with ⟨h', _⟩ | ⟨g', cap', cur, h', hb, hg, hnc, hcm, hcs, ht⟩
  · cases h'
  injection h' with e1 _ e3
  injection e1 with e1
  injection e1 with e1
  subst e1 e3
  refine ⟨by simpa using h.1, .inr ⟨g, cap, cur.setIfInBounds p v, rfl, hb, heap_setCell_same w g p cur e v hg, hnc, hcm, by simpa using hcs, ?_⟩⟩
  rw [Nat.mul_one] at ht ⊢
  rw [← ht, Array.toList_setIfInBounds, List.take_set]

theorem TextsAt.set {w : World} {xs : List Value} {L : List (List UInt8)} (h : TextsAt w xs L) (p : Nat) {s : Value} {l : List UInt8} (hs : Reads 1 w s l.length (l.map B)) : TextsAt w (xs.set p s) (L.set p l) := by
  refine ⟨by simp [h.1], fun i s' l' h1 h2 => ?_⟩
  rw [List.getElem?_set] at h1 h2
  by_cases e : p = i
  · subst e
    simp only [if_true] at h1 h2
    split at h1
    · split at h2
      · obtain rfl := Option.some.inj h1
        obtain rfl := Option.some.inj h2
        exact hs
      · cases h2
    · cases h1
  · rw [if_neg e] at h1 h2
    exact h.2 i s' l' h1 h2
theorem TOwn.set {G : Nat} {w : World} {xs : List Value} {L : List (List UInt8)} (h : TOwn G w xs L) (p : Nat) {s : Value} {l : List UInt8} (hs : Reads 1 w s l.length (l.map B)) (hn : NewS G w s) : TOwn G w (xs.set p s) (L.set p l) :=
  ⟨h.reads.set p hs, fun s' hm => (List.mem_or_eq_of_mem_set hm).elim (h.new s') (fun e => e ▸ hn)⟩
theorem TOwn.ins {G : Nat} {w : World} {xs : List Value} {L : List (List UInt8)} (h : TOwn G w xs L) (p : Nat) {s : Value} {l : List UInt8} (hs : Reads 1 w s l.length (l.map B)) (hn : NewS G w s) : TOwn G w (xs.take p ++ s :: xs.drop p) (L.take p ++ l :: L.drop p) :=
  (h.take p).append ((TOwn.one hs hn).append (h.drop p))
theorem TOwn.erase {G : Nat} {w : World} {xs : List Value} {L : List (List UInt8)} (h : TOwn G w xs L) (p : Nat) : TOwn G w (xs.eraseIdx p) (L.eraseIdx p) := by
  rw [List.eraseIdx_eq_take_drop_succ, List.eraseIdx_eq_take_drop_succ]
  exact (h.take p).append (h.drop (p + 1))
theorem TOwn.one_cell {G : Nat} {w : World} {xs : List Value} {L : List (List UInt8)} (h : TOwn G w xs L) : ∀ u ∈ xs, u.oneCell' = true := h.reads.one_cell

theorem reads_zero {w : World} {a : Option Addr} : Reads 1 w (.slice a 0 0) ([] : List Int).length (([] : List Int).map I) := ⟨a, 0, rfl, rfl, Nat.le_refl _, fun h => absurd h (by decide)⟩
theorem ins_len {α : Type} (l : List α) (p : Nat) (a : α) (hp : p ≤ l.length) : (l.take p ++ a :: l.drop p).length = l.length + 1 := by simp; omega


theorem DO.set {G : Nat} {u : World} {va : Value} {gv n cv p : Nat} {A C : List (List UInt8)} {xs ys : List Value} (h : DO G u va (.slice (some ⟨gv, 0, none⟩) n cv) A xs C ys) (hn : C.length = n) (hp : p < n) {s : Value} {l : List UInt8}
    (hs : Kept (XR G va (.slice (some ⟨gv, 0, none⟩) n cv)) u (fun w => Reads 1 w s l.length (l.map B) ∧ NewS G w s)) :
    DO G (u.setCell ⟨gv, p, none⟩ s) va (.slice (some ⟨gv, 0, none⟩) n cv) A xs (C.set p l) (ys.set p s) := by
  have hb := h.b
  rw [hn] at hb
  have hX : GrowX (fun k => k = gv) u (u.setCell ⟨gv, p, none⟩ s) := (GrowX.refl u).setCell (X := fun k => k = gv) rfl s
  have hX1 : GrowX (XR G va (.slice (some ⟨gv, 0, none⟩) n cv)) u (u.setCell ⟨gv, p, none⟩ s) := hX.mono (fun k e => .inr (.inr (by subst e; rfl)))
  refine ⟨own_growx h.a hX (fun q e e2 => h.ne q e (by subst e2; rfl)), by rw [List.length_set, hn]; exact ownsRow_set hb hp s, ?_, h.ne, Nat.le_trans h.le hX.size⟩
  exact ((h.t.and hs).grow hX1).imp (fun w hw => ⟨hw.1.1, hw.1.2.set p hw.2.1 hw.2.2⟩)
theorem DO.insA {G : Nat} {u u' : World} {va vb : Value} {A C : List (List UInt8)} {xs ys : List Value} (h : DO G u va vb A xs C ys) (hg : Grow u u') {g1 n c p : Nat} {s : Value} {l : List UInt8} (hn : A.length = n) (hp : p ≤ n)
    (hown : u'.ownsRow u.heap.size 28 1 (.slice (some ⟨g1, 0, none⟩) (n + 1) c) (n + 1) (xs.take p ++ s :: xs.drop p)) (hs : Kept (XR G va vb) u (fun w => Reads 1 w s l.length (l.map B) ∧ NewS G w s)) :
    DO G u' (.slice (some ⟨g1, 0, none⟩) (n + 1) c) vb (A.take p ++ l :: A.drop p) (xs.take p ++ s :: xs.drop p) C ys := by
  have h1 := (hown.lt g1 rfl).1
  have hG := h.le
  refine ⟨by rw [ins_len _ _ _ (by omega), hn]; exact own_base hown hG, own_growx h.b (GrowX.of_grow (X := fun _ => False) hg) (fun _ _ hf => hf), ?_, fun q e1 e2 => ?_, Nat.le_trans hG hg.size⟩
  · refine (Kept.turn (h.t.and hs) (GrowX.of_grow hg) (fun k hk => ?_)).imp (fun w hw => ⟨hw.1.1.ins p hw.2.1 hw.2.2, hw.1.2⟩)
    rcases hk with hk | hk | hk
    · exact .inl (.inl hk)
    · have : g1 = k := by simpa [Value.ownBlock] using hk
      exact .inr (by omega)
    · exact .inl (.inr (.inr hk))
  · have : g1 = q := by simpa [Value.ownBlock] using e1
    have := (h.b.lt q e2).2
    omega
theorem DO.insB {G : Nat} {u u' : World} {va vb : Value} {A C : List (List UInt8)} {xs ys : List Value} (h : DO G u va vb A xs C ys) (hg : Grow u u') {g1 n c p : Nat} {s : Value} {l : List UInt8} (hn : C.length = n) (hp : p ≤ n)
    (hown : u'.ownsRow u.heap.size 28 1 (.slice (some ⟨g1, 0, none⟩) (n + 1) c) (n + 1) (ys.take p ++ s :: ys.drop p)) (hs : Kept (XR G va vb) u (fun w => Reads 1 w s l.length (l.map B) ∧ NewS G w s)) :
    DO G u' va (.slice (some ⟨g1, 0, none⟩) (n + 1) c) A xs (C.take p ++ l :: C.drop p) (ys.take p ++ s :: ys.drop p) := by
  have h1 := (hown.lt g1 rfl).1
  have hG := h.le
  refine ⟨own_growx h.a (GrowX.of_grow (X := fun _ => False) hg) (fun _ _ hf => hf), by rw [ins_len _ _ _ (by omega), hn]; exact own_base hown hG, ?_, fun q e1 e2 => ?_, Nat.le_trans hG hg.size⟩
  · refine (Kept.turn (h.t.and hs) (GrowX.of_grow hg) (fun k hk => ?_)).imp (fun w hw => ⟨hw.1.1, hw.1.2.ins p hw.2.1 hw.2.2⟩)
    rcases hk with hk | hk | hk
    · exact .inl (.inl hk)
    · exact .inl (.inr (.inl hk))
    · have : g1 = k := by simpa [Value.ownBlock] using hk
      exact .inr (by omega)
  · have : g1 = q := by simpa [Value.ownBlock] using e2
    have := (h.a.lt q e1).2
    omega
theorem XR.turnA {G : Nat} {u u' : World} {va vb : Value} {q : World → Prop} (h : Kept (XR G va vb) u q) (hg : Grow u u') {g1 n c : Nat} (h1 : u.heap.size ≤ g1) : Kept (XR G (.slice (some ⟨g1, 0, none⟩) n c) vb) u' q :=
  Kept.turn h (GrowX.of_grow hg) (fun k hk => by
    rcases hk with hk | hk | hk
    · exact .inl (.inl hk)
    · have : g1 = k := by simpa [Value.ownBlock] using hk
      exact .inr (by omega)
    · exact .inl (.inr (.inr hk)))
/-- a new slice beside the rows that were there -/
theorem DO.beside {G e : Nat} {u u' : World} {va vb : Value} {A C : List (List UInt8)} {xs ys : List Value} (h : DO G u va vb A xs C ys) {a1 : Option Addr} {n c : Nat} {l : List UInt8} (hn : l.length = n)
    (hs : Kept (fun k => k < u.heap.size) u' (fun w => w.ownsRow u.heap.size e 1 (.slice a1 n c) n (l.map B))) : Kept (XR G va vb) u' (fun w => Reads 1 w (.slice a1 n n) l.length (l.map B) ∧ NewS G w (.slice a1 n n)) := by
  refine (hs.mono (fun k _ hk => ?_)).imp (fun w hw => ⟨by rw [hn]; exact (Reads.of_own hw).tight, (NewS.own hw).mono h.le⟩)
  rcases hk with hk | hk | hk
  · have := h.le; show k < _; omega
  · exact (h.a.lt k hk).2
  · exact (h.b.lt k hk).2

theorem copied_b (x : Nd) (ks vs ds : Value) (w : World) (hx : NodeAt w ks vs ds x) (hok : x.ok) (b : Bool) (n : Int) (nk nv nd : Nat) (h1 : x.leaf = b) (h2 : x.next = n) (h3 : x.keys.length = nk) (h4 : x.vals.length = nv) (h5 : x.kids.length = nd) :
    Calls Try.prog 27 #[.agg #[.bool b, ks, vs, ds, .int .i64 n]] w fun e w' =>
      ∃ ak ck xk av cv xv ad, e = .returned (.agg #[.bool b, .slice ak nk nk, .slice av nv nv, .slice ad nd nd, .int .i64 n]) ∧
        DO w.heap.size w' (.slice ak nk ck) (.slice av nv cv) x.keys xk x.vals xv ∧ Kept (fun k => k < w.heap.size) w' (fun w2 => Reads 1 w2 (.slice ad nd nd) nd (x.kids.map I) ∧ NewS w.heap.size w2 (.slice ad nd nd)) ∧ Below w.heap.size w w' := by
  subst h1 h2 h3 h4 h5
  exact copied_own x ks vs ds w hx hok
theorem fits_b (x : Nd) (ks vs ds : Value) (w : World) (hx : NodeAt w ks vs ds x) (hok : x.ok) (b f : Bool) (n : Int) (h1 : x.leaf = b) (h2 : x.next = n) (h3 : x.fits = f) :
    Calls Try.prog 26 #[.agg #[.bool b, ks, vs, ds, .int .i64 n]] w fun e w' => e = .returned (.bool f) ∧ Below w.heap.size w w' := by
  subst h1 h2 h3
  exact fits_any x ks vs ds w hx hok
theorem DO.at {G : Nat} {u : World} {ak av : Option Addr} {nk ck nv cv nd : Nat} {xs ys : List Value} {x : Nd} {ds : Value} (h : DO G u (.slice ak nk ck) (.slice av nv cv) x.keys xs x.vals ys) (hk : x.keys.length = nk) (hv : x.vals.length = nv) (hn : x.kids.length = nd)
    (hd : Kept (fun k => k < G) u (fun w => Reads 1 w ds nd (x.kids.map I) ∧ NewS G w ds)) : Kept (fun k => k < G) u (fun w => NodeO G w (.slice ak nk nk) (.slice av nv nv) ds x) := by
  subst hn
  exact h.node hk.symm hv.symm hd


set_option maxRecDepth 100000 in
set_option maxHeartbeats 6400000 in
theorem put_inner (x : Nd) (hsm : x.small) (hlf : x.leaf = false) (ks vs ds : Value) (k v : List UInt8) (kv vv : Value) (w : World) (hx : NodeAt w ks vs ds x) (hk : Reads 1 w kv k.length (k.map B)) (hv : Reads 1 w vv v.length (v.map B)) (hkl : k.length ≤ 1048576) (hvl : v.length ≤ 1048576) :
    Calls Try.prog 20 #[.agg #[.bool x.leaf, ks, vs, ds, .int .i64 x.next], kv, vv] w fun e w' => ∃ r, e = .returned r ∧ NodeEnd (x.put k v) w w' r := by
  obtain ⟨ka, kc, rfl⟩ := hk.shape
  obtain ⟨va, vc, rfl⟩ := hv.shape
  obtain ⟨kl, hkl2⟩ : ∃ q, k.length = q := ⟨_, rfl⟩
  obtain ⟨vl, hvl2⟩ : ∃ q, v.length = q := ⟨_, rfl⟩
  rw [hkl2] at hk hkl ⊢
  rw [hvl2] at hv hvl ⊢
  have HKL := Lib.hid hkl2
  have HVL := Lib.hid hvl2
  have HKR := Lib.hid hk
  have HVR := Lib.hid hv
  clear hk hv hkl2 hvl2
  have hput : x.put k v = x := by unfold Nd.put; rw [if_neg (by rw [hlf]; simp)]
  have HPUT := Lib.hid hput
  clear hput
  obtain ⟨o1, o2, o3⟩ := hx.one
  obtain ⟨nk, hnk⟩ : ∃ nk, x.keys.length = nk := ⟨_, rfl⟩
  obtain ⟨nv, hnv⟩ : ∃ nv, x.vals.length = nv := ⟨_, rfl⟩
  obtain ⟨nd, hnd⟩ : ∃ nd, x.kids.length = nd := ⟨_, rfl⟩
  obtain ⟨nx, hnx⟩ : ∃ nx, x.next = nx := ⟨_, rfl⟩
  have hkm : nk ≤ 1048576 := hnk ▸ hsm.keys
  have hvm : nv ≤ 1048576 := hnv ▸ hsm.vals
  have hdm : nd ≤ 1048577 := hnd ▸ hsm.kids
  rw [hlf, hnx]
  obtain ⟨g, hg0⟩ : ∃ g, w.heap.size = g := ⟨_, rfl⟩
  have ba := (Box.new w #[.bool false, ks, vs, ds, .int .i64 nx] 25 hg0.symm).alloc (.cells #[.bool false, .slice none 0 0, .slice none 0 0, .slice none 0 0, .int .i64 0] 25)
  have bz : Box _ _ [.bool false, .slice none 0 0, .slice none 0 0, .slice none 0 0, .int .i64 0] := Box.new (w.alloc (.cells #[.bool false, ks, vs, ds, .int .i64 nx] 25)) #[.bool false, .slice none 0 0, .slice none 0 0, .slice none 0 0, .int .i64 0] 25 (g := g + 1) (by simp; omega)
  have hB := ((Below.refl w.heap.size w).alloc (Nat.le_refl _) (.cells #[.bool false, ks, vs, ds, .int .i64 nx] 25)).alloc (by simp) (.cells #[.bool false, .slice none 0 0, .slice none 0 0, .slice none 0 0, .int .i64 0] 25)
  have HG := Lib.hid hg0
  have hx2 := hx.below hB (Nat.le_refl _)
  have hs2 : ((w.alloc (.cells #[.bool false, ks, vs, ds, .int .i64 nx] 25)).alloc (.cells #[.bool false, .slice none 0 0, .slice none 0 0, .slice none 0 0, .int .i64 0] 25)).heap.size = g + 2 := by simp; omega
  have HW := Lib.hid (And.intro ba (And.intro bz (And.intro hB (And.intro hx2 hs2))))
  have HNK := Lib.hid hnk
  have HNV := Lib.hid hnv
  have HND := Lib.hid hnd
  have HNX := Lib.hid hnx
  have HLF := Lib.hid hlf
  clear hx ba bz hB hg0 hx2 hs2 hnk hnv hnd hnx hlf
  go_enter Try.func20, Try.ntmps20
  go_wp2_with fail
  rw [HG.out]
  have hgw : w.heap.size ≤ g := Nat.le_of_eq HG.out
  refine calls_world (fun u => Box u g [.bool false, ks, vs, ds, .int .i64 nx] ∧ Box u (g + 1) [.bool false, .slice none 0 0, .slice none 0 0, .slice none 0 0, .int .i64 0] ∧ Below w.heap.size w u ∧ NodeAt u ks vs ds x ∧ u.heap.size = g + 2) HW.out ?_
  clear HW
  rintro w0 ⟨ba, bz, hB, hx, hs0⟩
  refine (copied_b x ks vs ds w0 hx hsm.ok false nx nk nv nd HLF.out HNX.out HNK.out HNV.out HND.out).mono ?_
  rintro e w1 ⟨ak, ck, xk, av, cv, xv, ad, rfl, hdo, hkd, hb1⟩
  rw [hs0] at hdo hkd
  replace ba := ba.below hb1 (Nat.le_refl _)
  replace bz := bz.below hb1 (Nat.le_refl _)
  have hs1 : g + 2 ≤ w1.heap.size := by have := hb1.size; omega
  replace hB := hB.trans (hb1.mono (by omega))
  have hst := ba.set5 (.bool false) (.slice ak nk nk) (.slice av nv nv) (.slice ad nd nd) (.int .i64 nx)
  have hgx := GrowX.of_growC (Y := fun q => q < g + 2) hst.2 (fun q i e => by omega)
  have HW := Lib.hid (And.intro hst.1 (And.intro (bz.grow hst.2 (by intros; omega)) (And.intro (hB.trans (hst.2.below (fun k hk => ⟨by omega, fun _ => by omega⟩))) (And.intro (hdo.grow hgx) (And.intro (hkd.grow hgx) (Nat.le_trans hs1 hst.2.size))))))
  clear hb1 hx hs0 hst hgx hdo hkd hB
  have ca0 := ba.cell 0 _ rfl
  have ca1 := ba.cell 1 _ rfl
  have ca2 := ba.cell 2 _ rfl
  have ca3 := ba.cell 3 _ rfl
  have ca4 := ba.cell 4 _ rfl
  have fa := ba.free
  go_upto_region 2 with (fail)
  clear ca0 ca1 ca2 ca3 ca4 fa
  clear ba bz hs1
  refine wp_world (fun u => Box u g [.bool false, .slice ak nk nk, .slice av nv nv, .slice ad nd nd, .int .i64 nx] ∧ Box u (g + 1) [.bool false, .slice none 0 0, .slice none 0 0, .slice none 0 0, .int .i64 0] ∧ Below w.heap.size w u ∧ DO (g + 2) u (.slice ak nk ck) (.slice av nv cv) x.keys xk x.vals xv ∧ Kept (fun k => k < g + 2) u (fun w2 => Reads 1 w2 (.slice ad nd nd) nd (x.kids.map I) ∧ NewS (g + 2) w2 (.slice ad nd nd)) ∧ g + 2 ≤ u.heap.size) HW.out ?_
  clear HW
  rintro w2 ⟨ba, bz, hB, hdo, hkd, hs2⟩
  have hz := bz.set5 (.bool false) (.slice ak nk nk) (.slice av nv nv) (.slice ad nd nd) (.int .i64 nx)
  have hgx := GrowX.of_growC (Y := fun q => q < g + 2) hz.2 (fun q i e => by omega)
  have hBF := hB.trans (hz.2.below (fun k hk => ⟨by omega, fun _ => by omega⟩))
  have hkF := ((hdo.at HNK.out HNV.out HND.out hkd).grow hgx).mono (Y := fun k => k < w.heap.size) (fun k _ h => by omega)
  have HBF := Lib.hid hBF
  have HKF := Lib.hid hkF
  clear hz hgx hBF hkF
  have ca0 := ba.cell 0 _ rfl
  have ca1 := ba.cell 1 _ rfl
  have ca2 := ba.cell 2 _ rfl
  have ca3 := ba.cell 3 _ rfl
  have ca4 := ba.cell 4 _ rfl
  have fa := ba.free
  have cz0 := bz.cell 0 _ rfl
  have cz1 := bz.cell 1 _ rfl
  have cz2 := bz.cell 2 _ rfl
  have cz3 := bz.cell 3 _ rfl
  have cz4 := bz.cell 4 _ rfl
  have fz := bz.free
  go_wp2
  refine bodyPost_ret (v := .agg #[.bool false, .slice ak nk nk, .slice av nv nv, .slice ad nd nd, .int .i64 nx]) (by simp [results, Try.results20, go_sem, cz0, cz1, cz2, cz3, cz4]) rfl ?_
  refine ⟨_, rfl, ?_⟩
  rw [HPUT.out]
  exact ⟨ak, av, ad, by simp only [nodeV, HLF.out, HNX.out, HNK.out, HNV.out, HND.out], by rw [HNK.out, HNV.out, HND.out]; exact HKF.out.imp (fun _ h => h.mono (by omega)), HBF.out⟩

set_option maxRecDepth 100000 in
set_option maxHeartbeats 6400000 in
theorem put_unfit (x : Nd) (hsm : x.small) (hlf : x.leaf = true) (ks vs ds : Value) (k v : List UInt8) (hft : x.fits = false) (kv vv : Value) (w : World) (hx : NodeAt w ks vs ds x) (hk : Reads 1 w kv k.length (k.map B)) (hv : Reads 1 w vv v.length (v.map B)) (hkl : k.length ≤ 1048576) (hvl : v.length ≤ 1048576) :
    Calls Try.prog 20 #[.agg #[.bool x.leaf, ks, vs, ds, .int .i64 x.next], kv, vv] w fun e w' => ∃ r, e = .returned r ∧ NodeEnd (x.put k v) w w' r := by
  obtain ⟨ka, kc, rfl⟩ := hk.shape
  obtain ⟨va, vc, rfl⟩ := hv.shape
  obtain ⟨kl, hkl2⟩ : ∃ q, k.length = q := ⟨_, rfl⟩
  obtain ⟨vl, hvl2⟩ : ∃ q, v.length = q := ⟨_, rfl⟩
  rw [hkl2] at hk hkl ⊢
  rw [hvl2] at hv hvl ⊢
  have HKL := Lib.hid hkl2
  have HVL := Lib.hid hvl2
  have HKR := Lib.hid hk
  have HVR := Lib.hid hv
  clear hk hv hkl2 hvl2
  have HFT := Lib.hid hft
  clear hft
  have hput : x.put k v = x := by unfold Nd.put; rw [if_neg (by rw [hlf, HFT.out]; simp)]
  have HPUT := Lib.hid hput
  clear hput
  obtain ⟨o1, o2, o3⟩ := hx.one
  obtain ⟨nk, hnk⟩ : ∃ nk, x.keys.length = nk := ⟨_, rfl⟩
  obtain ⟨nv, hnv⟩ : ∃ nv, x.vals.length = nv := ⟨_, rfl⟩
  obtain ⟨nd, hnd⟩ : ∃ nd, x.kids.length = nd := ⟨_, rfl⟩
  obtain ⟨nx, hnx⟩ : ∃ nx, x.next = nx := ⟨_, rfl⟩
  have hkm : nk ≤ 1048576 := hnk ▸ hsm.keys
  have hvm : nv ≤ 1048576 := hnv ▸ hsm.vals
  have hdm : nd ≤ 1048577 := hnd ▸ hsm.kids
  rw [hlf, hnx]
  obtain ⟨g, hg0⟩ : ∃ g, w.heap.size = g := ⟨_, rfl⟩
  have ba := (Box.new w #[.bool true, ks, vs, ds, .int .i64 nx] 25 hg0.symm).alloc (.cells #[.bool false, .slice none 0 0, .slice none 0 0, .slice none 0 0, .int .i64 0] 25)
  have bz : Box _ _ [.bool false, .slice none 0 0, .slice none 0 0, .slice none 0 0, .int .i64 0] := Box.new (w.alloc (.cells #[.bool true, ks, vs, ds, .int .i64 nx] 25)) #[.bool false, .slice none 0 0, .slice none 0 0, .slice none 0 0, .int .i64 0] 25 (g := g + 1) (by simp; omega)
  have hB := ((Below.refl w.heap.size w).alloc (Nat.le_refl _) (.cells #[.bool true, ks, vs, ds, .int .i64 nx] 25)).alloc (by simp) (.cells #[.bool false, .slice none 0 0, .slice none 0 0, .slice none 0 0, .int .i64 0] 25)
  have HG := Lib.hid hg0
  have hx2 := hx.below hB (Nat.le_refl _)
  have hs2 : ((w.alloc (.cells #[.bool true, ks, vs, ds, .int .i64 nx] 25)).alloc (.cells #[.bool false, .slice none 0 0, .slice none 0 0, .slice none 0 0, .int .i64 0] 25)).heap.size = g + 2 := by simp; omega
  have HW := Lib.hid (And.intro ba (And.intro bz (And.intro hB (And.intro hx2 hs2))))
  have HNK := Lib.hid hnk
  have HNV := Lib.hid hnv
  have HND := Lib.hid hnd
  have HNX := Lib.hid hnx
  have HLF := Lib.hid hlf
  clear hx ba bz hB hg0 hx2 hs2 hnk hnv hnd hnx hlf
  go_enter Try.func20, Try.ntmps20
  go_wp2_with fail
  rw [HG.out]
  have hgw : w.heap.size ≤ g := Nat.le_of_eq HG.out
  refine calls_world (fun u => Box u g [.bool true, ks, vs, ds, .int .i64 nx] ∧ Box u (g + 1) [.bool false, .slice none 0 0, .slice none 0 0, .slice none 0 0, .int .i64 0] ∧ Below w.heap.size w u ∧ NodeAt u ks vs ds x ∧ u.heap.size = g + 2) HW.out ?_
  clear HW
  rintro w0 ⟨ba, bz, hB, hx, hs0⟩
  refine (copied_b x ks vs ds w0 hx hsm.ok true nx nk nv nd HLF.out HNX.out HNK.out HNV.out HND.out).mono ?_
  rintro e w1 ⟨ak, ck, xk, av, cv, xv, ad, rfl, hdo, hkd, hb1⟩
  rw [hs0] at hdo hkd
  replace ba := ba.below hb1 (Nat.le_refl _)
  replace bz := bz.below hb1 (Nat.le_refl _)
  have hs1 : g + 2 ≤ w1.heap.size := by have := hb1.size; omega
  replace hB := hB.trans (hb1.mono (by omega))
  have hst := ba.set5 (.bool true) (.slice ak nk nk) (.slice av nv nv) (.slice ad nd nd) (.int .i64 nx)
  have hgx := GrowX.of_growC (Y := fun q => q < g + 2) hst.2 (fun q i e => by omega)
  have HW := Lib.hid (And.intro hst.1 (And.intro (bz.grow hst.2 (by intros; omega)) (And.intro (hB.trans (hst.2.below (fun k hk => ⟨by omega, fun _ => by omega⟩))) (And.intro (hdo.grow hgx) (And.intro (hkd.grow hgx) (Nat.le_trans hs1 hst.2.size))))))
  clear hb1 hx hs0 hst hgx hdo hkd hB
  have ca0 := ba.cell 0 _ rfl
  have ca1 := ba.cell 1 _ rfl
  have ca2 := ba.cell 2 _ rfl
  have ca3 := ba.cell 3 _ rfl
  have ca4 := ba.cell 4 _ rfl
  have fa := ba.free
  go_upto_region 2 with (fail)
  clear ca0 ca1 ca2 ca3 ca4 fa
  clear ba bz hs1
  refine wp_world (fun u => Box u g [.bool true, .slice ak nk nk, .slice av nv nv, .slice ad nd nd, .int .i64 nx] ∧ Box u (g + 1) [.bool false, .slice none 0 0, .slice none 0 0, .slice none 0 0, .int .i64 0] ∧ Below w.heap.size w u ∧ DO (g + 2) u (.slice ak nk ck) (.slice av nv cv) x.keys xk x.vals xv ∧ Kept (fun k => k < g + 2) u (fun w2 => Reads 1 w2 (.slice ad nd nd) nd (x.kids.map I) ∧ NewS (g + 2) w2 (.slice ad nd nd)) ∧ g + 2 ≤ u.heap.size) HW.out ?_
  clear HW
  rintro w2 ⟨ba, bz, hB, hdo, hkd, hs2⟩
  have ca0 := ba.cell 0 _ rfl
  have ca1 := ba.cell 1 _ rfl
  have ca2 := ba.cell 2 _ rfl
  have ca3 := ba.cell 3 _ rfl
  have ca4 := ba.cell 4 _ rfl
  have fa := ba.free
  go_wp2_with fail
  clear ca0 ca1 ca2 ca3 ca4 fa
  have hno := (hdo.at HNK.out HNV.out HND.out hkd).now.node
  refine (fits_b x _ _ _ w2 hno hsm.ok true false nx HLF.out HNX.out HFT.out).mono ?_
  rintro e w3 ⟨rfl, hb3⟩
  replace ba := ba.below hb3 (Nat.le_refl _)
  replace bz := bz.below hb3 (Nat.le_refl _)
  replace hB := hB.trans (hb3.mono (by omega))
  replace hdo := hdo.grow (GrowX.of_grow hb3)
  replace hkd := hkd.grow (GrowX.of_grow hb3)
  replace hs2 := Nat.le_trans hs2 hb3.size
  clear hno hb3
  have hz := bz.set5 (.bool true) (.slice ak nk nk) (.slice av nv nv) (.slice ad nd nd) (.int .i64 nx)
  have hgx := GrowX.of_growC (Y := fun q => q < g + 2) hz.2 (fun q i e => by omega)
  have hBF := hB.trans (hz.2.below (fun k hk => ⟨by omega, fun _ => by omega⟩))
  have hkF := ((hdo.at HNK.out HNV.out HND.out hkd).grow hgx).mono (Y := fun k => k < w.heap.size) (fun k _ h => by omega)
  have HBF := Lib.hid hBF
  have HKF := Lib.hid hkF
  clear hz hgx hBF hkF
  have ca0 := ba.cell 0 _ rfl
  have ca1 := ba.cell 1 _ rfl
  have ca2 := ba.cell 2 _ rfl
  have ca3 := ba.cell 3 _ rfl
  have ca4 := ba.cell 4 _ rfl
  have fa := ba.free
  have cz0 := bz.cell 0 _ rfl
  have cz1 := bz.cell 1 _ rfl
  have cz2 := bz.cell 2 _ rfl
  have cz3 := bz.cell 3 _ rfl
  have cz4 := bz.cell 4 _ rfl
  have fz := bz.free
  go_wp2
  refine bodyPost_ret (v := .agg #[.bool true, .slice ak nk nk, .slice av nv nv, .slice ad nd nd, .int .i64 nx]) (by simp [results, Try.results20, go_sem, cz0, cz1, cz2, cz3, cz4]) rfl ?_
  refine ⟨_, rfl, ?_⟩
  rw [HPUT.out]
  exact ⟨ak, av, ad, by simp only [nodeV, HLF.out, HNX.out, HNK.out, HNV.out, HND.out], by rw [HNK.out, HNV.out, HND.out]; exact HKF.out.imp (fun _ h => h.mono (by omega)), HBF.out⟩

end Go.Proofs.Ytfbblgcdggpehaa

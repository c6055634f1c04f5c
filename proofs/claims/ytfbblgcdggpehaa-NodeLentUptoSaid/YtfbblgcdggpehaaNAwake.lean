/- What the law's fit and awake answer. Conditions: short lists. -/
import Derived.Test.YtfbblgcdggpehaaNPEnc
import Derived.Test.YtfbblgcdggpehaaNMergeI
import Derived.Lib.SlBytesConst
namespace Go.Proofs.Ytfbblgcdggpehaa
set_option linter.unusedSimpArgs false
set_option linter.unusedVariables false
open Go.RowKit

theorem renc_any (x : Nd) (hsm : x.small) (ks vs ds : Value) (w : World) (hx : RefAt w ks vs ds x) (b : Bool) (n : Int) (hb : x.leaf = b) (hn : x.next = n) :
    Calls Try.prog 16 #[.agg #[.bool b, ks, vs, ds, .int .i64 n]] w fun e w' => EncEnd x w e w' := by
  cases b with
  | true => exact renc_leaf x hb hsm ks vs ds w hx n hn
  | false => exact renc_inner x hb hsm ks vs ds w hx n hn

theorem penc_any (x : Nd) (hsm : x.small) (ks vs ds : Value) (w : World) (hx : NodeAt w ks vs ds x) (b : Bool) (n : Int) (hb : x.leaf = b) (hn : x.next = n) :
    Calls Try.prog 13 #[.agg #[.bool b, ks, vs, ds, .int .i64 n]] w fun e w' => EncEnd x w e w' := by
  cases b with
  | true => exact penc_true x hb hsm ks vs ds w hx n hn
  | false => exact penc_false x hb hsm ks vs ds w hx n hn

theorem psize_any (x : Nd) (hsm : x.small) (ks vs ds : Value) (w : World) (hx : NodeAt w ks vs ds x) (b : Bool) (n : Int) (hb : x.leaf = b) :
    Calls Try.prog 23 #[.agg #[.bool b, ks, vs, ds, .int .i64 n]] w fun e w' => e = .returned (.int .i64 (psize x)) ∧ Below w.heap.size w w' := by
  cases b with
  | true => exact psize_true x hb hsm ks vs ds w hx n
  | false => exact psize_false x hb hsm ks vs ds w hx n

set_option maxHeartbeats 800000 in
theorem lfit_any (x : Nd) (hsm : x.small) (ks vs ds : Value) (w : World) (hx : NodeAt w ks vs ds x) (b : Bool) (n : Int) (hb : x.leaf = b) (hn : x.next = n) :
    Calls Try.prog 9 #[.agg #[.bool b, ks, vs, ds, .int .i64 n]] w fun e w' => SaysB x.Fit w e w' := by
  obtain ⟨o1, o2, o3⟩ := hx.one
  have hB := (Below.refl w.heap.size w).alloc (Nat.le_refl _) (.cells #[.bool b, ks, vs, ds, .int .i64 n] 25)
  have HX := Lib.hid (hx.below hB (Nat.le_refl _))
  have HB := Lib.hid hb
  have HN := Lib.hid hn
  clear hx hb hn
  go_enter Try.func9, Try.ntmps9
  go_wp2_with fail
  refine (to_any x _ _ _ _ HX.out hsm.ok b n HB.out HN.out).mono ?_
  rintro e w1 ⟨rk, rv, rfl, hr, hb1⟩
  simp only [nodeV, HB.out, HN.out]
  go_wp2_with fail
  refine (renc_any x hsm _ _ _ _ hr b n HB.out HN.out).mono ?_
  rintro e w2 ⟨v, er, rfl, hb2, hor⟩
  have hBB := (hB.trans (hb1.mono (by simp))).trans (hb2.mono (by have := hb1.size; simp at this; omega))
  have hv : v.oneCell' = true := by
    rcases hor with ⟨_, _, rfl⟩ | ⟨_, _, _, rfl⟩ | ⟨_, _, _, _, _, rfl, _⟩ <;> rfl
  rcases hor with ⟨h1, rfl, rfl⟩ | ⟨h1, _, rfl, rfl⟩ | ⟨h1, _, rfl, _⟩
  · have H1 := Lib.hid h1
    clear h1 hr hb1 hb2
    go_wp2
    go_ret
    exact SaysB.no H1.out hBB
  · have H1 := Lib.hid h1
    clear h1 hr hb1 hb2
    go_wp2
    go_ret
    exact SaysB.yes H1.out hBB
  · have H1 := Lib.hid h1
    clear h1 hr hb1 hb2
    go_wp2
    go_ret
    exact SaysB.yes H1.out hBB

theorem cellsF {w : World} {arr : Array Value} {T n : Nat} {f : Nat × Nat} {xs : List Value} {g : Nat} (hg : g = w.heap.size) (hn : arr.size = n) (hl : arr.toList = xs) : Reads 1 (w.alloc (.cells arr T f)) (.slice (some ⟨g, 0, none⟩) n n) n xs := by
  subst hn hl hg
  refine ⟨_, _, rfl, by simp, Nat.le_refl _, fun _ => ⟨_, 0, rfl, by simp, fun j u hu => ?_⟩⟩
  have : (w.alloc (.cells arr T f)).heap[w.heap.size]? = some (.cells arr T f) := heap_alloc_new w _
  simp only [World.cell?, this]
  simpa using hu

theorem Reads.alloc {w : World} {v : Value} {n : Nat} {xs : List Value} (h : Reads 1 w v n xs) (o : Obj) : Reads 1 (w.alloc o) v n xs :=
  h.below ((Below.refl w.heap.size w).alloc (Nat.le_refl _) o) (Nat.le_refl _)

theorem run_str_reads {P : Program} {w : World} {src dst e : TypeId} {n : Nat} {v : Value} (hs : P.underlying src = some (.slice e)) (he : P.underlying e = some (.int .u8)) (hd : P.underlying dst = some .string) (l : List UInt8) (hr : Reads 1 w v n (l.map B)) :
    (convert src dst v).run P w = .ok (.string ⟨l.toArray⟩) w := by
  obtain ⟨ao, cap, rfl, hl, hc, hcells⟩ := hr
  have hn : n = l.length := by simpa using hl.symm
  match ao, hcells with
  | none, hcells =>
    have : l = [] := by
      rcases Nat.eq_zero_or_pos n with e | e
      · subst hn; exact List.eq_nil_of_length_eq_zero e
      · obtain ⟨_, _, h, _⟩ := hcells e; cases h
    subst this
    rw [run_convert_bytes_nil (P := P) w src e hs he n cap dst hd]; rfl
  | some ad, hcells =>
    subst hn
    refine run_convert_bytes_back w src dst e ad cap l hs he hd (fun j hj => ?_)
    obtain ⟨b, off, hb, hlt, hc⟩ := hcells (by omega)
    obtain rfl := Option.some.inj hb
    rw [Addr.add_lit]
    exact hc j (B l[j]) (by simp [hj])

def awk : Nd := ⟨true, [[97], [98], [99]], [[], [], []], [], 0⟩

theorem awk_small : awk.small := ⟨by decide, by decide, by decide, by decide, by decide⟩
theorem awk_fit : awk.Fit := by
  refine ⟨⟨fun i l h => ?_, fun i a b h1 h2 => ?_⟩, ⟨by decide, by decide⟩, ?_⟩
  · match i, h with
    | 0, h => obtain rfl := Option.some.inj h; decide
    | 1, h => obtain rfl := Option.some.inj h; decide
    | 2, h => obtain rfl := Option.some.inj h; decide
    | i + 3, h => simp [awk] at h
  · match i, h1, h2 with
    | 0, h1, h2 => obtain rfl := Option.some.inj h1; obtain rfl := Option.some.inj h2; decide
    | 1, h1, h2 => obtain rfl := Option.some.inj h1; obtain rfl := Option.some.inj h2; decide
    | 2, h1, h2 => simp [awk] at h2
    | i + 3, h1, h2 => simp [awk] at h1
  · rw [if_pos (by rfl)]
    refine ⟨fun i l h => ?_, rfl, rfl⟩
    match i, h with
    | 0, h => obtain rfl := Option.some.inj h; decide
    | 1, h => obtain rfl := Option.some.inj h; decide
    | 2, h => obtain rfl := Option.some.inj h; decide
    | i + 3, h => simp [awk] at h

set_option maxRecDepth 100000 in
set_option maxHeartbeats 3200000 in
theorem awake_any (w : World) : Calls Try.prog 10 #[] w fun e w' => e = .returned (.bool true) ∧ Below w.heap.size w w' := by
  have kc := fun (w : World) (C : Array Value) (n c : Nat) => Lib.run_convert_bytes_const (P := Try.prog) w 28 5 C n c Try.underlying28 Try.underlying5
  have kc2 : ∀ (w : World) (o : Obj) (C : Array Value) (n c : Nat), (convert 28 28 (.slice (some ⟨w.heap.size + 1, 0, none⟩) n c)).run Try.prog ((w.alloc o).alloc (.cells C 5)) = .ok (.slice (some ⟨w.heap.size + 1, 0, none⟩) n c) ((w.alloc o).alloc (.cells C 5 (C.size, C.size + 1))) := by
    intro w o C n c
    have := kc (w.alloc o) C n c
    simpa using this
  have kc3 : ∀ (w : World) (o o' : Obj) (C : Array Value) (n c : Nat), (convert 28 28 (.slice (some ⟨w.heap.size + 1 + 1, 0, none⟩) n c)).run Try.prog (((w.alloc o).alloc o').alloc (.cells C 5)) = .ok (.slice (some ⟨w.heap.size + 1 + 1, 0, none⟩) n c) (((w.alloc o).alloc o').alloc (.cells C 5 (C.size, C.size + 1))) := by
    intro w o o' C n c
    have := kc ((w.alloc o).alloc o') C n c
    simpa using this
  go_enter Try.func10, Try.ntmps10
  go_wp2_with fail
  have hS := awk_small
  obtain ⟨g, hg0⟩ : ∃ g, w.heap.size = g := ⟨_, rfl⟩
  have HG := Lib.hid hg0
  rw [hg0]
  have r1 := ((((cellsF (w := w) (arr := #[.int .u8 97]) (T := 5) (f := (1, 2)) (n := 1) (xs := ([97] : List UInt8).map B) hg0.symm rfl rfl).alloc (.cells #[.int .u8 98] 5 (1, 2))).alloc (.cells #[.int .u8 99] 5 (1, 2))).alloc (.cells #[.slice (some ⟨g, 0, none⟩) 1 1, .slice (some ⟨g + 1, 0, none⟩) 1 1, .slice (some ⟨g + 1 + 1, 0, none⟩) 1 1] 28)).alloc (.cells #[.slice none 0 0, .slice none 0 0, .slice none 0 0] 28) |>.alloc (.cells #[.bool true, .slice (some ⟨g + 1 + 1 + 1, 0, none⟩) 3 3, .slice (some ⟨g + 1 + 1 + 1 + 1, 0, none⟩) 3 3, .slice none 0 0, .int .i64 0] 25)
  have r2 := (((cellsF (w := w.alloc (.cells #[.int .u8 97] 5 (1, 2))) (arr := #[.int .u8 98]) (T := 5) (f := (1, 2)) (n := 1) (xs := ([98] : List UInt8).map B) (g := g + 1) (by simp [hg0]) rfl rfl).alloc (.cells #[.int .u8 99] 5 (1, 2))).alloc (.cells #[.slice (some ⟨g, 0, none⟩) 1 1, .slice (some ⟨g + 1, 0, none⟩) 1 1, .slice (some ⟨g + 1 + 1, 0, none⟩) 1 1] 28)).alloc (.cells #[.slice none 0 0, .slice none 0 0, .slice none 0 0] 28) |>.alloc (.cells #[.bool true, .slice (some ⟨g + 1 + 1 + 1, 0, none⟩) 3 3, .slice (some ⟨g + 1 + 1 + 1 + 1, 0, none⟩) 3 3, .slice none 0 0, .int .i64 0] 25)
  have r3 := ((cellsF (w := (w.alloc (.cells #[.int .u8 97] 5 (1, 2))).alloc (.cells #[.int .u8 98] 5 (1, 2))) (arr := #[.int .u8 99]) (T := 5) (f := (1, 2)) (n := 1) (xs := ([99] : List UInt8).map B) (g := g + 1 + 1) (by simp [hg0]) rfl rfl).alloc (.cells #[.slice (some ⟨g, 0, none⟩) 1 1, .slice (some ⟨g + 1, 0, none⟩) 1 1, .slice (some ⟨g + 1 + 1, 0, none⟩) 1 1] 28)).alloc (.cells #[.slice none 0 0, .slice none 0 0, .slice none 0 0] 28) |>.alloc (.cells #[.bool true, .slice (some ⟨g + 1 + 1 + 1, 0, none⟩) 3 3, .slice (some ⟨g + 1 + 1 + 1 + 1, 0, none⟩) 3 3, .slice none 0 0, .int .i64 0] 25)
  have r4 := (cellsF (w := ((w.alloc (.cells #[.int .u8 97] 5 (1, 2))).alloc (.cells #[.int .u8 98] 5 (1, 2))).alloc (.cells #[.int .u8 99] 5 (1, 2))) (arr := #[.slice (some ⟨g, 0, none⟩) 1 1, .slice (some ⟨g + 1, 0, none⟩) 1 1, .slice (some ⟨g + 1 + 1, 0, none⟩) 1 1]) (T := 28) (f := (0, 0)) (n := 3) (xs := [.slice (some ⟨g, 0, none⟩) 1 1, .slice (some ⟨g + 1, 0, none⟩) 1 1, .slice (some ⟨g + 1 + 1, 0, none⟩) 1 1]) (g := g + 1 + 1 + 1) (by simp [hg0]) rfl rfl).alloc (.cells #[.slice none 0 0, .slice none 0 0, .slice none 0 0] 28) |>.alloc (.cells #[.bool true, .slice (some ⟨g + 1 + 1 + 1, 0, none⟩) 3 3, .slice (some ⟨g + 1 + 1 + 1 + 1, 0, none⟩) 3 3, .slice none 0 0, .int .i64 0] 25)
  have r5 := (cellsF (w := (((w.alloc (.cells #[.int .u8 97] 5 (1, 2))).alloc (.cells #[.int .u8 98] 5 (1, 2))).alloc (.cells #[.int .u8 99] 5 (1, 2))).alloc (.cells #[.slice (some ⟨g, 0, none⟩) 1 1, .slice (some ⟨g + 1, 0, none⟩) 1 1, .slice (some ⟨g + 1 + 1, 0, none⟩) 1 1] 28)) (arr := #[.slice none 0 0, .slice none 0 0, .slice none 0 0]) (T := 28) (f := (0, 0)) (n := 3) (xs := [.slice none 0 0, .slice none 0 0, .slice none 0 0]) (g := g + 1 + 1 + 1 + 1) (by simp [hg0]) rfl rfl).alloc (.cells #[.bool true, .slice (some ⟨g + 1 + 1 + 1, 0, none⟩) 3 3, .slice (some ⟨g + 1 + 1 + 1 + 1, 0, none⟩) 3 3, .slice none 0 0, .int .i64 0] 25)
  have bx := Box.new ((((((w.alloc (.cells #[.int .u8 97] 5 (1, 2))).alloc (.cells #[.int .u8 98] 5 (1, 2))).alloc (.cells #[.int .u8 99] 5 (1, 2))).alloc (.cells #[.slice (some ⟨g, 0, none⟩) 1 1, .slice (some ⟨g + 1, 0, none⟩) 1 1, .slice (some ⟨g + 1 + 1, 0, none⟩) 1 1] 28)).alloc (.cells #[.slice none 0 0, .slice none 0 0, .slice none 0 0] 28))) #[.bool true, .slice (some ⟨g + 1 + 1 + 1, 0, none⟩) 3 3, .slice (some ⟨g + 1 + 1 + 1 + 1, 0, none⟩) 3 3, .slice none 0 0, .int .i64 0] 25 (g := g + 1 + 1 + 1 + 1 + 1) (by simp [hg0])
  obtain ⟨gx, hgx⟩ : ∃ gx, g + 1 + 1 + 1 + 1 + 1 = gx := ⟨_, rfl⟩
  rw [hgx] at bx
  simp only [hgx]
  have HGX := Lib.hid hgx
  refine calls_world (fun u => NodeAt u (.slice (some ⟨g + 1 + 1 + 1, 0, none⟩) 3 3) (.slice (some ⟨g + 1 + 1 + 1 + 1, 0, none⟩) 3 3) (.slice none 0 0) awk ∧ Box u gx [.bool true, .slice (some ⟨g + 1 + 1 + 1, 0, none⟩) 3 3, .slice (some ⟨g + 1 + 1 + 1 + 1, 0, none⟩) 3 3, .slice none 0 0, .int .i64 0] ∧ Below w.heap.size w u ∧ g + 6 ≤ u.heap.size) ⟨⟨?_, ?_, ?_⟩, bx, ?_, by simp [hg0]⟩ ?_
  · refine ⟨_, r4, rfl, fun i s l h1 h2 => ?_⟩
    match i, h1, h2 with
    | 0, h1, h2 => obtain rfl := Option.some.inj h1; obtain rfl := Option.some.inj h2; exact r1
    | 1, h1, h2 => obtain rfl := Option.some.inj h1; obtain rfl := Option.some.inj h2; exact r2
    | 2, h1, h2 => obtain rfl := Option.some.inj h1; obtain rfl := Option.some.inj h2; exact r3
    | i + 3, h1, h2 => simp at h1
  · refine ⟨_, r5, rfl, fun i s l h1 h2 => ?_⟩
    match i, h1, h2 with
    | 0, h1, h2 => obtain rfl := Option.some.inj h1; obtain rfl := Option.some.inj h2; exact Reads.empty
    | 1, h1, h2 => obtain rfl := Option.some.inj h1; obtain rfl := Option.some.inj h2; exact Reads.empty
    | 2, h1, h2 => obtain rfl := Option.some.inj h1; obtain rfl := Option.some.inj h2; exact Reads.empty
    | i + 3, h1, h2 => simp at h1
  · exact Reads.empty
  · exact ((((((Below.refl w.heap.size w).alloc (Nat.le_refl _) _).alloc (by simp) _).alloc (by simp; omega) _).alloc (by simp; omega) _).alloc (by simp; omega) _).alloc (by simp; omega) _
  clear r1 r2 r3 r4 r5 bx kc kc2 kc3 hg0 hgx
  rintro w1 ⟨hx, bx, hB, hs1⟩
  have HX := Lib.hid hx
  clear hx
  refine (split_many awk _ _ _ _ HX.out hS.ok awk_fit.fits (by decide) true 0 rfl rfl).mono ?_
  rintro e w2 ⟨lk, lv, ld, rk, rv, rd, s, rfl, hk, hb2⟩
  have HX2 := Lib.hid (HX.out.below hb2 (Nat.le_refl _))
  replace bx := bx.below hb2 (Nat.le_refl _)
  replace hB := hB.trans (hb2.mono (by have := hB.size; omega))
  have hs2 : g + 6 ≤ w2.heap.size := Nat.le_trans hs1 hb2.size
  obtain ⟨⟨_, ⟨i1, i3, e1, _⟩, _⟩, _⟩ := hk.now.1
  obtain ⟨_, ⟨i4, i5, i6, e2⟩, i7, i8, i9, e3⟩ := hk.now.1.shape
  obtain ⟨⟨_, ⟨j1, j3, e4, _⟩, _⟩, _⟩ := hk.now.2.1
  obtain ⟨_, ⟨j4, j5, j6, e5⟩, j7, j8, j9, e6⟩ := hk.now.2.1.shape
  have e1' : lk = .slice i1 1 i3 := e1
  have e4' : rk = .slice j1 2 j3 := e4
  have hks := hk.imp (fun _ h => h.2.2)
  subst e1' e2 e3 e4' e5 e6
  clear e1 e4 hb2 HX hk
  obtain ⟨g2, hg2⟩ : ∃ g2, w2.heap.size = g2 := ⟨_, rfl⟩
  have b1 := (Box.new w2 #[.bool true, .slice i1 1 i3, .slice i4 i5 i6, .slice i7 i8 i9, .int .i64 0] 25 hg2.symm).alloc (.cells #[.bool true, .slice j1 2 j3, .slice j4 j5 j6, .slice j7 j8 j9, .int .i64 0] 25)
  have b2 := Box.new (w2.alloc (.cells #[.bool true, .slice i1 1 i3, .slice i4 i5 i6, .slice i7 i8 i9, .int .i64 0] 25)) #[.bool true, .slice j1 2 j3, .slice j4 j5 j6, .slice j7 j8 j9, .int .i64 0] 25 (g := g2 + 1) (by simp; omega)
  have hB2 := (hB.alloc (by have := hB.size; omega) (.cells #[.bool true, .slice i1 1 i3, .slice i4 i5 i6, .slice i7 i8 i9, .int .i64 0] 25)).alloc (by have := hB.size; simp; omega) (.cells #[.bool true, .slice j1 2 j3, .slice j4 j5 j6, .slice j7 j8 j9, .int .i64 0] 25)
  have hgr := ((Below.refl w2.heap.size w2).alloc (Nat.le_refl _) (.cells #[.bool true, .slice i1 1 i3, .slice i4 i5 i6, .slice i7 i8 i9, .int .i64 0] 25)).alloc (by simp) (.cells #[.bool true, .slice j1 2 j3, .slice j4 j5 j6, .slice j7 j8 j9, .int .i64 0] 25)
  have HG2 := Lib.hid hg2
  have hleaf : (awk.cutL (awk.keys.length / 2)).leaf = true := rfl
  have hleaf2 : (awk.cutR (awk.keys.length / 2)).leaf = true := rfl
  have hnext : (awk.cutL (awk.keys.length / 2)).next = 0 := rfl
  have hnext2 : (awk.cutR (awk.keys.length / 2)).next = 0 := rfl
  simp only [nodeV, hleaf, hleaf2, hnext, hnext2]
  have cx0 := bx.cell 0 _ rfl
  have cx1 := bx.cell 1 _ rfl
  have cx2 := bx.cell 2 _ rfl
  have cx3 := bx.cell 3 _ rfl
  have cx4 := bx.cell 4 _ rfl
  have hlx := bx.lt
  have HW := Lib.hid (⟨b1, b2, bx.below hgr (Nat.le_refl _), hB2, HX2.out.below hgr (Nat.le_refl _), (hks.grow (GrowX.of_grow hgr)).now⟩ : _ ∧ _ ∧ _ ∧ _ ∧ _ ∧ _)
  clear b1 b2 hB hB2 hgr hks hg2 hleaf hleaf2 hnext hnext2
  go_wp2_with fail
  rw [HG2.out]
  refine calls_world (fun u => Box u g2 [.bool true, .slice i1 1 i3, .slice i4 i5 i6, .slice i7 i8 i9, .int .i64 0] ∧ Box u (g2 + 1) [.bool true, .slice j1 2 j3, .slice j4 j5 j6, .slice j7 j8 j9, .int .i64 0] ∧ Box u gx [.bool true, .slice (some ⟨g + 1 + 1 + 1, 0, none⟩) 3 3, .slice (some ⟨g + 1 + 1 + 1 + 1, 0, none⟩) 3 3, .slice none 0 0, .int .i64 0] ∧ Below w.heap.size w u ∧ NodeAt u (.slice (some ⟨g + 1 + 1 + 1, 0, none⟩) 3 3) (.slice (some ⟨g + 1 + 1 + 1 + 1, 0, none⟩) 3 3) (.slice none 0 0) awk ∧ Reads 1 u s 1 (([98] : List UInt8).map B)) HW.out ?_
  clear HW HX2 bx cx0 cx1 cx2 cx3 cx4 hlx
  rintro w3 ⟨b1, b2, bx, hB, hx, hs⟩
  refine (penc_any awk hS _ _ _ _ hx true 0 rfl rfl).mono ?_
  rintro e w4 ⟨v, er, rfl, hb4, hor⟩
  obtain ⟨he, hv⟩ : er = 0 ∧ Reads 1 w4 v 504 ((page awk).map B) := by
    rcases hor with ⟨h, _⟩ | ⟨_, h, _⟩ | ⟨_, _, h1, h2⟩
    · exact absurd awk_fit h
    · exact absurd h (by decide)
    · exact ⟨h1, h2⟩
  subst he
  obtain ⟨va, vc, rfl⟩ := hv.shape
  replace b1 := b1.below hb4 (Nat.le_refl _)
  replace b2 := b2.below hb4 (Nat.le_refl _)
  replace bx := bx.below hb4 (Nat.le_refl _)
  have hx4 := hx.below hb4 (Nat.le_refl _)
  have hs4 := hs.below hb4 (Nat.le_refl _)
  replace hB := hB.trans (hb4.mono (by have := hB.size; omega))
  obtain ⟨sa, sc, rfl⟩ := hs4.shape
  have HX := Lib.hid hx4
  have HS := Lib.hid hs4
  clear hor hb4 hx hs hx4 hs4 hv
  have c11 := b1.cell 1 _ rfl
  have c21 := b2.cell 1 _ rfl
  have cx0 := bx.cell 0 _ rfl
  have cx1 := bx.cell 1 _ rfl
  have cx2 := bx.cell 2 _ rfl
  have cx3 := bx.cell 3 _ rfl
  have cx4 := bx.cell 4 _ rfl
  have hcv := run_str_reads (P := Try.prog) (src := 28) (dst := 9) Try.underlying28 Try.underlying5 Try.underlying9 [98] HS.out
  go_wp2_with fail
  refine (psize_any awk hS _ _ _ _ HX.out true 0 rfl).mono ?_
  rintro e w5 ⟨rfl, hb5⟩
  have hps : psize awk = 22 := by decide
  rw [hps]
  have hBB := hB.trans (hb5.mono (by have := hB.size; omega))
  clear hB hb5 hcv
  go_wp2
  go_ret
  exact ⟨rfl, hBB⟩

end Go.Proofs.Ytfbblgcdggpehaa

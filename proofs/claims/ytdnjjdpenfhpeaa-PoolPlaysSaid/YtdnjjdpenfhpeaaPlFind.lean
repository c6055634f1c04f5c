/- The pool: find, Has, Writes; the first free frame. Conditions: none. -/
import Derived.Test.YtdnjjdpenfhpeaaPlKit
namespace Go.Proofs.Ytdnjjdpenfhpeaa
set_option linter.unusedSimpArgs false
set_option linter.unusedVariables false
open Go.RowKit

/-- where, as IndexFunc tells it -/
def atI (o : Option Nat) : Int := match o with | some i => (i : Int) | none => -1
theorem idx_findIdx {α : Type} [Inhabited α] (p : α → Bool) (l : List α) : Lib.idxBy (fun _ y => p y) l default = atI (l.findIdx? p) := by
  cases h : l.findIdx? p with
  | none =>
    have h1 := List.findIdx?_eq_none_iff.1 h
    exact (Lib.idxByFrom_miss _ _ l 0 (fun j hj => by rw [getElem!_pos l j hj]; exact h1 _ (List.getElem_mem hj)))
  | some k =>
    obtain ⟨hk, h1, h2⟩ := List.findIdx?_eq_some_iff_getElem.1 h
    have := Lib.idxByFrom_hit (fun _ y => p y) default l k 0 hk (by rw [getElem!_pos l k hk]; exact h1) (fun j hj => by rw [getElem!_pos l j (by omega)]; have := h2 j hj; simpa using this)
    unfold Lib.idxBy
    rw [this]
    simp [atI]
theorem aggFr (w : World) : (isAgg 81).run Try.prog w = .ok true w := by kernel_rfl
theorem sizeFr (w : World) : (Go.sizeOf 81).run Try.prog w = .ok 6 w := by kernel_rfl
/-- slices.IndexFunc at frames -/
theorem idxF_any (E : List Fe) (n : Nat) (lb : Nat) (fn : Nat) (caps : Array Value) (p : Fe → Bool) (F : World → Prop) (eg : ∀ args w, (callFunc fn args).run Try.prog w = .ok (.enter fn args) w)
    (hP : ∀ W (x : Fe), F W → Calls Try.prog fn (#[.agg #[.int .i64 x.1.page, x.2, .bool x.1.dirty, .bool x.1.marked, .int .i64 x.1.rc, .int .i64 x.1.lsn]] ++ caps) W fun e w' => e = .returned (.bool (p x)) ∧ Below W.heap.size W w')
    (hst : ∀ W W', F W → Below W.heap.size W W' → F W') (hl : E.length = n) (hn : n ≤ 1099511627776) (hpos : 0 < n) (w : World) (hF : F w) (hv : Reads 6 w (.slice (some ⟨lb, 0, none⟩) n n) n (fcells E)) :
    Calls Try.prog 46 #[.slice (some ⟨lb, 0, none⟩) n n, .func (.func fn) #[] caps] w fun e w' => e = .returned (.int .i64 (atI (E.findIdx? p))) ∧ Below w.heap.size w w' := by
  obtain ⟨_, _, b, o, e1, hbl, hc⟩ := hv.some_addr hpos
  injection e1 with e1
  injection e1 with e1 e2
  subst e1 e2
  have := AnyQ.slices_IndexFunc (α := Fe) Try.idxFr 6 aggFr sizeFr encF (fun _ => rfl) p fn caps eg lb 0 n n E w
    (fun W x hW => (hP W x (hst w W hF hW)).mono fun _ _ ⟨h1, h2⟩ => ⟨h1, hW.trans (h2.mono hW.size)⟩) (Nat.le_of_eq hl.symm) (by omega) hbl
    (fun j hj i v hi => by rw [Nat.add_assoc]; exact hc _ _ (flat_at encF 6 (fun _ => rfl) E j hj i v hi))
  rw [List.take_of_length_le (Nat.le_of_eq hl), idx_findIdx] at this
  exact this
theorem atI_map (E : List Fe) (q : Fm → Bool) : E.findIdx? (fun e => q e.1) = (E.map (·.1)).findIdx? q := by
  rw [List.findIdx?_map]; rfl
def isP (m : Int) (x : Fm) : Bool := if x.page = m then decide (0 ≤ m) else false
def isE (x : Fm) : Bool := decide (x.page < 0)
theorem fclos_any (g : Nat) (m : Int) (x : Fe) (w : World) (hb : Box w g [.int .i64 m]) :
    Calls Try.prog 47 #[.agg #[.int .i64 x.1.page, x.2, .bool x.1.dirty, .bool x.1.marked, .int .i64 x.1.rc, .int .i64 x.1.lsn], .pointer (some ⟨g, 0, none⟩)] w fun e w' => e = .returned (.bool (isP m x.1)) ∧ Below w.heap.size w w' := by
  have hc0 := hb.cell 0 _ rfl
  have hlt := hb.lt
  clear hb
  obtain ⟨⟨pg, b, di, ma, rc, ls⟩, v⟩ := x
  simp only
  by_cases h : pg = m
  · have hb1 : (pg == m) = true := by simpa using h
    have hb1' : decide (pg = m) = true := by simpa using h
    by_cases h2 : 0 ≤ m
    · have hb2 : decide (m ≥ 0) = true := by simpa using h2
      have hb2' : decide (0 ≤ m) = true := by simpa using h2
      have HB : Hid (isP m ⟨pg, b, di, ma, rc, ls⟩ = true) := Lib.hid (by simp [isP, h, h2])
      clear h h2
      go_enter Try.func47, Try.ntmps47
      go_wp2
      go_ret
      exact ⟨by rw [HB.out]; rfl, (Below.refl _ _).alloc (Nat.le_refl _) _⟩
    · have hb2 : decide (m ≥ 0) = false := by simpa using h2
      have hb2' : decide (0 ≤ m) = false := by simpa using h2
      have HB : Hid (isP m ⟨pg, b, di, ma, rc, ls⟩ = false) := Lib.hid (by simp [isP, h, h2])
      clear h h2
      go_enter Try.func47, Try.ntmps47
      go_wp2
      go_ret
      exact ⟨by rw [HB.out]; rfl, (Below.refl _ _).alloc (Nat.le_refl _) _⟩
  · have hb1 : (pg == m) = false := by simpa using h
    have hb1' : decide (pg = m) = false := by simpa using h
    have HB : Hid (isP m ⟨pg, b, di, ma, rc, ls⟩ = false) := Lib.hid (by simp [isP, h])
    clear h
    go_enter Try.func47, Try.ntmps47
    go_wp2
    go_ret
    exact ⟨by rw [HB.out]; rfl, (Below.refl _ _).alloc (Nat.le_refl _) _⟩
theorem eclos_any (x : Fe) (w : World) :
    Calls Try.prog 49 #[.agg #[.int .i64 x.1.page, x.2, .bool x.1.dirty, .bool x.1.marked, .int .i64 x.1.rc, .int .i64 x.1.lsn]] w fun e w' => e = .returned (.bool (isE x.1)) ∧ Below w.heap.size w w' := by
  obtain ⟨⟨pg, b, di, ma, rc, ls⟩, v⟩ := x
  simp only [isE]
  go_enter Try.func49, Try.ntmps49
  go_wp2
  go_ret
  exact ⟨rfl, (Below.refl _ _).alloc (Nat.le_refl _) _⟩

def findL (F : List Fm) (m : Int) : Option Nat := F.findIdx? (isP m)
def freeL (F : List Fm) : Option Nat := F.findIdx? isE
set_option maxRecDepth 100000 in
set_option maxHeartbeats 1600000 in
theorem find_at {w : World} {G g lb n f : Nat} {fv : Value} {E : List Fe} {hand wr : Nat} {K : Nat → Prop} (h : PoolAt w G g lb n f fv E hand wr K) (hn : 1 ≤ n) (hn2 : n ≤ 64) (m : Int) :
    Calls Try.prog 33 #[.pointer (some ⟨g, 0, none⟩), .int .i64 m] w fun e w' => e = .returned (.int .i64 (atI (findL (E.map (·.1)) m))) ∧ Below w.heap.size w w' := by
  have hal : Below w.heap.size w (w.alloc (.cells #[.int .i64 m] 3)) := (Below.refl _ _).alloc (Nat.le_refl _) _
  have hbx := Box.new w #[.int .i64 m] 3 rfl
  have h1 := h.grow (X := fun _ => False) (grow_below hal) (fun h => h) (fun h => h) (fun _ _ h => h)
  have eg : ∀ args w, (callFunc 47 args).run Try.prog w = .ok (.enter 47 args) w := enters_of Try.func47 (by kernel_rfl) rfl
  have hcall := idxF_any E n lb 47 #[.pointer (some ⟨w.heap.size, 0, none⟩)] (fun e => isP m e.1) (fun W => Box W w.heap.size [.int .i64 m]) eg (fun W x hW => fclos_any _ m x W hW) (fun W W' hW hB => hW.growx (X := fun _ => False) (grow_below hB) (fun h => h)) h1.len (by omega) (by omega) _ hbx (Reads.of_own h1.row)
  rw [atI_map] at hcall
  obtain ⟨r, hr⟩ : ∃ r, atI (findL (E.map (·.1)) m) = r := ⟨_, rfl⟩
  rw [show atI ((E.map (·.1)).findIdx? (isP m)) = r from hr] at hcall
  rw [hr]
  have hws := hal.size
  have c1 := h1.box.cell 1 _ rfl
  have hlt := h1.box.lt
  have HC := Lib.hid hcall
  have HA := Lib.hid hal
  clear hcall h1 h eg hbx hal hr
  go_enter Try.func33, Try.ntmps33
  go_wp2_with fail
  refine HC.out.mono ?_
  rintro e w2 ⟨rfl, hb⟩
  have HB := Lib.hid hb
  clear hb
  go_wp2_with fail
  go_ret
  exact ⟨rfl, HA.out.trans (HB.out.mono hws)⟩
section
variable {W0 : World} {g n f d fr pg : Nat} {fv : Value} {St : Type} {FI : St → (Nat → Prop) → World → Prop} {p : Pl} {s : St} {S : Nat → Prop} {w : World} {fn : Nat} {caps : Array Value} {step : St → Int → Int × St} {okS : St → Prop}
theorem find_pv (hF : ForceOf W0 fn caps FI step okS) (h : PV W0 g n f d fr pg fv FI p s S w) (m : Int) :
    Calls Try.prog 33 #[.pointer (some ⟨g, 0, none⟩), .int .i64 m] w fun e w' => e = .returned (.int .i64 (atI (findL p.F m))) ∧ PV W0 g n f d fr pg fv FI p s S w' ∧ Below w.heap.size w w' := by
  have h0 := h
  obtain ⟨lb, E, K, S1, S2, h1, h2, h3, h4, h5, h6, h7, h8, h9, rfl⟩ := h
  have := find_at h1 h6.n1 h6.n64 m
  rw [h5] at this
  exact this.mono fun e w' ⟨e1, e2⟩ => ⟨e1, h0.below hF e2, e2⟩
set_option maxRecDepth 100000 in
theorem has_pv (hF : ForceOf W0 fn caps FI step okS) (h : PV W0 g n f d fr pg fv FI p s S w) (m : Int) :
    Calls Try.prog 25 #[.pointer (some ⟨g, 0, none⟩), .int .i64 m] w fun e w' => e = .returned (.bool (findL p.F m).isSome) ∧ PV W0 g n f d fr pg fv FI p s S w' ∧ Below w.heap.size w w' := by
  have hcall := find_pv hF h m
  have HC := Lib.hid hcall
  clear hcall h
  cases hf : findL p.F m with
  | none =>
    rw [hf] at HC
    have hb : decide ((-1 : Int) ≥ 0) = false := rfl
    go_enter Try.func25, Try.ntmps25
    go_wp2_with fail
    refine HC.out.mono ?_
    rintro e w2 ⟨rfl, hb, hc⟩
    have HB := Lib.hid (And.intro hb hc)
    clear hb hc
    simp only [atI]
    go_wp2_with fail
    go_ret
    exact ⟨rfl, HB.out⟩
  | some i =>
    rw [hf] at HC
    have hb : decide ((i : Int) ≥ 0) = true := by simp
    go_enter Try.func25, Try.ntmps25
    go_wp2_with fail
    refine HC.out.mono ?_
    rintro e w2 ⟨rfl, hb, hc⟩
    have HB := Lib.hid (And.intro hb hc)
    clear hb hc
    simp only [atI]
    go_wp2_with fail
    go_ret
    exact ⟨rfl, HB.out⟩
theorem writes_pv (h : PV W0 g n f d fr pg fv FI p s S w) :
    Calls Try.prog 15 #[.pointer (some ⟨g, 0, none⟩)] w fun e w' => e = .returned (.int .i64 (p.wr : Nat)) ∧ w' = w := by
  obtain ⟨lb, E, K, S1, S2, h1, _⟩ := h
  have c4 := h1.box.cell 4 _ rfl
  have hlt := h1.box.lt
  clear h1
  go_enter Try.func15, Try.ntmps15
  go_wp2_with fail
  go_ret
  exact ⟨rfl, rfl⟩
end
end Go.Proofs.Ytdnjjdpenfhpeaa

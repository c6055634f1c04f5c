/- Pk: texts of the store seat laid together by program: SpDirty. Conditions: each theorem names its own. -/
import Derived.Test.YtpajagkhmodbnaaGreatPk11
import Derived.Test.YtpajagkhmodbnaaGreatPk12
import Derived.Test.YtpajagkhmodbnaaGreatShelf
namespace Go.Proofs.YtpajagkhmodbnaaGreat
set_option linter.unusedSimpArgs false
set_option linter.unusedVariables false
section
open Go.RowKit
abbrev Dr := { x : Int × Int // 0 ≤ x.1 ∧ x.1 ≤ 8192 }
instance : Inhabited Dr := ⟨⟨(0, 0), by decide⟩⟩
def dcells (l : List (Int × Int)) : List Value := l.flatMap fun x => [.int .i64 x.1, .int .i64 x.2]
def encD (x : Dr) : List Value := [.int .i64 x.1.1, .int .i64 x.1.2]
theorem dcells_append (a b : List (Int × Int)) : dcells (a ++ b) = dcells a ++ dcells b := by simp [dcells]
def dirtyRaw (F : List Fm) : List (Int × Int) := (F.filter (·.dirty)).map fun x => (x.page, x.rc)
structure IsDirty (F : List Fm) (c : List (Int × Int)) : Prop where
 perm : c.Perm (dirtyRaw F)
 ord : c.Pairwise fun a b => a.1 ≤ b.1
def cfD (x y : Dr) : Int := x.1.1 - y.1.1
theorem lt_cfD (x y : Dr) : ltOf cfD x y = decide (x.1.1 < y.1.1) := by
 unfold ltOf cfD
 by_cases h : x.1.1 < y.1.1
 ·simp [h]; omega
 ·simp [h]; omega
theorem swo_cfD : Go.Sort.SWO (ltOf cfD) where
 irrefl x := by rw [lt_cfD]; simp
 trans x y z h1 h2 := by rw [lt_cfD] at *; simp at *; omega
 ntrans x y z h1 h2 := by rw [lt_cfD] at *; simp at *; omega
theorem cmpD (W : World) (x y : Dr) : Calls Tryz.prog 123 #[.agg (encD x).toArray, .agg (encD y).toArray] W fun e w' => e = .returned (.int .i64 (cfD x y)) ∧ ∃ q os', w' = Go.Sort.grow (W.drewN q) os' := by
 obtain ⟨⟨a, b⟩, h1, h2⟩ := x
 obtain ⟨⟨c, d⟩, h3, h4⟩ := y
 show Calls Tryz.prog _ #[.agg #[.int .i64 a, .int .i64 b], .agg #[.int .i64 c, .int .i64 d]] W fun e w' => e = .returned (.int .i64 (a - c)) ∧ _
 simp only at h1 h2 h3 h4
 go_enter Tryz.func123, Tryz.ntmps123
 go_wp2
 go_ret
 exact ⟨rfl, 0, _, by rw [Go.Sort.alloc_eq_grow, Go.Sort.alloc_eq_grow, Go.Sort.grow_grow]; rfl⟩
theorem aggDy (w : World) : (isAgg 123).run Tryz.prog w = .ok true w := by kernel_rfl
theorem sizeDy (w : World) : (Go.sizeOf 123).run Tryz.prog w = .ok 2 w := by kernel_rfl
theorem sortD_any (O : List Dr) (v : Value) (n base e : Nat) (hl : O.length = n) (hn : n ≤ 1152921504606846976) (W0 w : World) (hown : w.ownsRow base e 2 v n (O.flatMap encD)) (hbel : Below base W0 w) :
  Calls Tryz.prog 122 #[v, .func (.func 123) #[] #[]] w (SortFEnd encD 2 (ltOf cfD) O v n base e W0) := by
 have eg : ∀ args w, (callFunc 123 args).run Tryz.prog w = .ok (.enter 123 args) w := enters_of Tryz.func123 (by kernel_rfl) rfl
 exact sortF_own (α := Dr) Tryz.sortDy 2 (by omega) aggDy sizeDy encD (fun _ => rfl) (fun x v hv => by simp [encD] at hv; rcases hv with rfl | rfl <;> rfl) cfD swo_cfD 123 eg cmpD O v n base e hl hn W0 w hown hbel
theorem clipD_any (ao : Option Addr) (n cap : Nat) (w : World) (h : n ≤ cap) : Calls Tryz.prog 73 #[.slice ao n cap] w fun e w' => e = .returned (.slice ao n n) ∧ w = w' := by
 by_cases h0 : n = 0
 ·subst h0
  go_enter Tryz.func73, Tryz.ntmps73
  go_wp2
  go_ret
  exact ⟨rfl, rfl⟩
 ·go_enter Tryz.func73, Tryz.ntmps73
  go_wp2
  go_ret
  exact ⟨rfl, rfl⟩
theorem bound_list : ∀ (O : List (Int × Int)), (∀ x ∈ O, 0 ≤ x.1 ∧ x.1 ≤ 8192) → ∃ O' : List Dr, O'.map (·.1) = O
 | [], _ => ⟨[], rfl⟩
 | x :: r, h => by
  obtain ⟨r', hr⟩ := bound_list r (fun y hy => h y (List.mem_cons_of_mem _ hy))
  exact ⟨⟨x, h x (List.mem_cons_self ..)⟩ :: r', by simp [hr]⟩
theorem encD_map (O : List Dr) : O.flatMap encD = dcells (O.map (·.1)) := by
 rw [dcells, List.flatMap_map]; rfl
theorem drsOf : SliceOf Tryz.prog 83 123 (.agg #[.int .i64 0, .int .i64 0]) 2 16 := ⟨Tryz.underlying83, by kernel_rfl, rfl, by decide⟩
section
variable {W0 : World} {g n f pg : Nat} {T : Type} {Iw : T → (Nat → Prop) → World → Prop} {p : Pq} {s : T} {S : Nat → Prop} {w : World} {fn : Nat} {caps : Array Value} {O : IoF T} {fv : Value}
set_option maxRecDepth 100000 in
set_option maxHeartbeats 3200000 in
theorem dirty_pv (hF : IoOf W0 f pg fn caps Iw O) (h : PV W0 g n f pg fv Iw p s S w) :
  Calls Tryz.prog 87 #[.pointer (some ⟨g, 0, none⟩)] w fun e w' => ∃ (c : List (Int × Int)) (ao : Option Addr) (m : Nat), e = .returned (.slice ao m m) ∧ IsDirty p.F c ∧ c.length = m ∧ m ≤ n ∧ Reads 2 w' (.slice ao m m) m (dcells c) ∧ PV W0 g n f pg fv Iw p s S w' ∧ Below w.heap.size w w' := by
 have hpv := h
 obtain ⟨lb, E, K, S1, S2, i1, i2, i3, i4, i5, i6, i7, i8, i9, rfl⟩ := h
 have hc1 := i1.box.cell 1 _ rfl
 have htb := i1.box.lt
 have hn64 := i6.n64
 have hpgs := hF.small
 obtain ⟨G, hG⟩ : ∃ G, w.heap.size = G := ⟨_, rfl⟩
 have HG := Lib.hid hG
 have HPV := Lib.hid hpv
 have HF := Lib.hid hF
 have I1 := Lib.hid i1
 have HEN : Hid (E.length = n) := Lib.hid i1.len
 have I5 := Lib.hid i5
 have HOKR : Hid (∀ x ∈ dirtyRaw (E.map (·.1)), 0 ≤ x.1 ∧ x.1 ≤ 8192) := Lib.hid (by
  intro x hx
  rw [i5] at hx
  obtain ⟨y, hy, rfl⟩ := List.mem_map.1 hx
  obtain ⟨hy1, hy2⟩ := List.mem_filter.1 hy
  have h1 := (i6.fr y hy1).2 hy2
  have h2 := ((i6.fr y hy1).1 h1).1
  exact ⟨h1, by show y.page ≤ 8192; omega⟩)
 clear i1 i2 i3 i4 i5 i6 i7 i8 i9 hpv hF hG
 go_enter Tryz.func87, Tryz.ntmps87
 go_wp2_with fail
 clear hc1 htb
 go_loopw [3, 11] (fun s i wr => ∃ (k m cb : Nat) (bo : Option Addr), k ≤ n ∧ i = .int .i64 k ∧ s = .slice bo m cb ∧ Hid ((dirtyRaw ((E.take k).map (·.1))).length = m) ∧ m ≤ k ∧
   wr.ownsRow G 123 2 (.slice bo m cb) m (dcells (dirtyRaw ((E.take k).map (·.1)))) ∧ Below G w wr) (fun _ i _ => n - (intOf i).toNat)
 case atStart => exact ⟨0, 0, 0, none, Nat.zero_le _, rfl, rfl, Lib.hid rfl, Nat.le_refl _, World.ownsRow_nil _ _ _ _, Below.refl _ _⟩
 case round =>
  obtain ⟨k, m, cb, bo, hk, rfl, rfl, HM, hmk, hown, hnx⟩ := hrel
  have HO := Lib.hid hown
  have HNX := Lib.hid hnx
  have hsz : G ≤ wr.heap.size := by have := hnx.size; have := HG.out; omega
  have hmc : m ≤ cb := by obtain ⟨_, _, h, _, h2, _⟩ := Reads.of_own hown; injection h with _ _ h3; omega
  clear hown hnx
  by_cases hlt : k < n
  ·have hkl : k < E.length := by rw [HEN.out]; exact hlt
   have hts : E.take (k + 1) = E.take k ++ [E[k]] := List.take_succ_eq_append_getElem hkl
   have hat := I1.out.grow (X := fun _ => False) (grow_below (by rw [HG.out]; exact HNX.out)) (fun h => h) (fun h => h) (fun _ _ h => h)
   have hcell := hat.cell k E[k] (List.getElem?_eq_getElem hkl)
   have hll := hat.ll.2
   have lefz := hat.fzl
   have HTS := Lib.hid hts
   obtain ⟨avb, nvb, cvb, hvb⟩ : ∃ a n c, E[k].2 = .slice a n c := by
    obtain ⟨a, c, e, _⟩ := (hat.txt _ (List.getElem_mem hkl)).1
    exact ⟨a, _, c, e⟩
   generalize E[k] = x at *
   obtain ⟨⟨pgx, bx, di, ma, rc, ls⟩, vb⟩ := x
   have d0 := hcell 0 _ rfl
   have d1 := hcell 1 _ rfl
   have d2 := hcell 2 _ rfl
   have d3 := hcell 3 _ rfl
   have d4 := hcell 4 _ rfl
   have d5 := hcell 5 _ rfl
   rw [Nat.add_zero] at d0
   simp only at d0 d1 d2 d3 d4 d5
   simp only at hvb
   subst hvb
   clear hcell hkl hts hat
   cases di with
   | true =>
    have HT : Hid (dirtyRaw ((E.take (k + 1)).map (·.1)) = dirtyRaw ((E.take k).map (·.1)) ++ [(pgx, rc)]) := Lib.hid (by rw [HTS.out]; simp [dirtyRaw])
    clear HTS
    go_wp2_with (at_builtin; refine wpList_append_k drsOf (.tmp 17) (.tmp 23) rfl rfl (base := G) rfl ((HO.out.alloc _).alloc _) rfl rfl (news := [.int .i64 pgx, .int .i64 rc]) (by intro j u hu; rw [Addr.add_lit, World.cell?_alloc_at _ _ _ _ (by simp)]; simpa using hu) (by intro u hu; simp at hu; rcases hu with rfl | rfl <;> rfl) (by omega) (by omega) (by simp; omega) (by omega) ?_; intro g2 cap2 w2 hown2 hgr2 hor2)
    have hbel2 : Below G w w2 := ((HNX.out.alloc hsz _).alloc (by simp; omega) _).trans ((GrowX.of_growC (Y := fun b => (Value.slice bo m cb).ownBlock = some b) hgr2 (fun k o h => h.1)).below (fun k hk => ⟨by simp; omega, fun e => by have := (HO.out.lt k e).1; omega⟩))
    have hown3 : w2.ownsRow G 123 2 (.slice (some ⟨g2, 0, none⟩) (m + 1) cap2) (m + 1) (dcells (dirtyRaw ((E.take (k + 1)).map (·.1)))) := by rw [HT.out, dcells_append]; exact hown2
    have HR := Lib.hid (And.intro hown3 hbel2)
    clear hown2 hgr2 hor2 hown3 hbel2
    go_roundw
    ·exact ⟨k + 1, m + 1, cap2, some ⟨g2, 0, none⟩, by omega, by go_num, rfl, Lib.hid (by rw [HT.out, List.length_append, HM.out]; rfl), by omega, HR.out.1, HR.out.2⟩
    ·simp [intOf]; omega
   | false =>
    have HT : Hid (dirtyRaw ((E.take (k + 1)).map (·.1)) = dirtyRaw ((E.take k).map (·.1))) := Lib.hid (by rw [HTS.out]; simp [dirtyRaw])
    clear HTS
    go_wp2_with fail
    go_roundw
    ·exact ⟨k + 1, m, cb, bo, by omega, by go_num, rfl, Lib.hid (by rw [HT.out]; exact HM.out), by omega, by rw [HT.out]; exact HO.out.alloc _, HNX.out.alloc hsz _⟩
    ·simp [intOf]; omega
  ·obtain rfl : n = k := by omega
   have hall : E.take n = E := List.take_of_length_le (Nat.le_of_eq HEN.out)
   rw [hall] at HM HO
   obtain ⟨O', hO'⟩ := bound_list (dirtyRaw (E.map (·.1))) HOKR.out
   have hown1 : wr.ownsRow G 123 2 (.slice bo m cb) m (O'.flatMap encD) := by rw [encD_map, hO']; exact HO.out
   have hlen : O'.length = m := by rw [← HM.out, ← hO', List.length_map]
   have hsort := sortD_any O' _ m G 123 hlen (by omega) w wr hown1 HNX.out
   have HS := Lib.hid hsort
   have HO' := Lib.hid hO'
   clear hall hown1 hsort hO'
   go_wp2_with fail
   refine HS.out.mono ?_
   rintro e w2 ⟨c2, rfl, hperm, hord, hown2, hbel2⟩
   have HO2 := Lib.hid hown2
   have HB2 := Lib.hid hbel2
   have HC2 := Lib.hid hord
   have HP2 := Lib.hid hperm
   clear hown2 hbel2 hord hperm
   go_wp2_with (go_at_call 73; refine (clipD_any bo m cb _ hmc).mono ?_; rintro e w4 ⟨rfl, rfl⟩)
   go_ret
   have hlen2 : c2.length = m := by rw [HP2.out.length_eq]; rw [← HM.out, ← HO'.out, List.length_map]
   refine ⟨c2.map (·.1), _, m, rfl, ⟨?_, ?_⟩, by rw [List.length_map]; exact hlen2, hmk, ?_, HPV.out.below HF.out (by rw [HG.out]; exact HB2.out), by rw [HG.out]; exact HB2.out⟩
   ·rw [← I5.out, ← HO'.out]; exact HP2.out.map _
   ·rw [List.pairwise_map]
    exact HC2.out.imp (fun h => by rw [lt_cfD] at h; simpa using h)
   ·rw [← encD_map]; exact (Reads.of_own HO2.out).cut (Nat.le_refl _)
end
end
end Go.Proofs.YtpajagkhmodbnaaGreat

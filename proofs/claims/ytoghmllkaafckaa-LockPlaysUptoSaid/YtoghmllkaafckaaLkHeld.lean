/- lock: Held, Holders, New. Conditions: at most 2^40 locks. -/
import Derived.Test.YtoghmllkaafckaaLkDel
import Derived.Test.YtoghmllkaafckaaSortK
namespace Go.Proofs.Ytoghmllkaafckaa
set_option linter.unusedSimpArgs false
set_option linter.unusedVariables false
open Go.RowKit

def heldRaw (id : Int) (L : List Hd) : List Wn := (L.filter fun h => decide (h.1 = id)).map (·.2)
def holdRaw (nm : ByteArray) (L : List Hd) : List Int := (L.filter fun h => decide (h.2.1 = nm)).map (·.1)

/-- what Held tells -/
structure IsHeld (L : List Hd) (id : Int) (c : List Wn) : Prop where
  perm : c.Perm (heldRaw id L)
  ord : c.Pairwise fun a b => nmLt b.1 a.1 = false
structure IsHold (L : List Hd) (nm : ByteArray) (c : List Int) : Prop where
  perm : c.Perm (holdRaw nm L)
  ord : c.Pairwise (· ≤ ·)

def cfHeld (x y : Wn) : Int := if nmLt x.1 y.1 = true then -1 else 1
theorem lt_cfHeld (x y : Wn) : ltOf cfHeld x y = nmLt x.1 y.1 := by
  unfold ltOf cfHeld
  by_cases h : nmLt x.1 y.1 = true
  · simp [h]
  · simp [h]
theorem swo_cfHeld : Go.Sort.SWO (ltOf cfHeld) where
  irrefl x := by rw [lt_cfHeld]; exact nmLt_irrefl _
  trans x y z h1 h2 := by rw [lt_cfHeld] at *; exact nmLt_trans h1 h2
  ntrans x y z h1 h2 := by rw [lt_cfHeld] at *; exact nmLt_ntrans h1 h2
theorem cmpHeld (W : World) (x y : Wn) : Calls Try.prog 34 #[.agg (encWn x).toArray, .agg (encWn y).toArray] W fun e w' => e = .returned (.int .i64 (cfHeld x y)) ∧ ∃ q os', w' = Go.Sort.grow (W.drewN q) os' := by
  by_cases h : nmLt x.1 y.1 = true
  · have hb : Op.bytesLess x.1.toList y.1.toList = true := h
    have HC : Hid (cfHeld x y = -1) := Lib.hid (by simp [cfHeld, h])
    clear h
    show Calls Try.prog _ #[.agg #[.string x.1, .int .i64 x.2], .agg #[.string y.1, .int .i64 y.2]] W _
    go_enter Try.func34, Try.ntmps34
    go_wp2
    go_ret
    exact ⟨by rw [HC.out]; rfl, 0, _, by rw [Go.Sort.alloc_eq_grow, Go.Sort.alloc_eq_grow, Go.Sort.grow_grow]; rfl⟩
  · have hb : Op.bytesLess x.1.toList y.1.toList = false := by simpa [nmLt] using h
    have HC : Hid (cfHeld x y = 1) := Lib.hid (by simp [cfHeld, h])
    clear h
    show Calls Try.prog _ #[.agg #[.string x.1, .int .i64 x.2], .agg #[.string y.1, .int .i64 y.2]] W _
    go_enter Try.func34, Try.ntmps34
    go_wp2
    go_ret
    exact ⟨by rw [HC.out]; rfl, 0, _, by rw [Go.Sort.alloc_eq_grow, Go.Sort.alloc_eq_grow, Go.Sort.grow_grow]; rfl⟩

theorem sortW_any (O : List Wn) (v : Value) (n base e : Nat) (hl : O.length = n) (hn : n ≤ 1152921504606846976) (W0 w : World) (hown : w.ownsRow base e 2 v n (wcells O)) (hbel : Below base W0 w) :
    Calls Try.prog 33 #[v, .func (.func 34) #[] #[]] w (SortFEnd encWn 2 (ltOf cfHeld) O v n base e W0) := by
  have eg : ∀ args w, (callFunc 34 args).run Try.prog w = .ok (.enter 34 args) w := enters_of Try.func34 (by kernel_rfl) rfl
  exact sortF_own (α := Wn) Try.sortWn 2 (by omega) aggWn sizeWn encWn (fun _ => rfl) (fun x v hv => by simp [encWn] at hv; rcases hv with rfl | rfl <;> rfl) cfHeld swo_cfHeld 34 eg cmpHeld O v n base e hl hn W0 w hown hbel

set_option maxRecDepth 100000 in
set_option maxHeartbeats 3200000 in
theorem held_any (L : List Hd) (tb n c : Nat) (ao : Option Addr) (hn : n ≤ 1099511627776) (id : Int) (w : World) (ht : TabR w tb n c ao L) :
    Calls Try.prog 15 #[.pointer (some ⟨tb, 0, none⟩), .int .i64 id] w fun e w' => ∃ (c' : List Wn) (v' : Value) (m : Nat), e = .returned v' ∧ IsHeld L id c' ∧ c'.length = m ∧ m ≤ n ∧ Reads 2 w' v' m (wcells c') ∧ Below w.heap.size w w' := by
  have hc0 := ht.box.cell 0 _ rfl
  have hcf := ht.box.free
  have HL := Lib.hid ht.len
  have HV := Lib.hid ht.reads
  have htb := ht.box.lt
  obtain ⟨G, hG⟩ : ∃ G, w.heap.size = G := ⟨_, rfl⟩
  have HG := Lib.hid hG
  clear ht hG
  go_enter Try.func15, Try.ntmps15
  go_wp2_with fail
  clear hc0 hcf htb
  go_loopw [5, 13] (fun s i wr => ∃ (k m cb : Nat) (bo : Option Addr), k ≤ n ∧ i = .int .i64 k ∧ s = .slice bo m cb ∧ Hid ((heldRaw id (L.take k)).length = m) ∧ m ≤ k ∧
      wr.ownsRow G 40 2 (.slice bo m cb) m (wcells (heldRaw id (L.take k))) ∧ Below G w wr) (fun _ i _ => n - (intOf i).toNat)
  case atStart => exact ⟨0, 0, 0, none, Nat.zero_le _, rfl, rfl, Lib.hid rfl, Nat.le_refl _, World.ownsRow_nil _ _ _ _, Below.refl _ _⟩
  case round =>
    obtain ⟨k, m, cb, bo, hk, rfl, rfl, HM, hmk, hown, hnx⟩ := hrel
    have HO := Lib.hid hown
    have HNX := Lib.hid hnx
    have hsz : G ≤ wr.heap.size := by have := hnx.size; have := HG.out; omega
    have hmc : m ≤ cb := by obtain ⟨_, _, h, _, h2, _⟩ := Reads.of_own hown; injection h with _ _ h3; omega
    clear hown hnx
    by_cases hlt : k < n
    · have hkl : k < L.length := by rw [HL.out]; exact hlt
      have hts : L.take (k + 1) = L.take k ++ [L[k]] := List.take_succ_eq_append_getElem hkl
      obtain ⟨b, o, c', e, hb, _, hc1, hc2, hc3⟩ := Hds.at HV.out k hlt L[k] (List.getElem?_eq_getElem hkl)
      injection e with e1 e2 e3
      subst e1 e3
      have hbG : b < G := by rw [← HG.out]; exact hb
      have HTS := Lib.hid hts
      generalize L[k] = x at *
      obtain ⟨x1, x2, x3⟩ := x
      have hd1 := (HNX.out.cell (p := ⟨b, o + k * 3, none⟩) hbG).trans hc1
      have hd2 := (HNX.out.cell (p := ⟨b, o + k * 3 + 1, none⟩) hbG).trans hc2
      have hd3 := (HNX.out.cell (p := ⟨b, o + k * 3 + 2, none⟩) hbG).trans hc3
      simp only at hd1 hd2 hd3
      clear hc1 hc2 hc3 hkl hts e2 hb
      by_cases h1 : x1 = id
      · have HT : Hid (heldRaw id (L.take (k + 1)) = heldRaw id (L.take k) ++ [(x2, x3)]) := Lib.hid (by rw [HTS.out]; simp [heldRaw, h1])
        have hb1 : (x1 == id) = true := by simp [h1]
        clear h1 HTS
        go_wp2_with (at_builtin; refine wpList_append_two wnsOf (.tmp 21) (.tmp 24) rfl rfl (base := G) rfl ((HO.out.alloc _).alloc _) rfl rfl (news := [.string x2, .int .i64 x3]) (by intro j u hu; rw [Addr.add_lit, World.cell?_alloc_at _ _ _ _ (by simp)]; simpa using hu) (by intro u hu; simp at hu; rcases hu with rfl | rfl <;> rfl) (by omega) (by omega) (by simp; omega) (by omega) ?_; intro g2 cap2 w2 hown2 hgr2 hor2)
        have hbel2 := ((HNX.out.alloc hsz _).alloc (by simp; omega) _).grown hgr2 (by simp; omega) (fun k hk => (HO.out.lt k hk).1)
        have hown3 : w2.ownsRow G 40 2 (.slice (some ⟨g2, 0, none⟩) (m + 1) cap2) (m + 1) (wcells (heldRaw id (L.take (k + 1)))) := by rw [HT.out, wcells_append]; exact hown2
        go_roundw
        case rel => exact ⟨k + 1, m + 1, cap2, some ⟨g2, 0, none⟩, by omega, by go_num, rfl, Lib.hid (by rw [HT.out, List.length_append, HM.out]; rfl), by omega, hown3, hbel2⟩
        case measure => simp [intOf]; omega
      · have HT : Hid (heldRaw id (L.take (k + 1)) = heldRaw id (L.take k)) := Lib.hid (by rw [HTS.out]; simp [heldRaw, h1])
        have hb1 : (x1 == id) = false := by simp [h1]
        clear h1 HTS
        go_wp2_with fail
        go_roundw
        case rel => exact ⟨k + 1, m, cb, bo, by omega, by go_num, rfl, Lib.hid (by rw [HT.out]; exact HM.out), by omega, by rw [HT.out]; exact HO.out.alloc _, HNX.out.alloc hsz _⟩
        case measure => simp [intOf]; omega
    · obtain rfl : n = k := by omega
      have hall : L.take n = L := List.take_of_length_le (Nat.le_of_eq HL.out)
      rw [hall] at HM HO
      go_wp2_with fail
      refine (sortW_any (heldRaw id L) _ m G 40 HM.out (by omega) w wr HO.out HNX.out).mono ?_
      rintro e w2 ⟨c2, rfl, hperm, hord, hown2, hbel2⟩
      have HO2 := Lib.hid hown2
      have HB2 := Lib.hid hbel2
      have HC2 : Hid (c2.Pairwise fun a b => nmLt b.1 a.1 = false) := Lib.hid (hord.imp (fun h => by rw [lt_cfHeld] at h; exact h))
      have HP2 := Lib.hid hperm
      clear hown2 hbel2 hord hperm
      go_wp2_with (go_at_call 35; refine (clipW_any bo m cb _ hmc).mono ?_; rintro e w4 ⟨rfl, rfl⟩)
      go_ret
      exact ⟨c2, _, m, rfl, ⟨HP2.out, HC2.out⟩, by rw [HP2.out.length_eq]; exact HM.out, hmk, (Reads.of_own HO2.out).cut (Nat.le_refl _), by rw [HG.out]; exact HB2.out⟩

set_option maxRecDepth 100000 in
set_option maxHeartbeats 3200000 in
theorem holders_any (L : List Hd) (tb n c : Nat) (ao : Option Addr) (hn : n ≤ 1099511627776) (nm : ByteArray) (w : World) (ht : TabR w tb n c ao L) :
    Calls Try.prog 19 #[.pointer (some ⟨tb, 0, none⟩), .string nm] w fun e w' => ∃ (c' : List Int) (v' : Value) (m : Nat), e = .returned v' ∧ IsHold L nm c' ∧ c'.length = m ∧ m ≤ n ∧ Reads 1 w' v' m (c'.map (Value.int .i64)) ∧ Below w.heap.size w w' := by
  have hc0 := ht.box.cell 0 _ rfl
  have hcf := ht.box.free
  have HL := Lib.hid ht.len
  have HV := Lib.hid ht.reads
  have htb := ht.box.lt
  obtain ⟨G, hG⟩ : ∃ G, w.heap.size = G := ⟨_, rfl⟩
  have HG := Lib.hid hG
  clear ht hG
  go_enter Try.func19, Try.ntmps19
  go_wp2_with fail
  clear hc0 hcf htb
  go_loopw [5, 13] (fun s i wr => ∃ (k m cb : Nat) (bo : Option Addr), k ≤ n ∧ i = .int .i64 k ∧ s = .slice bo m cb ∧ Hid ((holdRaw nm (L.take k)).length = m) ∧ m ≤ k ∧
      wr.ownsRow G 3 1 (.slice bo m cb) m (List.map (Value.int .i64) (holdRaw nm (L.take k))) ∧ Below G w wr) (fun _ i _ => n - (intOf i).toNat)
  case atStart => exact ⟨0, 0, 0, none, Nat.zero_le _, rfl, rfl, Lib.hid rfl, Nat.le_refl _, World.ownsRow_nil _ _ _ _, Below.refl _ _⟩
  case round =>
    obtain ⟨k, m, cb, bo, hk, rfl, rfl, HM, hmk, hown, hnx⟩ := hrel
    have HO := Lib.hid hown
    have HNX := Lib.hid hnx
    have hsz : G ≤ wr.heap.size := by have := hnx.size; have := HG.out; omega
    have hmc : m ≤ cb := by obtain ⟨_, _, h, _, h2, _⟩ := Reads.of_own hown; injection h with _ _ h3; omega
    clear hown hnx
    by_cases hlt : k < n
    · have hkl : k < L.length := by rw [HL.out]; exact hlt
      have hts : L.take (k + 1) = L.take k ++ [L[k]] := List.take_succ_eq_append_getElem hkl
      obtain ⟨b, o, c', e, hb, _, hc1, hc2, hc3⟩ := Hds.at HV.out k hlt L[k] (List.getElem?_eq_getElem hkl)
      injection e with e1 e2 e3
      subst e1 e3
      have hbG : b < G := by rw [← HG.out]; exact hb
      have HTS := Lib.hid hts
      generalize L[k] = x at *
      obtain ⟨x1, x2, x3⟩ := x
      have hd1 := (HNX.out.cell (p := ⟨b, o + k * 3, none⟩) hbG).trans hc1
      have hd2 := (HNX.out.cell (p := ⟨b, o + k * 3 + 1, none⟩) hbG).trans hc2
      have hd3 := (HNX.out.cell (p := ⟨b, o + k * 3 + 2, none⟩) hbG).trans hc3
      simp only at hd1 hd2 hd3
      clear hc1 hc2 hc3 hkl hts e2 hb
      by_cases h1 : x2 = nm
      · have HT : Hid (holdRaw nm (L.take (k + 1)) = holdRaw nm (L.take k) ++ [x1]) := Lib.hid (by rw [HTS.out]; simp [holdRaw, h1])
        have hb1 : (x2.toList == nm.toList) = true := str_eq h1
        clear h1 HTS
        go_wp2_with (at_builtin; refine wpList_append_two intsOf (.tmp 22) (.tmp 25) rfl rfl (base := G) rfl ((HO.out.alloc _).alloc _) rfl rfl (news := [.int .i64 x1]) (by intro j u hu; rw [Addr.add_lit, World.cell?_alloc_at _ _ _ _ (by simp)]; simpa using hu) (by intro u hu; simp at hu; rcases hu with rfl; rfl) (by omega) (by omega) (by simp; omega) (by omega) ?_; intro g2 cap2 w2 hown2 hgr2 hor2)
        have hbel2 := ((HNX.out.alloc hsz _).alloc (by simp; omega) _).grown hgr2 (by simp; omega) (fun k hk => (HO.out.lt k hk).1)
        have hown3 : w2.ownsRow G 3 1 (.slice (some ⟨g2, 0, none⟩) (m + 1) cap2) (m + 1) (List.map (Value.int .i64) (holdRaw nm (L.take (k + 1)))) := by rw [HT.out, List.map_append]; exact hown2
        go_roundw
        case rel => exact ⟨k + 1, m + 1, cap2, some ⟨g2, 0, none⟩, by omega, by go_num, rfl, Lib.hid (by rw [HT.out, List.length_append, HM.out]; rfl), by omega, hown3, hbel2⟩
        case measure => simp [intOf]; omega
      · have HT : Hid (holdRaw nm (L.take (k + 1)) = holdRaw nm (L.take k)) := Lib.hid (by rw [HTS.out]; simp [holdRaw, h1])
        have hb1 : (x2.toList == nm.toList) = false := str_ne h1
        clear h1 HTS
        go_wp2_with fail
        go_roundw
        case rel => exact ⟨k + 1, m, cb, bo, by omega, by go_num, rfl, Lib.hid (by rw [HT.out]; exact HM.out), by omega, by rw [HT.out]; exact HO.out.alloc _, HNX.out.alloc hsz _⟩
        case measure => simp [intOf]; omega
    · obtain rfl : n = k := by omega
      have hall : L.take n = L := List.take_of_length_le (Nat.le_of_eq HL.out)
      rw [hall] at HM HO
      go_wp2_with fail
      refine (sort_any (holdRaw nm L) _ m G 3 (by omega) w wr HO.out HNX.out).mono ?_
      rintro e w2 ⟨c2, rfl, hperm, hord, hown2, hbel2⟩
      have HO2 := Lib.hid hown2
      have HB2 := Lib.hid hbel2
      have HC2 := Lib.hid hord
      have HP2 := Lib.hid hperm
      clear hown2 hbel2 hord hperm
      go_wp2_with (go_at_call 38; refine (clipI_any bo m cb _ hmc).mono ?_; rintro e w4 ⟨rfl, rfl⟩)
      go_ret
      exact ⟨c2, _, m, rfl, ⟨HP2.out, HC2.out⟩, by rw [HP2.out.length_eq]; exact HM.out, hmk, (Reads.of_own HO2.out).cut (Nat.le_refl _), by rw [HG.out]; exact HB2.out⟩

end Go.Proofs.Ytoghmllkaafckaa

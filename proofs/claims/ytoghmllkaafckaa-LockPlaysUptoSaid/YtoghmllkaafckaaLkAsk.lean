/- lock: Ask: who stands in the way. Conditions: at most 2^20 locks and wants. -/
import Derived.Test.YtoghmllkaafckaaLkWhole
import Derived.Test.YtoghmllkaafckaaLkSort
namespace Go.Proofs.Ytoghmllkaafckaa
set_option linter.unusedSimpArgs false
set_option linter.unusedVariables false
open Go.RowKit

/-- a lock of another one that does not fit a want -/
def hit (id : Int) (w : Wn) (h : Hd) : Bool := decide (h.1 ≠ id) && decide (h.2.1 = w.1) && !fitsB h.2.2 w.2
def hits (L : List Hd) (id : Int) (w : Wn) : List Int := (L.filter (hit id w)).map (·.1)
def askRaw (L : List Hd) (id : Int) (O : List Wn) : List Int := O.flatMap (hits L id)
theorem hits_snoc_yes {L : List Hd} {id : Int} {w : Wn} {x : Hd} (h : hit id w x = true) : hits (L ++ [x]) id w = hits L id w ++ [x.1] := by simp [hits, h]
theorem hits_snoc_no {L : List Hd} {id : Int} {w : Wn} {x : Hd} (h : hit id w x = false) : hits (L ++ [x]) id w = hits L id w := by simp [hits, h]
theorem askRaw_snoc (L : List Hd) (id : Int) (O : List Wn) (w : Wn) : askRaw L id (O ++ [w]) = askRaw L id O ++ hits L id w := by simp [askRaw]

/-- what Ask tells -/
structure IsAsk (L : List Hd) (id : Int) (l : List Wn) (c : List Int) : Prop where
  ord : c.Pairwise (· < ·)
  iff : ∀ x, x ∈ c ↔ ∃ h ∈ L, h.1 = x ∧ x ≠ id ∧ wanted l h.2.1 ∧ fitsB h.2.2 (goal L id l h.2.1) = false
theorem askRaw_iff (L : List Hd) (id : Int) (l : List Wn) (x : Int) : x ∈ askRaw L id (whole L id l) ↔ ∃ h ∈ L, h.1 = x ∧ x ≠ id ∧ wanted l h.2.1 ∧ fitsB h.2.2 (goal L id l h.2.1) = false := by
  have hw := (whole_is L id l).iff
  simp only [askRaw, List.mem_flatMap, hits, List.mem_map, List.mem_filter, hit, Bool.and_eq_true, decide_eq_true_eq, Bool.not_eq_true']
  constructor
  · rintro ⟨⟨n, m⟩, hm, h, ⟨hL, ⟨h1, h2⟩, h3⟩, rfl⟩
    obtain ⟨h4, rfl⟩ := (hw n m).1 hm
    simp only at h2 h3
    subst h2
    exact ⟨h, hL, rfl, h1, h4, h3⟩
  · rintro ⟨h, hL, rfl, h1, h2, h3⟩
    exact ⟨(h.2.1, goal L id l h.2.1), (hw _ _).2 ⟨h2, rfl⟩, h, ⟨hL, ⟨h1, rfl⟩, h3⟩, rfl⟩

set_option maxRecDepth 100000 in
set_option maxHeartbeats 6400000 in
theorem ask_any (L : List Hd) (tb n c : Nat) (ao : Option Addr) (hn : n ≤ 1048576) (id : Int) (l : List Wn) (v : Value) (nl : Nat) (hl : l.length = nl) (hnl : nl ≤ 1048576) (w : World) (ht : TabR w tb n c ao L) (hv : Reads 2 w v nl (wcells l)) :
    Calls Try.prog 16 #[.pointer (some ⟨tb, 0, none⟩), .int .i64 id, v] w fun e w' => ∃ (c : List Int) (v' : Value) (m : Nat), e = .returned v' ∧ IsAsk L id l c ∧ c.length = m ∧ m ≤ 1099511627776 ∧ Reads 1 w' v' m (c.map (Value.int .i64)) ∧ Below w.heap.size w w' := by
  obtain ⟨av, cv, rfl⟩ := hv.shape
  have HV := Lib.hid hv
  have HT := Lib.hid ht
  have HNL := Lib.hid hl
  clear hv ht hl
  go_enter Try.func16, Try.ntmps16
  go_wp2_with fail
  refine (whole_any L tb n c ao (by omega) id l _ nl HNL.out (by omega) w HT.out HV.out).mono ?_
  rintro e w1 ⟨v', m, rfl, hown1, hlm, hml, hb1⟩
  obtain ⟨a1, c1, rfl⟩ := (Reads.of_own hown1).shape
  have HW := Lib.hid (Reads.of_own hown1)
  have HLM := Lib.hid hlm
  have HT1 := Lib.hid (HT.out.below hb1 (Nat.le_refl _))
  have HB1 := Lib.hid hb1
  have HR := Lib.hid (askRaw_iff L id l)
  clear hown1 hlm hb1 HV HT
  generalize whole L id l = W at *
  obtain ⟨G, hG⟩ : ∃ G, w1.heap.size = G := ⟨_, rfl⟩
  have HG := Lib.hid hG
  clear hG
  go_wp2_with fail
  go_loopw [7, 17] (fun s i wr => ∃ (k q cb : Nat) (bo : Option Addr), k ≤ m ∧ i = .int .i64 k ∧ s = .slice bo q cb ∧ Hid ((askRaw L id (W.take k)).length = q) ∧ q ≤ k * n ∧
      wr.ownsRow G 3 1 (.slice bo q cb) q ((askRaw L id (W.take k)).map (Value.int .i64)) ∧ Below G w1 wr) (fun _ i _ => m - (intOf i).toNat)
  case atStart => exact ⟨0, 0, 0, none, Nat.zero_le _, rfl, rfl, Lib.hid rfl, by omega, World.ownsRow_nil _ _ _ _, Below.refl _ _⟩
  case round =>
    obtain ⟨k, q, cb, bo, hk, rfl, rfl, HQ, hqk, hown, hnx⟩ := hrel
    have HO := Lib.hid hown
    have hsz : G ≤ wr.heap.size := by have := hnx.size; have := HG.out; omega
    have HNX := Lib.hid hnx
    clear hown hnx
    by_cases hlt : k < m
    · have hkl : k < W.length := by rw [HLM.out]; exact hlt
      have HTS : Hid (askRaw L id (W.take (k + 1)) = askRaw L id (W.take k) ++ hits L id W[k]) := Lib.hid (by rw [List.take_succ_eq_append_getElem hkl, askRaw_snoc])
      obtain ⟨b, o, c', e, hb, _, hc1, hc2⟩ := Wns.at HW.out k hlt W[k] (List.getElem?_eq_getElem hkl)
      injection e with e1 e2 e3
      subst e1 e3
      have hbG : b < G := by rw [← HG.out]; exact hb
      generalize W[k] = y at *
      obtain ⟨y1, y2⟩ := y
      have hd1 := (HNX.out.cell (p := ⟨b, o + k * 2, none⟩) hbG).trans hc1
      have hd2 := (HNX.out.cell (p := ⟨b, o + k * 2 + 1, none⟩) hbG).trans hc2
      simp only at hd1 hd2
      generalize askRaw L id (W.take k) = A at *
      have hkn : k * n ≤ 1099511627776 - n := by
        have h1 : k * n ≤ 1048575 * n := Nat.mul_le_mul_right _ (by omega)
        omega
      obtain ⟨kn, hkn2⟩ : ∃ kn, k * n = kn := ⟨_, rfl⟩
      have HKN : Hid ((k + 1) * n = kn + n) := Lib.hid (by rw [Nat.succ_mul, hkn2])
      rw [hkn2] at hkn hqk
      clear hc1 hc2 hkl hb e2 hkn2
      have HT2 := Lib.hid (HT1.out.below HNX.out (by rw [HG.out]; exact Nat.le_refl _))
      have ht0 := HT2.out.box.cell 0 _ rfl
      have ht1 := HT2.out.box.free
      obtain ⟨gw, hgw⟩ : ∃ g, wr.heap.size = g := ⟨_, rfl⟩
      have HGW := Lib.hid hgw
      have htl := HT2.out.box.lt
      have htw : tb < gw := by omega
      have HF : Hid (Box (wr.alloc (.cells #[.string y1, .int .i64 y2] 40)) gw [.string y1, .int .i64 y2] ∧ Below G w1 (wr.alloc (.cells #[.string y1, .int .i64 y2] 40)) ∧ TabR (wr.alloc (.cells #[.string y1, .int .i64 y2] 40)) tb n c ao L ∧ (wr.alloc (.cells #[.string y1, .int .i64 y2] 40)).ownsRow G 3 1 (.slice bo q cb) q (A.map (Value.int .i64))) :=
        Lib.hid ⟨Box.new wr _ _ hgw.symm, HNX.out.alloc hsz _, HT2.out.below ((Below.refl wr.heap.size wr).alloc (Nat.le_refl _) _) (Nat.le_refl _), HO.out.alloc _⟩
      have HNG : Hid (Hid (¬ (Value.slice bo q cb).ownBlock = some gw)) := Lib.hid (Lib.hid (fun e => by have := (HO.out.lt gw e).2; omega))
      clear hgw HT2 HNX HO
      go_wp2_with fail
      rw [HGW.out]
      refine wp_world (fun w0 => Box w0 gw [.string y1, .int .i64 y2] ∧ Below G w1 w0 ∧ TabR w0 tb n c ao L ∧ w0.ownsRow G 3 1 (.slice bo q cb) q (A.map (Value.int .i64))) HF.out ?_
      clear HF ht0 ht1 htl hd1 hd2 HGW
      rintro w0 ⟨bw, hb0, ht0, ho0⟩
      clear hsz
      have hsz : G ≤ w0.heap.size := by have := hb0.size; have := HG.out; omega
      have BW := Lib.hid bw
      have HB0 := Lib.hid hb0
      have HT0 := Lib.hid ht0
      have HO0 := Lib.hid ho0
      clear bw hb0 ht0 ho0
      obtain ⟨wo, rfl⟩ : ∃ wo : World, wo = wr := ⟨_, rfl⟩
      go_loopw [7, 26] (fun s i wr => ∃ (j p cb : Nat) (bo : Option Addr), j ≤ n ∧ i = .int .i64 j ∧ s = .slice bo p cb ∧ Hid ((A ++ hits (L.take j) id (y1, y2)).length = p) ∧ p ≤ kn + j ∧
        wr.ownsRow G 3 1 (.slice bo p cb) p ((A ++ hits (L.take j) id (y1, y2)).map (Value.int .i64)) ∧ Below G w1 wr ∧ Box wr gw [.string y1, .int .i64 y2] ∧ Hid (¬ (Value.slice bo p cb).ownBlock = some gw)) (fun _ i _ => n - (intOf i).toNat)
      case atStart => exact ⟨0, q, cb, bo, Nat.zero_le _, rfl, rfl, Lib.hid (by simpa [hits] using HQ.out), by omega, by simpa [hits] using HO0.out, HB0.out, BW.out, HNG.out⟩
      case round =>
        have hkm : k + 1 ≤ m := by omega
        clear hlt HO0 HB0 HT0 BW hsz HQ hqk HNG
        obtain ⟨j, p, cb, bo, hj, rfl, rfl, HP, hpk, ho, hb, bw, HNG⟩ := hrel
        have hsz : G ≤ wr.heap.size := by have := hb.size; have := HG.out; omega
        have HOW := Lib.hid ho
        have HBW := Lib.hid hb
        have BW := Lib.hid bw
        have HTW := Lib.hid (HT1.out.below hb (by rw [HG.out]; exact Nat.le_refl _))
        have HLL := Lib.hid HTW.out.len
        have cw0 := bw.cell 0 _ rfl
        have cw1 := bw.cell 1 _ rfl
        clear ho hb bw
        by_cases hjl : j < n
        · have hjL : j < L.length := by rw [HLL.out]; exact hjl
          have hts : L.take (j + 1) = L.take j ++ [L[j]] := List.take_succ_eq_append_getElem hjL
          obtain ⟨b, o, c', e, hb, _, hc1, hc2, hc3⟩ := Hds.at HTW.out.reads j hjl L[j] (List.getElem?_eq_getElem hjL)
          injection e with e1 e2 e3
          subst e1 e3
          have HYES := hits_snoc_yes (L := L.take j) (id := id) (w := (y1, y2)) (x := L[j])
          have HNO := hits_snoc_no (L := L.take j) (id := id) (w := (y1, y2)) (x := L[j])
          rw [← hts] at HYES HNO
          generalize L[j] = x at *
          obtain ⟨x1, x2, x3⟩ := x
          simp only at hc1 hc2 hc3
          obtain ⟨gx, hgx⟩ : ∃ g, wr.heap.size = g := ⟨_, rfl⟩
          have HGX := Lib.hid hgx
          have hgwl : gw < wr.heap.size := BW.out.lt
          have hsz2 : G ≤ gx := by omega
          have hgwx : gw < gx := by have := BW.out.lt; omega
          have BX := Lib.hid (Box.new wr #[.int .i64 x1, .string x2, .int .i64 x3] 62 hgx.symm)
          have hal : Below gx wr (wr.alloc (.cells #[.int .i64 x1, .string x2, .int .i64 x3] 62)) := (Below.refl gx wr).alloc (by omega) _
          have BW2 := Lib.hid (BW.out.below hal (by omega))
          have HBW2 := Lib.hid (HBW.out.trans (hal.mono hsz2))
          have HOW2 : Hid ((wr.alloc (.cells #[.int .i64 x1, .string x2, .int .i64 x3] 62)).ownsRow G 3 1 (.slice bo p cb) p ((A ++ hits (L.take j) id (y1, y2)).map (Value.int .i64))) := Lib.hid (HOW.out.alloc _)
          clear e2 hts hjL hb hgx hal
          by_cases h1 : x1 = id
          · have hb1 : (x1 != id) = false := by simp [h1]
            have HS := Lib.hid (HNO (by simp [hit, h1]))
            clear HYES HNO h1
            go_wp2_with fail
            go_roundw
            case rel => exact ⟨j + 1, p, cb, bo, by omega, by go_num, rfl, Lib.hid (by rw [HS.out]; exact HP.out), by omega, by rw [HS.out]; exact HOW2.out, HBW2.out, BW2.out, HNG⟩
            case measure => simp [intOf]; omega
          have hb1 : (x1 != id) = true := by simp [h1]
          by_cases h2 : x2 = y1
          case neg =>
            have hb2 : (x2.toList == y1.toList) = false := str_ne h2
            have HS := Lib.hid (HNO (by simp [hit, h2]))
            clear HYES HNO h1 h2
            go_wp2_with fail
            go_roundw
            case rel => exact ⟨j + 1, p, cb, bo, by omega, by go_num, rfl, Lib.hid (by rw [HS.out]; exact HP.out), by omega, by rw [HS.out]; exact HOW2.out, HBW2.out, BW2.out, HNG⟩
            case measure => simp [intOf]; omega
          case pos =>
            have hb2 : (x2.toList == y1.toList) = true := str_eq h2
            cases hfb : fitsB x3 y2 with
            | true =>
              have HS := Lib.hid (HNO (by simp [hit, hfb]))
              have HFB := Lib.hid hfb
              clear HYES HNO h1 h2 hfb
              go_wp2_with fail
              refine (fits_any x3 y2 _).mono ?_
              rintro e w2 ⟨rfl, hb2⟩
              rw [HFB.out]
              have hsz4 : G ≤ (wr.alloc (.cells #[.int .i64 x1, .string x2, .int .i64 x3] 62)).heap.size := by simp; omega
              have HB3 := Lib.hid (HBW2.out.trans (hb2.mono hsz4))
              have BW3 := Lib.hid (BW2.out.below hb2 (Nat.le_refl _))
              have HO3 := Lib.hid (own_below HOW2.out hb2 (fun q e => (HOW2.out.lt q e).2))
              clear hb2 hsz4
              go_wp2_with fail
              go_roundw
              case rel => exact ⟨j + 1, p, cb, bo, by omega, by go_num, rfl, Lib.hid (by rw [HS.out]; exact HP.out), by omega, by rw [HS.out]; exact HO3.out, HB3.out, BW3.out, HNG⟩
              case measure => simp [intOf]; omega
            | false =>
              have HS := Lib.hid (HYES (by simp [hit, hfb, h1, h2]))
              have HFB := Lib.hid hfb
              clear HYES HNO h1 h2 hfb
              go_wp2_with fail
              refine (fits_any x3 y2 _).mono ?_
              rintro e w2 ⟨rfl, hb2⟩
              rw [HFB.out, HGX.out]
              have hsz4 : G ≤ (wr.alloc (.cells #[.int .i64 x1, .string x2, .int .i64 x3] 62)).heap.size := by simp; omega
              have HB3 := Lib.hid (HBW2.out.trans (hb2.mono hsz4))
              have BW3 := Lib.hid (BW2.out.below hb2 (Nat.le_refl _))
              have BX3 := Lib.hid (BX.out.below hb2 (Nat.le_refl _))
              have HO3 := Lib.hid (own_below HOW2.out hb2 (fun q e => (HOW2.out.lt q e).2))
              have hsz3 : G ≤ w2.heap.size := by have := hb2.size; omega
              have HLT : Hid (∀ q, (Value.slice bo p cb).ownBlock = some q → G ≤ q) := Lib.hid (fun q e => (HOW.out.lt q e).1)
              clear hb2 hsz4
              have cx0 := BX3.out.cell 0 _ rfl
              have HA3 : Hid ((w2.alloc (.cells #[.int .i64 x1] 3)).ownsRow G 3 1 (.slice bo p cb) p ((A ++ hits (L.take j) id (y1, y2)).map (Value.int .i64))) := Lib.hid (HO3.out.alloc _)
              go_wp2_with (at_builtin; refine wpList_append_two intsOf (.tmp 51) (.tmp 54) rfl rfl (base := G) rfl HA3.out rfl rfl (news := [.int .i64 x1]) (by intro j u hu; rw [Addr.add_lit, World.cell?_alloc_at _ _ _ _ rfl]; simpa using hu) (by intro u hu; simp at hu; rcases hu with rfl; rfl) (by omega) (by omega) (by simp; omega) (by omega) ?_; intro ob cb4 w4 hown4 hgr4 hor4)
              have hal : Below w2.heap.size w2 (w2.alloc (.cells #[.int .i64 x1] 3)) := (Below.refl _ w2).alloc (Nat.le_refl _) _
              have HB4 := (HB3.out.trans (hal.mono hsz3)).grown hgr4 (by simp; omega) (fun k hk => HLT.out k hk)
              have BW4 := (BW3.out.below hal (Nat.le_refl _)).growx (GrowX.of_grownBy hgr4) (fun e => HNG.out e)
              have HNG4 : Hid (¬ (Value.slice (some ⟨ob, 0, none⟩) (p + 1) cb4).ownBlock = some gw) := Lib.hid (fun e => by
                injection e with e
                rcases hor4 with e2 | e2
                · exact HNG.out (e2.trans (congrArg some e))
                · have h1 := BW3.out.lt
                  simp at e2
                  simp only at e
                  omega)
              have hown5 : w4.ownsRow G 3 1 (.slice (some ⟨ob, 0, none⟩) (p + 1) cb4) (p + 1) ((A ++ hits (L.take (j + 1)) id (y1, y2)).map (Value.int .i64)) := by
                rw [HS.out, ← List.append_assoc, List.map_append]; exact hown4
              go_roundw
              case rel => exact ⟨j + 1, p + 1, cb4, some ⟨ob, 0, none⟩, by omega, by go_num, rfl, Lib.hid (by rw [HS.out, ← List.append_assoc, List.length_append, HP.out]; rfl), by omega, hown5, HB4, BW4, HNG4⟩
              case measure => simp [intOf]; omega
        · obtain rfl : n = j := by omega
          have hall : L.take n = L := List.take_of_length_le (Nat.le_of_eq HLL.out)
          rw [hall] at HP HOW
          go_wp2
          go_roundw
          case rel => exact ⟨k + 1, p, cb, bo, by omega, by go_num, rfl, Lib.hid (by rw [HTS.out]; exact HP.out), by rw [HKN.out]; exact hpk, by rw [HTS.out]; exact HOW.out, HBW.out⟩
          case measure => simp [intOf]; omega
    · obtain rfl : m = k := by omega
      have hall : W.take m = W := List.take_of_length_le (Nat.le_of_eq HLM.out)
      rw [hall] at HQ HO
      have hkn : m * n ≤ 1048576 * n := Nat.mul_le_mul_right _ (by omega)
      go_wp2_with fail
      refine (sort_any (askRaw L id W) _ q G 3 (by omega) w1 wr HO.out HNX.out).mono ?_
      rintro e w2 ⟨c2, rfl, hperm, hord, hown2, hbel2⟩
      have HO2 := Lib.hid hown2
      have HB2 := Lib.hid hbel2
      have HC2 := Lib.hid hord
      have HP2 := Lib.hid hperm
      clear hown2 hbel2 hord hperm
      go_wp2_with fail
      refine (compact_any c2 _ q G 3 (by omega) w1 w2 HC2.out HO2.out HB2.out).mono ?_
      rintro e w3 ⟨c3, a3, m3, cap3, rfl, hl3, hml3, hmc3, hp3, hi3, hr3, hb3⟩
      have HR3 := Lib.hid hr3
      have HB3 := Lib.hid hb3
      have HI3 := Lib.hid hi3
      have HP3 := Lib.hid hp3
      have HL3 := Lib.hid hl3
      have hm3 : m3 ≤ 1099511627776 := by have h1 := HP2.out.length_eq; have h2 := HQ.out; omega
      clear hr3 hb3 hi3 hp3 hl3
      go_wp2_with (go_at_call 38; refine (clipI_any a3 m3 cap3 _ hmc3).mono ?_; rintro e w4 ⟨rfl, rfl⟩)
      go_ret
      refine ⟨c3, _, m3, rfl, ⟨HP3.out, fun x => ?_⟩, HL3.out, ?_, HR3.out.cut (Nat.le_refl _), HB1.out.trans (HB3.out.mono (by rw [← HG.out]; exact HB1.out.size))⟩
      · rw [HI3.out, HP2.out.mem_iff, HR.out]
      · omega
end Go.Proofs.Ytoghmllkaafckaa

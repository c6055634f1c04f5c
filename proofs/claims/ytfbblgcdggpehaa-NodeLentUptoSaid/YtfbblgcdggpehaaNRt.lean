/- The reference's readers: take and number. Conditions: short lists. -/
import Derived.Test.YtfbblgcdggpehaaNRd
namespace Go.Proofs.Ytfbblgcdggpehaa
set_option linter.unusedSimpArgs false
set_option linter.unusedVariables false
open Go.RowKit

/-- part of a page, as long as it stands -/
def Part (b o : Nat) (L : List UInt8) (v : Value) (l : List UInt8) : Prop := ∃ ao c, v = .slice ao l.length c ∧ l.length ≤ c ∧ ∀ w2, LAt w2 b o L → Reads 1 w2 v l.length (l.map B)
theorem Part.nil (b o : Nat) (L : List UInt8) : Part b o L (.slice none 0 0) [] := ⟨none, 0, rfl, Nat.le_refl _, fun _ _ => Reads.empty⟩
theorem Part.mk' {b o q k c i : Nat} {L : List UInt8} (hk : i + k ≤ L.length) (hc : k ≤ c) (hq : 0 < k → q = o + i) : Part b o L (.slice (some ⟨b, q, none⟩) k c) ((L.drop i).take k) := by
  have hlen : ((L.drop i).take k).length = k := by simp; omega
  refine ⟨some ⟨b, q, none⟩, c, by rw [hlen], by rw [hlen]; exact hc, fun w2 h => ?_⟩
  rw [hlen]
  refine ⟨some ⟨b, q, none⟩, c, rfl, by simp; omega, hc, fun h0 => ⟨b, q, rfl, h.1, fun j u hu => ?_⟩⟩
  rw [List.getElem?_map, Option.map_eq_some_iff] at hu
  obtain ⟨u', hu', rfl⟩ := hu
  rw [hq h0, Nat.add_assoc]
  refine h.2 (i + j) u' ?_
  rw [List.getElem?_take] at hu'
  split at hu'
  · rw [← hu', List.getElem?_drop]
  · cases hu'

set_option maxRecDepth 100000 in
set_option maxHeartbeats 3200000 in
theorem rtake_any (g b o : Nat) (L : List UInt8) (r : Rd) (w : World) (k : Nat) (hr : RAt w g b o L r) (hne : b ≠ g) :
    Calls Try.prog 41 #[.pointer (some ⟨g, 0, none⟩), .int .i64 k] w fun e w' => ∃ v, e = .returned v ∧ Part b o L v (rtake L r k).1 ∧ RAt w' g b o L (rtake L r k).2 ∧ GrowC (fun b' _ => b' = g) w w' := by
  obtain ⟨q, m, cc, hb, hm, hcc, hq⟩ := hr
  obtain ⟨i, bad⟩ := r
  simp only at hm hq hb ⊢
  cases bad with
  | true =>
    have h1 := hb.set1 1 (.bool true)
    have hR := Lib.hid (show RAt (w.setCell ⟨g, 1, none⟩ (.bool true)) g b o L ⟨i, true⟩ ∧ GrowC (fun b' _ => b' = g) w (w.setCell ⟨g, 1, none⟩ (.bool true)) from ⟨⟨q, m, cc, h1.1, hm, hcc, hq⟩, h1.2.mono (fun _ _ h => h.1)⟩)
    have c0 := hb.cell 0 _ rfl
    have c1 := hb.cell 1 _ rfl
    have f := hb.free
    have hE := Lib.hid (show rtake L ⟨i, true⟩ k = ([], ⟨i, true⟩) by unfold rtake; rw [if_pos (.inl rfl)])
    clear h1 hb hm hq
    rw [hE.out]
    go_enter Try.func41, Try.ntmps41
    go_wp2
    go_ret
    exact ⟨_, rfl, Part.nil _ _ _, hR.out.1, hR.out.2⟩
  | false =>
    by_cases hs : m < k
    · have h1 := hb.set1 1 (.bool true)
      have hR := Lib.hid (show RAt (w.setCell ⟨g, 1, none⟩ (.bool true)) g b o L ⟨i, true⟩ ∧ GrowC (fun b' _ => b' = g) w (w.setCell ⟨g, 1, none⟩ (.bool true)) from ⟨⟨q, m, cc, h1.1, hm, hcc, hq⟩, h1.2.mono (fun _ _ h => h.1)⟩)
      have hE := Lib.hid (show rtake L ⟨i, false⟩ k = ([], ⟨i, true⟩) by unfold rtake; rw [if_pos (.inr (by show L.length < i + k; omega))])
      have c0 := hb.cell 0 _ rfl
      have c1 := hb.cell 1 _ rfl
      have f := hb.free
      clear h1 hb hm hq
      rw [hE.out]
      go_enter Try.func41, Try.ntmps41
      go_wp2
      go_ret
      exact ⟨_, rfl, Part.nil _ _ _, hR.out.1, hR.out.2⟩
    · have hE := Lib.hid (show rtake L ⟨i, false⟩ k = ((L.drop i).take k, ⟨i + k, false⟩) by unfold rtake; rw [if_neg (by rintro (h | h); cases h; exact absurd h (by show ¬ L.length < i + k; omega))])
      have c0 := hb.cell 0 _ rfl
      have c1 := hb.cell 1 _ rfl
      have f := hb.free
      have hgl := hb.lt
      have d : decide ((k : Int) > (m : Int)) = false := by simp; omega
      rw [hE.out]
      have HP := Lib.hid (Part.mk' (b := b) (o := o) (q := q) (k := k) (c := cc) (i := i) (L := L) (by omega) (by omega) (fun h => hq (by omega)))
      have HM := Lib.hid hm
      have HQ := Lib.hid hq
      have HB := Lib.hid hb
      clear hm hb hq
      have hkm : k ≤ m := by omega
      have hkc : k ≤ cc := by omega
      clear hs
      by_cases hct : cc = k
      · have h1 := HB.out.set1 0 (.slice (some ⟨b, q, none⟩) (m - k) (cc - k))
        have hR := Lib.hid (show RAt (w.setCell ⟨g, 0, none⟩ (.slice (some ⟨b, q, none⟩) (m - k) (cc - k))) g b o L ⟨i + k, false⟩ ∧ GrowC (fun b' _ => b' = g) w (w.setCell ⟨g, 0, none⟩ (.slice (some ⟨b, q, none⟩) (m - k) (cc - k))) from ⟨⟨_, m - k, cc - k, h1.1, by have := HM.out; simp only; omega, by omega, by omega⟩, h1.2.mono (fun _ _ h => h.1)⟩)
        clear h1
        go_enter Try.func41, Try.ntmps41
        go_wp2
        go_ret
        exact ⟨_, rfl, by simpa [hct] using HP.out, by simpa [hct] using hR.out.1, by simpa [hct] using hR.out.2⟩
      · have h1 := HB.out.set1 0 (.slice (some ⟨b, q + k, none⟩) (m - k) (cc - k))
        have hR := Lib.hid (show RAt (w.setCell ⟨g, 0, none⟩ (.slice (some ⟨b, q + k, none⟩) (m - k) (cc - k))) g b o L ⟨i + k, false⟩ ∧ GrowC (fun b' _ => b' = g) w (w.setCell ⟨g, 0, none⟩ (.slice (some ⟨b, q + k, none⟩) (m - k) (cc - k))) from ⟨⟨_, m - k, cc - k, h1.1, by have := HM.out; simp only; omega, by omega, by intro h; have := HQ.out (by omega); simp only; omega⟩, h1.2.mono (fun _ _ h => h.1)⟩)
        clear h1
        go_enter Try.func41, Try.ntmps41
        go_wp2
        go_ret
        exact ⟨_, rfl, HP.out, hR.out.1, hR.out.2⟩

theorem rnum_take (L : List UInt8) (r : Rd) (k : Nat) : rnum L r k = (numL (rtake L r k).1, (rtake L r k).2) := by
  unfold rnum rtake
  split <;> rfl

set_option maxRecDepth 100000 in
set_option maxHeartbeats 3200000 in
theorem rnumber_any (g b o : Nat) (L : List UInt8) (r : Rd) (w : World) (k : Nat) (hk : k ≤ 4) (hr : RAt w g b o L r) (hl : LAt w b o L) (hne : b ≠ g) :
    Calls Try.prog 40 #[.pointer (some ⟨g, 0, none⟩), .int .i64 k] w fun e w' => e = .returned (.int .i64 ((rnum L r k).1 : Nat)) ∧ RAt w' g b o L (rnum L r k).2 ∧ GrowC (fun b' _ => b' = g) w w' := by
  rw [rnum_take]
  have hlen : (rtake L r k).1.length ≤ 4 := by
    unfold rtake
    split
    · simp
    · simp; omega
  have hcall := rtake_any g b o L r w k hr hne
  obtain ⟨⟨l, r2⟩, hp⟩ : ∃ p, rtake L r k = p := ⟨_, rfl⟩
  rw [hp] at hcall hlen ⊢
  simp only [] at hcall hlen ⊢
  obtain ⟨n, hn⟩ : ∃ n, l.length = n := ⟨_, rfl⟩
  have HT := Lib.hid hcall
  have HL := Lib.hid hl
  have HN := Lib.hid hne
  have hn4 : n ≤ 4 := hn ▸ hlen
  have HLN := Lib.hid hn
  clear hr hl hne hlen hcall hp hn
  go_enter Try.func40, Try.ntmps40
  go_wp2_with fail
  refine HT.out.mono ?_
  rintro e w1 ⟨_, rfl, ⟨ao, c, rfl, hlc, hp⟩, hr1, hg⟩
  have hrd := hp w1 (HL.out.growC hg (fun _ => HN.out))
  have H1 := Lib.hid hr1
  have H2 := Lib.hid hg
  clear hp hr1 hg HL HT
  rw [HLN.out] at hrd hlc ⊢
  obtain ⟨_, _, he, _, _, hc⟩ := hrd
  obtain ⟨rfl, -, rfl⟩ := Value.slice.inj he
  have HC := Lib.hid hc
  clear hc he hlc
  go_wp2
  go_loop [6, 7] (fun nn j => ∃ t : Nat, t ≤ n ∧ j = .int .i64 t ∧ nn = .int .i64 ((numL (l.take t) : Nat) : Int)) (fun _ j => n - (intOf j).toNat)
  case atStart => exact ⟨0, by omega, rfl, rfl⟩
  case round =>
    obtain ⟨t, ht, rfl, rfl⟩ := hrel
    by_cases hlt : t < n
    · obtain ⟨b1, o1, rfl, hb1, hcell⟩ := HC.out (by omega)
      have hkL : t < l.length := by rw [HLN.out]; exact hlt
      have hck := hcell t (B l[t]) (by rw [List.getElem?_map, List.getElem?_eq_getElem hkL]; rfl)
      have hsm := numL_small l 0 t (by omega)
      have HS := Lib.hid (numL_step l 0 t (by omega))
      simp only [B, List.drop_zero, Nat.zero_add] at hck hsm HS
      generalize numL (l.take t) = a at *
      generalize l[t] = cc at *
      have hcl := cc.toNat_lt
      clear hcell
      go_wp2
      go_round
      case rel => exact ⟨t + 1, by omega, by go_num, by rw [HS.out]; go_num⟩
      case measure => simp [intOf]; omega
    · obtain rfl : t = n := by omega
      have hfull : l.take t = l := List.take_of_length_le (by rw [HLN.out]; exact Nat.le_refl _)
      rw [hfull]
      go_wp2
      go_ret
      exact ⟨rfl, H1.out, H2.out⟩

end Go.Proofs.Ytfbblgcdggpehaa

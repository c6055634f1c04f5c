/- area: pages as one text; what going back makes of updates. Conditions: the device does not fail. -/
import Derived.Test.YtpajagkhmodbnaaGreatCSvSto2
namespace Go.Proofs.YtpajagkhmodbnaaGreat
set_option linter.unusedSimpArgs false
set_option linter.unusedVariables false
open Go.RowKit
def areaB (W : Nat → List UInt8) : Nat → List UInt8
 | 0 => []
 | n + 1 => areaB W n ++ W n
theorem areaB_len {W : Nat → List UInt8} : ∀ {n : Nat}, (∀ q, q < n → (W q).length = 504) → (areaB W n).length = 504 * n
 | 0, _ => rfl
 | n + 1, h => by rw [areaB, List.length_append, areaB_len (fun q hq => h q (by omega)), h n (by omega)]; omega
theorem str_app (a b : List UInt8) : ((⟨a.toArray⟩ : ByteArray) ++ (⟨b.toArray⟩ : ByteArray)) = (⟨(a ++ b).toArray⟩ : ByteArray) := by
 apply ByteArray.ext
 rw [ByteArray.data_append]
 simp
section
variable {W0 w w' w2 : World} {A : Adr} {c : Cf} {σ : St} {S X : Nat → Prop} {k b : Nat} {W : Nat → List UInt8}
set_option maxRecDepth 100000 in
set_option maxHeartbeats 3200000 in
theorem area_st (h : Sto W0 A c k b σ W S w) (n : Nat) (hn : n ≤ c.pg) (hn2 : n ≤ 8192) (hk : k + n ≤ 900000) :
  Calls Tryz.prog 40 #[.pointer (some ⟨A.sb, 0, none⟩), .int .i64 (n : Nat)] w fun er w' => ∃ σ' S', er = .returned (.tuple #[.string ⟨(areaB W n).toArray⟩, .bool true]) ∧ Sto W0 A c (k + n) b σ' W S' w' ∧ Foot S S' w w' ∧ Like σ σ' := by
 have H0 := Lib.hid h
 clear h
 go_enter Tryz.func40, Tryz.ntmps40
 go_wp2_with fail
 go_loopw [6, 7, 8, 9] (fun z6 z7 z8 z9 wr => ∃ (j : Nat) (σ' : St) (S' : Nat → Prop), j ≤ n ∧ z7 = .int .i64 (j : Nat) ∧ z6 = .string ⟨(areaB W j).toArray⟩ ∧ Sto W0 A c (k + j) b σ' W S' wr ∧ Foot S S' w wr ∧ Like σ σ') (fun _ z7 _ _ _ => n - (intOf z7).toNat)
 case atStart => exact ⟨0, σ, S, Nat.zero_le _, rfl, rfl, H0.out, Foot.below (GrowX.refl _), Like.refl _⟩
 case round =>
  obtain ⟨j, σ', S', hj, rfl, rfl, hst, hft, hlk⟩ := hrel
  have HST := Lib.hid hst
  have HFT := Lib.hid hft
  have HLK := Lib.hid hlk
  clear hst hft hlk
  by_cases hjn : j < n
  ·have b1 : decide ((j : Int) < (n : Int)) = true := by simpa using hjn
   have b2 : decide (j < n) = true := by simpa using hjn
   have hrd := read_st HST.out j 0 504 (by omega) (by omega) (by omega)
   have hwl := HST.out.std.len (show j < c.pg by omega)
   rw [List.drop_zero, List.take_of_length_le (Nat.le_of_eq hwl)] at hrd
   have HRD := Lib.hid hrd
   clear hrd
   go_wp2_with fail
   refine HRD.out.mono ?_
   rintro e y ⟨v, σ2, S2, rfl, hrow, hlen, hns, hst, hft, hlk⟩
   obtain ⟨g, cap, rfl, _, _⟩ := own_slice hrow (by decide)
   have hstr := run_str_reads Tryz.underlying48 Tryz.underlying5 Tryz.underlying9 (W j) (Reads.of_own hrow)
   have happ := str_app (areaB W j) (W j)
   have hal : (areaB W j).length = 504 * j := areaB_len (fun q hq => HST.out.std.len (by omega))
   have hz1 : (⟨(areaB W j).toArray⟩ : ByteArray).size = 504 * j := by rw [← hal]; exact List.size_toArray
   have hz2 : (⟨(W j).toArray⟩ : ByteArray).size = 504 := by rw [← hwl]; exact List.size_toArray
   clear hal
   have HS2 := Lib.hid hst
   have HF2 := Lib.hid hft
   have HL2 := Lib.hid hlk
   clear hrow hst hft hlk hns hlen HRD
   go_wp2_with fail
   go_roundw
   ·exact ⟨j + 1, σ2, S2, by omega, by go_num, by rw [areaB], HS2.out.more _ (by omega), HFT.out.trans HF2.out, HLK.out.trans HL2.out⟩
   ·simp [intOf]; omega
  ·obtain rfl : j = n := by omega
   go_wp2_with fail
   go_ret2
   exact ⟨σ', S', rfl, HST.out, HFT.out, HLK.out⟩
end
def popR (mark : Nat) : List Up → (Nat → List UInt8) → List Up × (Nat → List UInt8)
 | [], W => ([], W)
 | u :: r, W => if u.lsn ≤ mark then (u :: r, W) else popR mark r (updV W u.page (overB (W u.page) u.off u.before))
theorem popU_R (mark : Nat) : ∀ (m : Nat) (l : List Up) (W : Nat → List UInt8), l.length ≤ m → popU mark (m + 1) l W = ((popR mark l.reverse W).1.reverse, (popR mark l.reverse W).2) := by
 intro m
 induction m with
 | zero =>
  intro l W hl
  rw [List.eq_nil_of_length_eq_zero (show l.length = 0 by omega)]
  rfl
 | succ m ih =>
  intro l W hl
  rw [popU]
  cases hg : l.getLast? with
  | none =>
   rw [List.getLast?_eq_none_iff] at hg
   subst hg
   rfl
  | some u =>
   have he := drop_last hg
   have hr : l.reverse = u :: l.dropLast.reverse := by rw [← he, List.reverse_append]; simp
   simp only []
   rw [hr, popR]
   split
   ·rw [← hr, List.reverse_reverse]
   ·exact ih _ _ (by rw [List.length_dropLast]; omega)
theorem popR_twice (m1 m2 : Nat) (h : m1 ≤ m2) : ∀ (r : List Up) (W : Nat → List UInt8), popR m1 (popR m2 r W).1 (popR m2 r W).2 = popR m1 r W
 | [], W => rfl
 | u :: r, W => by
  rw [popR]
  split
  ·rfl
  ·next hn =>
   rw [popR_twice m1 m2 h r]
   conv => rhs; rw [popR]
   rw [if_neg (by omega)]
theorem popR_stop {m : Nat} {r : List Up} (h : ∀ u ∈ r, u.lsn ≤ m) (W : Nat → List UInt8) : popR m r W = (r, W) := by
 cases r with
 | nil => rfl
 | cons u r => rw [popR, if_pos (h u (List.mem_cons_self ..))]
theorem popR_mem {m : Nat} : ∀ (r : List Up) (W : Nat → List UInt8), ∀ u ∈ (popR m r W).1, u ∈ r
 | [], W, u, hu => hu
 | v :: r, W, u, hu => by
  rw [popR] at hu
  split at hu
  ·exact hu
  ·exact List.mem_cons_of_mem _ (popR_mem r _ u hu)
theorem updV_back (W : Nat → List UInt8) (p : Nat) (x y : List UInt8) (h : overB x 0 [] = x ∨ True) (hx : y = W p) : updV (updV W p x) p y = W := by
 funext q
 unfold updV
 split
 ·next e => rw [e, hx]
 ·rfl
theorem over_undo (W : Nat → List UInt8) (p off : Nat) (bs : List UInt8) (h : off + bs.length ≤ (W p).length) :
  updV (updV W p (overB (W p) off bs)) p (overB (updV W p (overB (W p) off bs) p) off (((W p).drop off).take bs.length)) = W := by
 refine updV_back W p _ _ (.inr trivial) ?_
 have e : updV W p (overB (W p) off bs) p = overB (W p) off bs := by unfold updV; rw [if_pos rfl]
 rw [e]
 exact overB_back _ _ _ _ h rfl
end Go.Proofs.YtpajagkhmodbnaaGreat

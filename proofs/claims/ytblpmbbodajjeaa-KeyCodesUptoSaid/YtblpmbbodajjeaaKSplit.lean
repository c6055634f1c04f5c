/- What key.Split answers, for all bytes. Conditions: at most 2^40 bytes. -/
import Derived.Test.YtblpmbbodajjeaaKJoin
import Derived.Test.YtblpmbbodajjeaaKBackLaw
namespace Go.Proofs.Ytblpmbbodajjeaa
set_option linter.unusedSimpArgs false
set_option linter.unusedVariables false
open Go.RowKit
open K (Val enc dec cellsOf split)

theorem sl_vals : SliceOf Try.prog 24 23 (.agg #[.int .i64 0, .int .i64 0, .string ⟨#[]⟩, .bool false]) 4 40 := ⟨Try.underlying24, by kernel_rfl, rfl, by decide⟩

/-- the two results of Split -/
def SplitEnd (r : Option (List Val)) (w : World) (e : Ending) (w' : World) : Prop :=
  (match r with
    | none => e = .returned (.tuple #[.slice none 0 0, .bool false])
    | some l => ∃ v n, e = .returned (.tuple #[v, .bool true]) ∧ Reads 4 w' v n (cellsOf l)) ∧ Below w.heap.size w w'

def lenOf : Value → Nat | .slice _ k _ => k | _ => 0

/-- where Split stands: out is gathered, R is left -/
def SplitAt (L R : List UInt8) (out : List Val) : Prop := split L = (split R).map (out ++ ·)

theorem split_start (L : List UInt8) : SplitAt L L [] := by unfold SplitAt; cases split L <;> simp
theorem split_step (L R : List UInt8) (out : List Val) (p : Val × Nat) (h : SplitAt L R out) (hd : dec R = some p) : SplitAt L (R.drop p.2) (out ++ [p.1]) := by
  unfold SplitAt at *
  rw [h, K.split_some R p hd]
  cases split (R.drop p.2) <;> simp
theorem split_bad (L R : List UInt8) (out : List Val) (h : SplitAt L R out) (hR : R ≠ []) (hd : dec R = none) : split L = none := by
  unfold SplitAt at h; rw [h, K.split_none R hR hd]; rfl
theorem split_end (L : List UInt8) (out : List Val) (h : SplitAt L [] out) : split L = some out := by
  unfold SplitAt at h; rw [h, K.split_nil]; simp
theorem cellsOf_snoc (l : List Val) (x : Val) : cellsOf (l ++ [x]) = cellsOf l ++ x.cells := by simp [cellsOf]

set_option maxRecDepth 100000 in
set_option maxHeartbeats 1600000 in
theorem split_any (ao : Option Addr) (n cap : Nat) (L : List UInt8) (w : World) (hmax : n ≤ 1099511627776) (hr : Reads 1 w (.slice ao n cap) n (L.map B)) :
    Calls Try.prog 13 #[.slice ao n cap] w fun e w' => SplitEnd (split L) w e w' := by
  have HR := Lib.hid hr
  clear hr
  go_enter Try.func13, Try.ntmps13
  go_wp2
  go_loopw [0, 4] (fun s v wr => ∃ (R : List UInt8) (out : List Val) (ao1 bo : Option Addr) (n1 cap1 m cb : Nat), s = .slice ao1 n1 cap1 ∧ v = .slice bo m cb ∧ n1 ≤ n ∧ m + n1 ≤ n ∧
      Reads 1 w (.slice ao1 n1 cap1) n1 (R.map B) ∧ wr.ownsRow w.heap.size 23 4 (.slice bo m cb) m (cellsOf out) ∧ SplitAt L R out ∧ Below w.heap.size w wr) (fun s _ _ => lenOf s)
  case atStart =>
    exact ⟨L, [], ao, none, n, cap, 0, 0, rfl, rfl, Nat.le_refl _, by omega, HR.out, World.ownsRow_nil _ _ _ _, split_start L, Below.refl _ _⟩
  case round =>
    obtain ⟨R, out, ao1, bo, n1, cap1, m, cb, rfl, rfl, hn1, hm, hrd, hown, hsp, hnx⟩ := hrel
    have hsz := hnx.size
    have hlR : R.length = n1 := by obtain ⟨_, _, _, h, _⟩ := hrd; simpa using h
    have HRD := Lib.hid hrd
    have HSP := Lib.hid hsp
    have HLR := Lib.hid hlR
    clear hrd hsp hlR
    by_cases h0 : n1 = 0
    · subst h0
      have hR : R = [] := List.eq_nil_of_length_eq_zero HLR.out
      subst hR
      have HE := Lib.hid (split_end L out HSP.out)
      have hmc : m ≤ cb := by
        obtain ⟨_, _, h, _, h2, _⟩ := Reads.of_own hown
        injection h with _ _ h3; omega
      have HO := Lib.hid (Reads.of_own hown)
      clear hown
      by_cases hm0 : m = 0
      · subst hm0
        go_wp2
        go_ret2
        rw [HE.out]
        exact ⟨⟨_, 0, rfl, HO.out.cut (Nat.le_refl _)⟩, hnx⟩
      · go_wp2
        go_ret2
        rw [HE.out]
        exact ⟨⟨_, m, rfl, HO.out.cut (Nat.le_refl _)⟩, hnx⟩
    · have hpos : 0 < n1 := by omega
      obtain ⟨hle, _, b, off, rfl, hb, hc⟩ := HRD.out.some_addr hpos
      clear hc
      have hRne : R ≠ [] := fun e => by have := HLR.out; rw [e] at this; simp at this; omega
      go_wp2_with fail
      refine (dec_reads _ n1 cap1 R _ (by omega) (HRD.out.below hnx (Nat.le_refl _))).mono ?_
      rintro e w1 ⟨rfl, hbel⟩
      have hown1 := own_below hown hbel (fun g hg => (hown.lt g hg).2)
      have hnx1 := hnx.trans (hbel.mono hsz)
      have hsz1 := hnx1.size
      cases hd : dec R with
      | none =>
        have HE := Lib.hid (split_bad L R out HSP.out hRne hd)
        clear hd hRne
        simp only [decV]
        go_wp2
        go_ret2
        rw [HE.out]
        exact ⟨rfl, hnx1.alloc hsz1 _⟩
      | some p =>
        obtain ⟨x, k⟩ := p
        obtain ⟨hp1, hp2⟩ := K.dec_pos R _ hd
        rw [HLR.out] at hp2
        simp only at hp1 hp2
        have HE := Lib.hid (split_step L R out _ HSP.out hd)
        clear hd hRne
        simp only [decV, Val.v]
        by_cases hck : cap1 = k
        · have hkn : k = n1 := by omega
          have hRk : R.drop k = [] := List.drop_eq_nil_of_le (by rw [HLR.out]; omega)
          simp only [hRk] at HE
          have HK := Lib.hid hkn
          subst hck
          clear hkn hRk
          go_wp2_with (first
            | (at_builtin; refine wpList_appG sl_vals (.tmp 19) (.tmp 21) rfl rfl rfl (hown1.alloc _) (hnx1.alloc hsz1 _) rfl (by simp) rfl (by intro u hu; simp at hu; rcases hu with rfl | rfl | rfl | rfl <;> rfl) (by omega) (by omega) (by simp; omega) (by omega) ?_; intro g2 cap2 w2 hown2 hbel2 hg2 hlt2 hcap2))
          refine ⟨⟨[], out ++ [x], _, _, 0, 0, m + 1, cap2, rfl, rfl, Nat.zero_le _, by omega, Reads.empty, by rw [cellsOf_snoc]; simpa [Val.cells] using hown2, HE.out, hbel2⟩, ?_⟩
          show 0 < n1; exact hpos
        · go_wp2_with (first
            | (at_builtin; refine wpList_appG sl_vals (.tmp 19) (.tmp 21) rfl rfl rfl (hown1.alloc _) (hnx1.alloc hsz1 _) rfl (by simp) rfl (by intro u hu; simp at hu; rcases hu with rfl | rfl | rfl | rfl <;> rfl) (by omega) (by omega) (by simp; omega) (by omega) ?_; intro g2 cap2 w2 hown2 hbel2 hg2 hlt2 hcap2))
          refine ⟨⟨R.drop k, out ++ [x], _, _, n1 - k, cap1 - k, m + 1, cap2, rfl, rfl, by omega, by omega, by rw [List.map_drop]; exact HRD.out.drop1 hp2 hck, by rw [cellsOf_snoc]; simpa [Val.cells] using hown2, HE.out, hbel2⟩, ?_⟩
          show n1 - k < n1; omega

end Go.Proofs.Ytblpmbbodajjeaa

/- What the reference's Join answers, for all values. Conditions: at most 2^40 bytes in all. -/
import Derived.Test.YtblpmbbodajjeaaKJoin
import Derived.Test.YtblpmbbodajjeaaREnc
import Derived.Test.YtblpmbbodajjeaaRDec
namespace Go.Proofs.Ytblpmbbodajjeaa
set_option linter.unusedSimpArgs false
set_option linter.unusedVariables false
open Go.RowKit
open K (Val enc esc be8 cmpI cmpV clean txt txtAt un dec join cellsOf)

set_option maxRecDepth 100000 in
set_option maxHeartbeats 1600000 in
theorem rjoin_any (ao : Option Addr) (n cap : Nat) (l : List Val) (w : World) (hr : Reads 4 w (.slice ao n cap) n (cellsOf l)) (hok : ∀ x ∈ l, x.ok) (hmax : (join l).length ≤ 1099511627776) (hn : n ≤ 1099511627776) :
    Calls Try.prog 16 #[.slice ao n cap] w fun e w' => RetReads 1 w e w' ((join l).map B) := by
  have hln : n = l.length := by
    have h1 := hr; obtain ⟨_, _, _, h2, _⟩ := h1; rw [K.cellsOf_length] at h2; omega
  have HLN := Lib.hid hln
  have HR := Lib.hid hr
  have HM := Lib.hid hmax
  have HOK := Lib.hid hok
  clear hln hr hmax hok
  go_enter Try.func16, Try.ntmps16
  go_wp2
  go_loopw [3, 4] (fun v i wr => ∃ (k m cb : Nat) (bo : Option Addr), k ≤ n ∧ i = .int .i64 k ∧ v = .slice bo m cb ∧
      wr.ownsRow w.heap.size 5 1 (.slice bo m cb) m ((join (l.take k)).map B) ∧ Below w.heap.size w wr) (fun _ i _ => n - (intOf i).toNat)
  case atStart => exact ⟨0, 0, 0, none, Nat.zero_le _, rfl, rfl, World.ownsRow_nil _ _ _ _, Below.refl _ _⟩
  case round =>
    obtain ⟨k, m, cb, bo, hk, rfl, rfl, hown, hnx⟩ := hrel
    have hsz := hnx.size
    have hcr := bcellB hnx
    by_cases hlt : k < n
    · have hkl : k < l.length := by rw [← HLN.out]; exact hlt
      obtain ⟨ao1, cap1, he, hl4, hnc, hcells⟩ := HR.out
      obtain ⟨rfl, rfl⟩ : ao = ao1 ∧ cap = cap1 := by injection he with h1 h2 h3; exact ⟨h1, h3⟩
      obtain ⟨b, off, rfl, hb, hc⟩ := hcells (by omega)
      obtain ⟨x, hx⟩ : ∃ x, l[k] = x := ⟨_, rfl⟩
      obtain ⟨c0, c1, c2, c3⟩ := reads_val hc k hkl hx
      obtain ⟨q1, q2, q3⟩ := HOK.out x (by rw [← hx]; exact List.getElem_mem hkl)
      have HJ := Lib.hid (K.join_take l k hkl)
      rw [hx] at HJ
      have HX := Lib.hid hx
      clear he hl4 hcells hc hx
      go_wp2_with fail
      refine (renc_any x.ty x.num x.txt x.tru _ q1 q2 q3).mono ?_
      rintro e w1 ⟨g, ne, ce, rfl, hrow, hbel⟩
      have hne : ne = (enc x).length := by have := hrow.1; simpa using this.symm
      have hlen : m + ne ≤ 1099511627776 := by
        have h1 := HM.out
        have h2 := K.join_take_le l (k + 1)
        rw [HJ.out, List.length_append] at h2
        have h3 := hown.1
        simp at h3
        omega
      have HNE := Lib.hid hne
      clear hne
      have hown1 := own_below hown hbel (fun g hg => (hown.lt g hg).2)
      have hnx1 := hnx.trans (hbel.mono hsz)
      have hsz1 := hnx1.size
      go_wp2_with (first
        | (at_builtin; refine wpList_append_reads sl_bytes (.tmp 11) (.tmp 16) rfl rfl rfl hown1 hnx1 rfl (Reads.of_own hrow) (Bs_one _) (by omega) (by omega) hsz1 ?_; intro ao2 cap2 w2 hown2 hbel2; have hsz2 := hbel2.size))
      go_roundw
      case rel => exact ⟨k + 1, m + ne, cap2, ao2, by omega, by go_num, rfl, by rw [HJ.out]; simpa using hown2, hbel2⟩
      case measure => simp [intOf]; omega
    · obtain rfl : k = n := by omega
      have hfull : l.take k = l := List.take_of_length_le (by rw [← HLN.out]; exact Nat.le_refl _)
      rw [hfull] at hown
      have hmc : m ≤ cb := by
        rcases hown.2 with ⟨h, e⟩ | ⟨g, c, cur, h, _, _, hc, _⟩
        · omega
        · injection h with _ _ h3; omega
      have HF := Lib.hid hown
      have hml : m = (join l).length := by have := hown.1; simpa using this.symm
      have hml2 : m ≤ 1099511627776 := by rw [hml]; exact HM.out
      clear hown hml hfull
      by_cases hm0 : m = 0
      · subst hm0
        go_wp2
        go_ret
        exact ⟨_, 0, rfl, Reads.of_own HF.out, hnx⟩
      · go_wp2
        go_ret
        exact ⟨_, m, rfl, Reads.of_own HF.out, hnx⟩
end Go.Proofs.Ytblpmbbodajjeaa

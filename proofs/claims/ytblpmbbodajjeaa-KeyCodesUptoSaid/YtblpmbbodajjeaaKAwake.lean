/- What the law's awake answers: true. Conditions: none. -/
import Derived.Test.YtblpmbbodajjeaaKJoin
namespace Go.Proofs.Ytblpmbbodajjeaa
set_option linter.unusedSimpArgs false
set_option linter.unusedVariables false
open Go.RowKit
open K (Val enc esc be8 cmpI cmpV clean txt txtAt un dec join cellsOf)

set_option maxRecDepth 100000 in
set_option maxHeartbeats 1600000 in
theorem awake_any (w : World) : Calls Try.prog 10 #[] w fun e w' => e = .returned (.bool true) ∧ Below w.heap.size w w' := by
  have HE1 : Hid (enc ⟨1, 0, ⟨#[]⟩, false⟩ = [1, 128, 0, 0, 0, 0, 0, 0, 0]) := by show _ = _; decide
  have HE2 : Hid (enc ⟨2, 0, ⟨#[97, 0]⟩, false⟩ = [2, 97, 0, 255, 0, 0]) := by show _ = _; decide
  have HD : Hid (dec [2, 97, 0, 255, 0, 0] = some (⟨2, 0, ⟨#[97, 0]⟩, false⟩, 6)) := by show _ = _; simp [dec, K.txt]
  go_enter Try.func10, Try.ntmps10
  go_wp2_with fail
  refine (enc_any 1 0 ⟨#[]⟩ false _ (by omega) (by omega) (by decide)).mono ?_
  rintro e w1 ⟨g, n1, c1, rfl, hrow, hbel⟩
  rw [HE1.out] at hrow
  obtain rfl : n1 = 9 := by have := hrow.1; simpa using this.symm
  have hg1 := (hrow.lt g rfl).2
  have hcell : w1.cell? ⟨g, 1, none⟩ = some (.int .u8 128) := own_cells hrow 1 _ rfl
  go_wp2_with fail
  refine (enc_any 2 0 ⟨#[97, 0]⟩ false _ (by omega) (by omega) (by decide)).mono ?_
  rintro e w2 ⟨g2, n2, c2, rfl, hrow2, hbel2⟩
  rw [HE2.out] at hrow2
  obtain rfl : n2 = 6 := by have := hrow2.1; simpa using this.symm
  have hs2 := hbel2.size
  have hcell2 : w2.cell? ⟨g, 1, none⟩ = some (.int .u8 128) := ((bcell hbel2).1 g 1 hg1).trans hcell
  go_wp2_with fail
  refine (dec_reads _ 6 _ [2, 97, 0, 255, 0, 0] _ (by omega) (Reads.of_own hrow2)).mono ?_
  rintro e w3 ⟨rfl, hbel3⟩
  rw [HD.out]
  have hs3 := hbel3.size
  have hcell3 : w3.cell? ⟨g, 1, none⟩ = some (.int .u8 128) := ((bcell hbel3).1 g 1 (by omega)).trans hcell2
  have hbw : Below w.heap.size w w3 := (hbel.trans (hbel2.mono hbel.size)).trans (hbel3.mono (by have := hbel.size; omega))
  have hg3 : g < w3.heap.size := by omega
  clear hrow hrow2 hcell hcell2 hbel hbel2 hbel3
  simp only [decV, Val.v]
  have HC : Hid (cmpV ⟨0, 0, ⟨#[]⟩, false⟩ ⟨1, 0, ⟨#[]⟩, false⟩ = -1) := by show _ = _; simp [cmpV, K.cmpI]
  have hss := hbw.size
  go_wp2_with fail
  refine (compare_any 0 0 ⟨#[]⟩ false 1 0 ⟨#[]⟩ false _).mono ?_
  rintro e w4 ⟨rfl, hbel4⟩
  rw [HC.out]
  go_wp2
  go_ret
  exact ⟨rfl, (hbw.alloc hss _).trans (hbel4.mono (by simp; omega))⟩
end Go.Proofs.Ytblpmbbodajjeaa

/- The addresses of a node's fields, known at once. Conditions: none. -/
import Derived.Test.YtfbblgcdggpehaaNFinds
namespace Go.Proofs.Ytfbblgcdggpehaa
set_option linter.unusedSimpArgs false
set_option linter.unusedVariables false
open Go.RowKit

theorem fldN0 (g : Nat) (w : World) : (Instr.fieldAt 25 (.pointer (some ⟨g, 0, none⟩)) 0).run Try.prog w = .ok (.pointer (some ⟨g, 0, none⟩)) w := by kernel_rfl
theorem fldN1 (g : Nat) (w : World) : (Instr.fieldAt 25 (.pointer (some ⟨g, 0, none⟩)) 1).run Try.prog w = .ok (.pointer (some ⟨g, 1, none⟩)) w := by kernel_rfl
theorem fldN2 (g : Nat) (w : World) : (Instr.fieldAt 25 (.pointer (some ⟨g, 0, none⟩)) 2).run Try.prog w = .ok (.pointer (some ⟨g, 2, none⟩)) w := by kernel_rfl
theorem fldN3 (g : Nat) (w : World) : (Instr.fieldAt 25 (.pointer (some ⟨g, 0, none⟩)) 3).run Try.prog w = .ok (.pointer (some ⟨g, 3, none⟩)) w := by kernel_rfl
theorem fldN4 (g : Nat) (w : World) : (Instr.fieldAt 25 (.pointer (some ⟨g, 0, none⟩)) 4).run Try.prog w = .ok (.pointer (some ⟨g, 4, none⟩)) w := by kernel_rfl

/-- the address of a field, as one part of a region -/
theorem part_fld {X : Nat → Nat → Prop} {P : Program} {ops : Array Oper} {o : Oper} {ai : Act} {w : World} {R : Value → Nat → Nat → World → Prop} {T k : Nat} {x : Operand} {g : Nat} {v : Value} (hop : o.op = .fieldAddr T x k)
    (hgu : Region.wanted o (yielded ops ai.tmps) = true) (hx : ai.eval x = .pointer (some ⟨g, 0, none⟩)) (hrun : (Instr.fieldAt T (.pointer (some ⟨g, 0, none⟩)) k).run P w = .ok v w) (hR : R v w.heap.size w.heap.size w) :
    wpList P ops (PartEndC X ai o.dst w R) [o] ai w := by
  unfold wpList
  rw [if_pos hgu]
  refine .inl ?_
  unfold Oper.wp
  simp [execOp, hop, hx, hrun, Result.andThen]
  exact ⟨_, rfl, GrowC.refl _, hR⟩

end Go.Proofs.Ytfbblgcdggpehaa

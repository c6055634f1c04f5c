/- The file: where it lies, where a page begins. Conditions: small numbers. -/
import Derived.Test.YtdnjjdpenfhpeaaDvSync
namespace Go.Proofs.Ytdnjjdpenfhpeaa
set_option linter.unusedSimpArgs false
set_option linter.unusedVariables false
open Go.RowKit

/-- a file's struct -/
def FileBox (w : World) (f d : Nat) (fr pg : Nat) (de : Bool) : Prop := Box w f [.pointer (some ⟨d, 0, none⟩), .int .i64 (fr : Nat), .int .i64 (pg : Nat), .bool de]
theorem home_at {w : World} {f d fr pg : Nat} {de : Bool} (h : FileBox w f d fr pg de) (hf : fr ≤ 1048576) (p : Nat) (hp : p ≤ 1048576) :
    Calls Try.prog 31 #[.pointer (some ⟨f, 0, none⟩), .int .i64 (p : Nat)] w fun e w' => e = .returned (.int .i64 ((fr + 5 + 4 * p : Nat) : Int)) ∧ w' = w := by
  have c1 := h.cell 1 _ rfl
  have hlt := h.lt
  clear h
  go_enter Try.func31, Try.ntmps31
  go_wp2_with fail
  go_ret
  refine ⟨ret_v ?_, rfl⟩
  show Value.int .i64 _ = _
  congr 1
theorem pages_at {w : World} {f d fr pg : Nat} {de : Bool} (h : FileBox w f d fr pg de) :
    Calls Try.prog 35 #[.pointer (some ⟨f, 0, none⟩)] w fun e w' => e = .returned (.int .i64 (pg : Nat)) ∧ w' = w := by
  have c1 := h.cell 2 _ rfl
  have hlt := h.lt
  clear h
  go_enter Try.func35, Try.ntmps35
  go_wp2_with fail
  go_ret
  exact ⟨rfl, rfl⟩
end Go.Proofs.Ytdnjjdpenfhpeaa

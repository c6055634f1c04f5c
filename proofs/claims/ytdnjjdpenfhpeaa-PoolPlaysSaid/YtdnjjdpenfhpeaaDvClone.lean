/- slices.Clone at 128 bytes. Conditions: none else. -/
import Derived.Test.YtdnjjdpenfhpeaaDvRead
import Derived.Test.YtdnjjdpenfhpeaaAppF
namespace Go.Proofs.Ytdnjjdpenfhpeaa
set_option linter.unusedSimpArgs false
set_option linter.unusedVariables false
open Go.RowKit

theorem eql_nil {P : Program} (w : World) (t e : TypeId) (a : Option Addr) (l c : Nat) (h : P.underlying t = some (.slice e)) : (binOp .eql t (.slice a l c) (.slice none 0 0)).run P w = .ok (.bool a.isNone) w := by
  have key : ∀ d : Nat, (Op.equalIn (d + 1) t (.slice a l c) (.slice none 0 0)).run P w = .ok a.isNone w := by
    intro d; cases a <;> simp [Op.equalIn, run_underlying h]
  have h2 : (Op.equal t (.slice a l c) (.slice none 0 0)).run P w = .ok a.isNone w := key 9999
  simp [binOp, h2]
theorem eql_some {P : Program} (w : World) (t e : TypeId) (a : Addr) (l c : Nat) (h : P.underlying t = some (.slice e)) : (binOp .eql t (.slice (some a) l c) (.slice none 0 0)).run P w = .ok (.bool false) w := eql_nil w t e (some a) l c h

set_option maxRecDepth 100000 in
theorem clone_any (l : List UInt8) (n : Nat) (hl : l.length = n) (hn : 0 < n) (hn2 : n ≤ 1099511627776) (v : Value) (w : World) (hv : Reads 1 w v n (l.map B)) :
    Calls Try.prog 53 #[v] w fun e w' => ∃ g c, e = .returned (.slice (some ⟨g, 0, none⟩) n c) ∧ Reads 1 w' (.slice (some ⟨g, 0, none⟩) n c) n (l.map B) ∧ w.heap.size ≤ g ∧ g < w'.heap.size ∧ Below w.heap.size w w' := by
  obtain ⟨ao, cp, rfl, hlm, hc, hr⟩ := hv
  obtain ⟨b, o, rfl, hb, hcell⟩ := hr hn
  have HL := Lib.hid hl
  have hal : Below w.heap.size w (w.alloc (.cells #[] 5)) := (Below.refl _ _).alloc (Nat.le_refl _) _
  have HA := Lib.hid hal
  have HR : Hid (Reads 1 (w.alloc (.cells #[] 5)) (.slice (some ⟨b, o, none⟩) n cp) n (l.map B)) := Lib.hid (Reads.below (w := w) ⟨_, _, rfl, hlm, hc, fun _ => ⟨b, o, rfl, hb, hcell⟩⟩ hal (Nat.le_refl _))
  have HKP : ∀ g, Hid (Kept (fun _ => False) (w.alloc (.cells #[] 5)) (fun w2 => Reads 1 w2 (.slice (some ⟨g, 0, none⟩) 0 0) 0 [])) := fun g => Lib.hid (fun w2 _ => ⟨_, _, rfl, rfl, Nat.le_refl _, fun h => absurd h (Nat.lt_irrefl 0)⟩)
  clear hl hlm hr hcell hal hb
  have hnil := fun w' : World => eql_some (P := Try.prog) w' 37 5 ⟨b, o, none⟩ n cp Try.underlying37
  go_enter Try.func53, Try.ntmps53
  go_wp2_with (at_builtin; refine wpList_append_full bytesOf (.tmp 5) (.tmp 6) rfl rfl rfl (X := fun _ => False) (n := 0) (xs := []) (HKP _).out (fun k h => h.elim) rfl HR.out (Bs_one l) (by omega) (by omega) ?_; intro a1 c1 w3 hle hgr hk ho)
  go_ret
  obtain ⟨g, rfl, hg, hown⟩ := ho hn
  simp only [Nat.zero_add, List.nil_append] at hk hown
  have hs := HA.out.size
  exact ⟨g, c1, rfl, hk.now, by omega, (hown.lt g rfl).2, HA.out.trans (Below.mono hgr hs)⟩
end Go.Proofs.Ytdnjjdpenfhpeaa

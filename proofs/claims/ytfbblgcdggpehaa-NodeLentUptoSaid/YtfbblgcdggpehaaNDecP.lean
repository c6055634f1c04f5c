/- What node.Decode answers. Conditions: none but the page's length. -/
import Derived.Test.YtfbblgcdggpehaaNDec
namespace Go.Proofs.Ytfbblgcdggpehaa
set_option linter.unusedSimpArgs false
set_option linter.unusedVariables false
open Go.RowKit

/-- a scope whose label is only jumped to from ahead of it -/
theorem wp_scope_fwd {P : Program} {a : Act} {w : World} {Q : Exit → Act → World → Prop} {c rest : Code} (l : Nat) (hf : findLabel c l = some rest)
    (first : c.wp P (Exit.jump l (fun a w => rest.wp P (Exit.jump l (fun _ _ => False) Q) a w) Q) a w) : (Code.scope c).wp P Q a w := by
  refine wp_scope_jumps l _ (fun _ _ => 0) hf first (fun a w h => wp_mono h ?_)
  intro e a w h
  cases e with
  | goto l' => exact absurd h.2 id
  | _ => exact h

/-- a page that holds a node, by its first byte -/
def DecOk (L : List UInt8) (lf : Bool) : Prop := L.length = 504 ∧ L[0]? = some (if lf then 1 else 2) ∧ DOk L lf
def zeroN : Value := .agg #[.bool false, .slice none 0 0, .slice none 0 0, .slice none 0 0, .int .i64 0]
def DecEnd (At : World → Value → Value → Value → Nd → Prop) (L : List UInt8) (w : World) (e : Ending) (w' : World) : Prop := Below w.heap.size w w' ∧
  ((∃ lf, DecOk L lf ∧ ∃ ks vs ds, e = .returned (.tuple #[.agg #[.bool lf, ks, vs, ds, .int .i64 ((dnext L).1 : Nat)], .bool true]) ∧ At w' ks vs ds (dnode L lf)) ∨
   ((∀ lf, ¬ DecOk L lf) ∧ e = .returned (.tuple #[zeroN, .bool false])))

set_option maxRecDepth 100000 in
set_option maxHeartbeats 3200000 in
/-- not a page's length -/
theorem pdec_len (ao : Option Addr) (n c : Nat) (w : World) (hn : ¬ n = 504) :
    Calls Try.prog 17 #[.slice ao n c] w fun e w' => e = .returned (.tuple #[zeroN, .bool false]) ∧ Below w.heap.size w w' := by
  have d : ((n : Int) != 504) = true := by simp; omega
  obtain ⟨g, hg0⟩ : ∃ g, w.heap.size = g := ⟨_, rfl⟩
  have HB := Lib.hid ((((Below.refl w.heap.size w).alloc (Nat.le_refl _) (.cells #[.bool false, .slice none 0 0, .slice none 0 0, .slice none 0 0, .int .i64 0] 25)).alloc (by simp) (.cells #[.bool false, .slice none 0 0, .slice none 0 0, .slice none 0 0, .int .i64 0] 25)).alloc (by simp; omega) (.cells #[.slice ao n c, .bool false] 68))
  have bz := ((Box.new w #[.bool false, .slice none 0 0, .slice none 0 0, .slice none 0 0, .int .i64 0] 25 hg0.symm).alloc (.cells #[.bool false, .slice none 0 0, .slice none 0 0, .slice none 0 0, .int .i64 0] 25)).alloc (.cells #[.slice ao n c, .bool false] 68)
  have cz0 := bz.cell 0 _ rfl
  have cz1 := bz.cell 1 _ rfl
  have cz2 := bz.cell 2 _ rfl
  have cz3 := bz.cell 3 _ rfl
  have cz4 := bz.cell 4 _ rfl
  clear hn
  go_enter Try.func17, Try.ntmps17
  go_wp2
  refine wp_scope_fwd 0 rfl ?_
  go_wp2
  go_step3
  refine ⟨rfl, ?_⟩
  go_wp2
  simp only [Exit.jump]
  refine bodyPost_ret (v := .tuple #[zeroN, .bool false]) (by simp [results, Try.results17, go_sem, zeroN, cz0, cz1, cz2, cz3, cz4]) rfl ?_
  exact ⟨rfl, HB.out⟩

set_option maxRecDepth 100000 in
set_option maxHeartbeats 3200000 in
/-- not a node's first byte -/
theorem pdec_head (b o n c : Nat) (x : UInt8) (w : World) (hn : n = 504) (hb : b < w.heap.size) (hx : w.cell? ⟨b, o, none⟩ = some (.int .u8 (x.toNat : Int))) (h1 : ¬ x = 1) (h2 : ¬ x = 2) :
    Calls Try.prog 17 #[.slice (some ⟨b, o, none⟩) n c] w fun e w' => e = .returned (.tuple #[zeroN, .bool false]) ∧ Below w.heap.size w w' := by
  subst hn
  have d1 : ((x.toNat : Int) != 1) = true := by
    have : x.toNat ≠ 1 := fun h => h1 (UInt8.toNat_inj.1 h)
    simp; omega
  have d2 : ((x.toNat : Int) != 2) = true := by
    have : x.toNat ≠ 2 := fun h => h2 (UInt8.toNat_inj.1 h)
    simp; omega
  obtain ⟨g, hg0⟩ : ∃ g, w.heap.size = g := ⟨_, rfl⟩
  have HB := Lib.hid ((((Below.refl w.heap.size w).alloc (Nat.le_refl _) (.cells #[.bool false, .slice none 0 0, .slice none 0 0, .slice none 0 0, .int .i64 0] 25)).alloc (by simp) (.cells #[.bool false, .slice none 0 0, .slice none 0 0, .slice none 0 0, .int .i64 0] 25)).alloc (by simp; omega) (.cells #[.slice (some ⟨b, o, none⟩) 504 c, .bool false] 68))
  have bz := ((Box.new w #[.bool false, .slice none 0 0, .slice none 0 0, .slice none 0 0, .int .i64 0] 25 hg0.symm).alloc (.cells #[.bool false, .slice none 0 0, .slice none 0 0, .slice none 0 0, .int .i64 0] 25)).alloc (.cells #[.slice (some ⟨b, o, none⟩) 504 c, .bool false] 68)
  have cz0 := bz.cell 0 _ rfl
  have cz1 := bz.cell 1 _ rfl
  have cz2 := bz.cell 2 _ rfl
  have cz3 := bz.cell 3 _ rfl
  have cz4 := bz.cell 4 _ rfl
  have hx2 := (HB.out.cell (p := ⟨b, o, none⟩) hb).trans hx
  clear h1 h2 hx
  go_enter Try.func17, Try.ntmps17
  go_wp2
  refine wp_scope_fwd 0 rfl ?_
  go_wp2
  go_step3
  refine ⟨rfl, ?_⟩
  go_wp2
  simp only [Exit.jump]
  refine bodyPost_ret (v := .tuple #[zeroN, .bool false]) (by simp [results, Try.results17, go_sem, zeroN, cz0, cz1, cz2, cz3, cz4]) rfl ?_
  exact ⟨rfl, HB.out⟩

end Go.Proofs.Ytfbblgcdggpehaa

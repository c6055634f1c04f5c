/- The law NodeMaps answers true for all keys and marks of bulk at most 1048576, and leaves them as they were. Conditions: the second form's bound. -/
import Derived.Test.YtfbblgcdggpehaaNMaps
import Derived.Test.YtfbblgcdggpehaaNOpen
import Derived.Deep.Grids
namespace Go.Proofs.Ytfbblgcdggpehaa.nodeMaps
set_option linter.unusedSimpArgs false
set_option linter.unusedVariables false
open Go.ChangeShapes Go.WideShapes Go.ChangeAt Go.RowKit Go.Deep Go.Joins

section
variable {H : Type} {enc : TypeId × Value → H} {w : World} {held : Bool}
theorem open_boolsT {fuel : Nat} {v : Value} {x : DataW H × List MemPlace} (hf : DataW.trod enc Try.prog w 0 (fun _ => true) held fuel 47 [v] = some x) :
    ∃ L : List Bool, Reads 1 w v L.length (L.map Bo) ∧ L.length + 1 ≤ Rows.uptoBulk x.1 := by
  rcases open_bools Try.underlying47 Try.underlying4 (by kernel_rfl) hf with ⟨hcs, rfl⟩ | ⟨a, len, cap', Bf, hcs, _, hl, hm, rfl, hcell⟩
  · simp only [List.cons.injEq, and_true] at hcs
    subst hcs
    exact ⟨[], Reads.empty, by simp [Rows.uptoBulk]⟩
  · simp only [List.cons.injEq, and_true] at hcs
    subst hcs
    have hlen : ((List.range len).map Bf).length = len := by simp
    refine ⟨(List.range len).map Bf, ?_, ?_⟩
    · rw [hlen]
      refine ⟨some a, cap', rfl, by simp, hl, fun hn => ?_⟩
      have hc0 := hcell 0 (by omega)
      obtain ⟨b, off, spot⟩ := a
      have hsp : spot = none := by
        have := World.cell?_spot hc0
        simpa [Addr.add] using this
      subst hsp
      have hc0' := hc0
      simp only [Addr.add_lit, Nat.add_zero] at hc0'
      refine ⟨b, off, rfl, World.block_lt_of_cell? w _ hc0', fun j u hu => ?_⟩
      have hj : j < len := by
        have := (List.getElem?_eq_some_iff.1 hu).1
        simpa using this
      rw [List.map_map, List.getElem?_map, List.getElem?_range hj] at hu
      obtain rfl := Option.some.inj hu
      have := hcell j (by omega)
      rw [Addr.add_lit] at this
      exact this
    · rw [hlen]
      simp only [boolRow, Rows.uptoBulk]
      have := bulk_length ((List.range len).map fun i => (.lit (.bool (Bf i)) : DataW H))
      simp only [List.length_map, List.length_range] at this
      omega
end

theorem contract (H : Type) (enc : TypeId × Value → H) (W : World) (base : Nat) (args : Array Value) (ds gs : List (DataW H)) (before : List MemPlace)
    (hval : ∀ (j : Nat) t v, Try.f6.params[j]? = some t → args[j]? = some v → Value.okWide Try.prog W .any base t v)
    (hW : DataW.Whole enc Try.prog Try.f6.params.toList Rows.nodeMapsSpec.vars false W args.toList ds gs before) (hk : Rows.uptoSmall H (ds ++ gs) = true) :
    Calls Try.prog 6 args W fun e W' => ∃ v, e = .returned v ∧ Rows.nodeMapsSpec.post enc Try.prog Try.f6 false true false false W args v W' := by
  have hW' := hW
  obtain ⟨p, q, hA0, hV, rfl, hfz, hnd⟩ := hW
  have hA : DataW.TrodAll enc Try.prog W 0 (fun _ => true) true Try.f6.params.toList args.toList ds p := hA0
  rw [Try.params6] at hA hval
  obtain ⟨v0, v1, d0, d1, p0, p1, hargs, rfl, rfl, h0, h1⟩ := trodAll_two hA
  obtain ⟨rfl, rfl⟩ := trodVars_none hV
  have hbk := bulk_bound hk
  simp only [List.append_nil, Rows.uptoBulkAll] at hbk
  obtain ⟨n0, hf0⟩ := h0
  obtain ⟨n1, hf1⟩ := h1
  obtain ⟨ao, n, c, rfl⟩ := okWide_slice Try.underlying22 (hval 0 22 v0 rfl (by rw [hargs]; rfl))
  obtain ⟨ao2, n2, c2, rfl⟩ := okWide_slice Try.underlying47 (hval 1 47 v1 rfl (by rw [hargs]; rfl))
  obtain ⟨K, hK, bK⟩ := open_textsT hf0
  obtain ⟨D, hD, bD⟩ := open_boolsT hf1
  have s1 := sum_len K
  dsimp only at bK bD
  rw [hargs]
  refine (maps_any K D (.slice ao n c) (.slice ao2 n2 c2) W hK hD (by omega) (by omega) (fun l hl => by have := sum_mem K l hl; omega)).mono fun e W' ⟨he, hb⟩ => ?_
  rw [← hargs]
  exact ⟨_, he, law_post laidOut (by kernel_rfl) rfl Try.underlying4 rfl rfl hW' hb⟩

set_option maxRecDepth 100000 in
theorem lifted (os : Os) (started : os.Started) (H : Type) (enc : TypeId × Value → H) (F : Stop.Interp) :
    ReturnsInHanded {} Try.checked os 6 .any ((Rows.OpenSpec.upto Rows.nodeMapsSpec).pre6 enc Try.prog Try.f6 Rows.nodeMapsUptoRow.domain false) (((Rows.OpenSpec.upto Rows.nodeMapsSpec).at F).post enc Try.prog Try.f6 false true false false) := by
  refine returnsInHanded_of_cond (C := Try.checked) (s := Rows.OpenSpec.upto Rows.nodeMapsSpec) (k := Rows.uptoSmall) rfl own started (by kernel_rfl) Try.func6
    (OpenSpec.witness (enc := enc) (C := Try.checked) (s := Rows.OpenSpec.upto Rows.nodeMapsSpec) (k := Rows.uptoSmall) rfl false ⟨#[], #[.slice none 0 0, .slice none 0 0], []⟩ 8 (by kernel_rfl) (by kernel_rfl) (by kernel_rfl)
      (x := ([.nil, .nil], [], [])) (by kernel_rfl) rfl (by kernel_rfl)) ?_
  intro W base args ds gs before hval hW _ hk _
  exact contract H enc W base args ds gs before hval hW hk

theorem proved : Rows.NodeMapsUptoSaid :=
  OpenClaim.holds_of_cond 6 Try.f6 rfl rfl rfl rfl rfl rfl rfl ⟨rfl, rfl, rfl, rfl, rfl⟩ rfl rfl rfl rfl rfl (by kernel_rfl) Try.func6 (by kernel_rfl)
    (of_decide_eq_true (by kernel_rfl)) (by unfold Func.isWrapper; first | (rw [if_pos (by decide +kernel)]; kernel_rfl) | (rw [if_neg (by decide +kernel)]; exact ⟨rfl, rfl⟩))
    (fun os started H enc _ F => lifted os started H enc F)

end Go.Proofs.Ytfbblgcdggpehaa.nodeMaps

/- The law NodeLent answers true for every node and all keys and values of bulk at most 1048576, and leaves them as they were. Conditions: the second form's bound. -/
import Derived.Test.YtfbblgcdggpehaaNLent
import Derived.Test.YtfbblgcdggpehaaNOpen2
namespace Go.Proofs.Ytfbblgcdggpehaa.nodeLent
set_option linter.unusedSimpArgs false
set_option linter.unusedVariables false
open Go.ChangeShapes Go.WideShapes Go.ChangeAt Go.RowKit Go.Deep Go.Joins

theorem contract (H : Type) (enc : TypeId × Value → H) (W : World) (base : Nat) (args : Array Value) (ds gs : List (DataW H)) (before : List MemPlace)
    (hval : ∀ (j : Nat) t v, Try.f8.params[j]? = some t → args[j]? = some v → Value.okWide Try.prog W .any base t v)
    (hW : DataW.Whole enc Try.prog Try.f8.params.toList Rows.nodeLentSpec.vars false W args.toList ds gs before) (hk : Rows.uptoSmall H (ds ++ gs) = true) :
    Calls Try.prog 8 args W fun e W' => ∃ v, e = .returned v ∧ Rows.nodeLentSpec.post enc Try.prog Try.f8 false true false false W args v W' := by
  have hW' := hW
  obtain ⟨p, q, hA0, hV, rfl, hfz, hnd⟩ := hW
  have hA : DataW.TrodAll enc Try.prog W 0 (fun _ => true) true Try.f8.params.toList args.toList ds p := hA0
  rw [Try.params8] at hA hval
  obtain ⟨v0, v1, v2, d0, d1, d2, p0, p1, p2, hargs, rfl, rfl, h0, h1, h2⟩ := trodAll_three hA
  obtain ⟨rfl, rfl⟩ := trodVars_none hV
  have hbk := bulk_bound hk
  simp only [List.append_nil, Rows.uptoBulkAll] at hbk
  obtain ⟨x, ks, vs, dd, rfl, hx, hsm, hk1, hv1⟩ := open_node2 (hval 0 25 v0 rfl (by rw [hargs]; rfl)) h0 (by omega)
  obtain ⟨ao, n, c, rfl⟩ := okWide_slice Try.underlying28 (hval 1 28 v1 rfl (by rw [hargs]; rfl))
  obtain ⟨L, hr, hle⟩ := open_bytes rfl h1
  have hLn : L.length = n := by obtain ⟨_, _, _, h, _⟩ := hr; simpa using h
  obtain ⟨ao2, n2, c2, rfl⟩ := okWide_slice Try.underlying28 (hval 2 28 v2 rfl (by rw [hargs]; rfl))
  obtain ⟨L2, hr2, hle2⟩ := open_bytes rfl h2
  have hLn2 : L2.length = n2 := by obtain ⟨_, _, _, h, _⟩ := hr2; simpa using h
  rw [hargs]
  refine (lent_any x hsm hk1 hv1 ks vs dd L L2 (.slice ao n c) (.slice ao2 n2 c2) W hx (by rw [hLn]; exact hr) (by rw [hLn2]; exact hr2) (by omega) (by omega) x.leaf x.next rfl rfl).mono fun e W' ⟨he, hb⟩ => ?_
  rw [← hargs]
  exact ⟨_, he, law_post laidOut (by kernel_rfl) rfl Try.underlying4 rfl rfl hW' hb⟩

set_option maxRecDepth 100000 in
theorem lifted (os : Os) (started : os.Started) (H : Type) (enc : TypeId × Value → H) (F : Stop.Interp) :
    ReturnsInHanded {} Try.checked os 8 .any ((Rows.OpenSpec.upto Rows.nodeLentSpec).pre6 enc Try.prog Try.f8 Rows.nodeLentUptoRow.domain false) (((Rows.OpenSpec.upto Rows.nodeLentSpec).at F).post enc Try.prog Try.f8 false true false false) := by
  refine returnsInHanded_of_cond (C := Try.checked) (s := Rows.OpenSpec.upto Rows.nodeLentSpec) (k := Rows.uptoSmall) rfl own started (by kernel_rfl) Try.func8
    (OpenSpec.witness (enc := enc) (C := Try.checked) (s := Rows.OpenSpec.upto Rows.nodeLentSpec) (k := Rows.uptoSmall) rfl false ⟨#[], #[.agg #[.bool false, .slice none 0 0, .slice none 0 0, .slice none 0 0, .int .i64 0], .slice none 0 0, .slice none 0 0], []⟩ 8 (by kernel_rfl) (by kernel_rfl) (by kernel_rfl)
      (x := ([.agg [.lit (.bool false), .nil, .nil, .nil, .lit (.int .i64 0)], .nil, .nil], [], [])) (by kernel_rfl) rfl (by kernel_rfl)) ?_
  intro W base args ds gs before hval hW _ hk _
  exact contract H enc W base args ds gs before hval hW hk

theorem proved : Rows.NodeLentUptoSaid :=
  OpenClaim.holds_of_cond 8 Try.f8 rfl rfl rfl rfl rfl rfl rfl ⟨rfl, rfl, rfl, rfl, rfl⟩ rfl rfl rfl rfl rfl (by kernel_rfl) Try.func8 (by kernel_rfl)
    (of_decide_eq_true (by kernel_rfl)) (by unfold Func.isWrapper; first | (rw [if_pos (by decide +kernel)]; kernel_rfl) | (rw [if_neg (by decide +kernel)]; exact ⟨rfl, rfl⟩))
    (fun os started H enc _ F => lifted os started H enc F)

end Go.Proofs.Ytfbblgcdggpehaa.nodeLent

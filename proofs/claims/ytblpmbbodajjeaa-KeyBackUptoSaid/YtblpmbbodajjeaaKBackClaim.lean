/- The law KeyBack answers true for every list of values and all bytes of bulk at most 1048576, and leaves them as they were. Conditions: the second form's bound. -/
import Derived.Test.YtblpmbbodajjeaaKBack
import Derived.Test.YtblpmbbodajjeaaKOpen
namespace Go.Proofs.Ytblpmbbodajjeaa.keyBack
set_option linter.unusedSimpArgs false
set_option linter.unusedVariables false
open Go.ChangeShapes Go.WideShapes Go.ChangeAt Go.RowKit
open K (Val cellsOf)

theorem contract (H : Type) (enc : TypeId × Value → H) (W : World) (base : Nat) (args : Array Value) (ds gs : List (DataW H)) (before : List MemPlace)
    (hval : ∀ (j : Nat) t v, Try.f5.params[j]? = some t → args[j]? = some v → Value.okWide Try.prog W .any base t v)
    (hW : DataW.Whole enc Try.prog Try.f5.params.toList Rows.keyBackSpec.vars false W args.toList ds gs before) (hk : Rows.uptoSmall H (ds ++ gs) = true) :
    Calls Try.prog 5 args W fun e W' => ∃ v, e = .returned v ∧ Rows.keyBackSpec.post enc Try.prog Try.f5 false true false false W args v W' := by
  have hW' := hW
  obtain ⟨p, q, hA0, hV, rfl, hfz, hnd⟩ := hW
  have hA : DataW.TrodAll enc Try.prog W 0 (fun _ => true) true Try.f5.params.toList args.toList ds p := hA0
  rw [Try.params5] at hA hval
  obtain ⟨v0, v1, d0, d1, p0, p1, hargs, rfl, rfl, h0, h1⟩ := trodAll_two hA
  obtain ⟨rfl, rfl⟩ := trodVars_none hV
  obtain ⟨ao2, n2, c2, rfl⟩ := okWide_slice Try.underlying24 (hval 0 24 v0 rfl (by rw [hargs]; rfl))
  obtain ⟨ao3, n3, c3, rfl⟩ := okWide_slice Try.underlying26 (hval 1 26 v1 rfl (by rw [hargs]; rfl))
  obtain ⟨l, hr2, ol, bl⟩ := open_vals rfl h0
  obtain ⟨more, hr3, bl'⟩ := open_bytes rfl h1
  have hbk := bulk_bound hk
  simp only [List.append_nil, Rows.uptoBulkAll] at hbk
  have okOf : ∀ x : Val, numOk x → bulkV x ≤ 1048576 → x.ok := fun x h hb => ⟨h.1, h.2, by unfold bulkV at hb; omega⟩
  have len2 : n2 = l.length := by obtain ⟨_, _, _, h, _⟩ := hr2; rw [K.cellsOf_length] at h; omega
  have g2 := bulk_len l
  have j2 := join_clean_bulk l
  rw [hargs]
  refine (back_any ao2 ao3 n2 c2 n3 c3 l more W (by omega) (by omega) hr2 hr3 (fun x hx => okOf x (ol x hx) (by have := bulk_mem l x hx; omega)) (fun x hx => by have h1 := bulk_mem l x hx; have h2 := enc_bulk (K.clean x); have h3 := clean_bulk x; omega) (by omega)).mono fun e W' ⟨he, hb⟩ => ?_
  rw [← hargs]
  exact ⟨_, he, law_post laidOut (by kernel_rfl) rfl Try.underlying4 rfl rfl hW' hb⟩

set_option maxRecDepth 100000 in
theorem lifted (os : Os) (started : os.Started) (H : Type) (enc : TypeId × Value → H) (F : Stop.Interp) :
    ReturnsInHanded {} Try.checked os 5 .any ((Rows.OpenSpec.upto Rows.keyBackSpec).pre6 enc Try.prog Try.f5 Rows.keyBackUptoRow.domain false) (((Rows.OpenSpec.upto Rows.keyBackSpec).at F).post enc Try.prog Try.f5 false true false false) := by
  refine returnsInHanded_of_cond (C := Try.checked) (s := Rows.OpenSpec.upto Rows.keyBackSpec) (k := Rows.uptoSmall) rfl own started (by kernel_rfl) Try.func5
    (OpenSpec.witness (enc := enc) (C := Try.checked) (s := Rows.OpenSpec.upto Rows.keyBackSpec) (k := Rows.uptoSmall) rfl false ⟨#[], #[.slice none 0 0, .slice none 0 0], []⟩ 8 (by kernel_rfl) (by kernel_rfl) (by kernel_rfl)
      (x := ([.nil, .nil], [], [])) (by kernel_rfl) rfl (by kernel_rfl)) ?_
  intro W base args ds gs before hval hW _ hk _
  exact contract H enc W base args ds gs before hval hW hk

theorem proved : Rows.KeyBackUptoSaid :=
  OpenClaim.holds_of_cond 5 Try.f5 rfl rfl rfl rfl rfl rfl rfl ⟨rfl, rfl, rfl, rfl, rfl⟩ rfl rfl rfl rfl rfl (by kernel_rfl) Try.func5 (by kernel_rfl)
    (of_decide_eq_true (by kernel_rfl)) (by unfold Func.isWrapper; first | (rw [if_pos (by decide +kernel)]; kernel_rfl) | (rw [if_neg (by decide +kernel)]; exact ⟨rfl, rfl⟩))
    (fun os started H enc _ F => lifted os started H enc F)

end Go.Proofs.Ytblpmbbodajjeaa.keyBack

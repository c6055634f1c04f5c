/- The law KeyCodes answers true for every two values, every list of values and all bytes of bulk at most 1048576, and leaves them as they were. Conditions: the second form's bound. -/
import Derived.Test.YtblpmbbodajjeaaKCodes
import Derived.Test.YtblpmbbodajjeaaKOpen
namespace Go.Proofs.Ytblpmbbodajjeaa.keyCodes
set_option linter.unusedSimpArgs false
set_option linter.unusedVariables false
open Go.ChangeShapes Go.WideShapes Go.ChangeAt Go.RowKit
open K (Val cellsOf)

theorem contract (H : Type) (enc : TypeId × Value → H) (W : World) (base : Nat) (args : Array Value) (ds gs : List (DataW H)) (before : List MemPlace)
    (hval : ∀ (j : Nat) t v, Try.f4.params[j]? = some t → args[j]? = some v → Value.okWide Try.prog W .any base t v)
    (hW : DataW.Whole enc Try.prog Try.f4.params.toList Rows.keyCodesSpec.vars false W args.toList ds gs before) (hk : Rows.uptoSmall H (ds ++ gs) = true) :
    Calls Try.prog 4 args W fun e W' => ∃ v, e = .returned v ∧ Rows.keyCodesSpec.post enc Try.prog Try.f4 false true false false W args v W' := by
  have hW' := hW
  obtain ⟨p, q, hA0, hV, rfl, hfz, hnd⟩ := hW
  have hA : DataW.TrodAll enc Try.prog W 0 (fun _ => true) true Try.f4.params.toList args.toList ds p := hA0
  rw [Try.params4] at hA hval
  obtain ⟨v0, v1, v2, v3, d0, d1, d2, d3, p0, p1, p2, p3, hargs, rfl, rfl, h0, h1, h2, h3⟩ := trodAll_four hA
  obtain ⟨rfl, rfl⟩ := trodVars_none hV
  obtain ⟨a, rfl, na, ba⟩ := open_val (hval 0 23 v0 rfl (by rw [hargs]; rfl)) h0
  obtain ⟨b, rfl, nb, bb⟩ := open_val (hval 1 23 v1 rfl (by rw [hargs]; rfl)) h1
  obtain ⟨ao2, n2, c2, rfl⟩ := okWide_slice Try.underlying24 (hval 2 24 v2 rfl (by rw [hargs]; rfl))
  obtain ⟨ao3, n3, c3, rfl⟩ := okWide_slice Try.underlying26 (hval 3 26 v3 rfl (by rw [hargs]; rfl))
  obtain ⟨l, hr2, ol, bl⟩ := open_vals rfl h2
  obtain ⟨X, hr3, bl'⟩ := open_bytes rfl h3
  have hbk := bulk_bound hk
  simp only [List.append_nil, Rows.uptoBulkAll] at hbk
  have okOf : ∀ x : Val, numOk x → bulkV x ≤ 1048576 → x.ok := fun x h hb => ⟨h.1, h.2, by unfold bulkV at hb; omega⟩
  have len2 : n2 = l.length := by obtain ⟨_, _, _, h, _⟩ := hr2; rw [K.cellsOf_length] at h; omega
  have g2 := bulk_len l
  have j2 := join_bulk l
  rw [hargs]
  refine (codes_any a b ao2 ao3 n2 c2 n3 c3 l X W (okOf a na (by omega)) (okOf b nb (by omega)) (by omega) (by omega) hr2 hr3 (fun x hx => okOf x (ol x hx) (by have := bulk_mem l x hx; omega)) (by omega)).mono fun e W' ⟨he, hb⟩ => ?_
  rw [← hargs]
  exact ⟨_, he, law_post laidOut (by kernel_rfl) rfl Try.underlying4 rfl rfl hW' hb⟩

set_option maxRecDepth 100000 in
theorem lifted (os : Os) (started : os.Started) (H : Type) (enc : TypeId × Value → H) (F : Stop.Interp) :
    ReturnsInHanded {} Try.checked os 4 .any ((Rows.OpenSpec.upto Rows.keyCodesSpec).pre6 enc Try.prog Try.f4 Rows.keyCodesUptoRow.domain false) (((Rows.OpenSpec.upto Rows.keyCodesSpec).at F).post enc Try.prog Try.f4 false true false false) := by
  refine returnsInHanded_of_cond (C := Try.checked) (s := Rows.OpenSpec.upto Rows.keyCodesSpec) (k := Rows.uptoSmall) rfl own started (by kernel_rfl) Try.func4
    (OpenSpec.witness (enc := enc) (C := Try.checked) (s := Rows.OpenSpec.upto Rows.keyCodesSpec) (k := Rows.uptoSmall) rfl false ⟨#[], #[.agg #[.int .i64 0, .int .i64 0, .string ⟨#[]⟩, .bool false], .agg #[.int .i64 0, .int .i64 0, .string ⟨#[]⟩, .bool false], .slice none 0 0, .slice none 0 0], []⟩ 8 (by kernel_rfl) (by kernel_rfl) (by kernel_rfl)
      (x := ([.agg [.lit (.int .i64 0), .lit (.int .i64 0), .lit (.string []), .lit (.bool false)], .agg [.lit (.int .i64 0), .lit (.int .i64 0), .lit (.string []), .lit (.bool false)], .nil, .nil], [], [])) (by kernel_rfl) rfl (by kernel_rfl)) ?_
  intro W base args ds gs before hval hW _ hk _
  exact contract H enc W base args ds gs before hval hW hk

theorem proved : Rows.KeyCodesUptoSaid :=
  OpenClaim.holds_of_cond 4 Try.f4 rfl rfl rfl rfl rfl rfl rfl ⟨rfl, rfl, rfl, rfl, rfl⟩ rfl rfl rfl rfl rfl (by kernel_rfl) Try.func4 (by kernel_rfl)
    (of_decide_eq_true (by kernel_rfl)) (by unfold Func.isWrapper; first | (rw [if_pos (by decide +kernel)]; kernel_rfl) | (rw [if_neg (by decide +kernel)]; exact ⟨rfl, rfl⟩))
    (fun os started H enc _ F => lifted os started H enc F)

end Go.Proofs.Ytblpmbbodajjeaa.keyCodes

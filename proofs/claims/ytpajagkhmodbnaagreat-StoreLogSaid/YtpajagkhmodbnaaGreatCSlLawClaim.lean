/- The law StoreLog answers true for every script, and leaves it as it was. Conditions: none. -/
import Derived.Test.YtpajagkhmodbnaaGreatPk32
import Derived.Test.YtpajagkhmodbnaaGreatCSlLaw
import Derived.Test.YtpajagkhmodbnaaGreatPk39
namespace Go.Proofs.YtpajagkhmodbnaaGreat.storeLog
set_option linter.unusedSimpArgs false
set_option linter.unusedVariables false
open Go.ChangeShapes Go.WideShapes Go.ChangeAt Go.RowKit Go.Joins
set_option maxRecDepth 100000 in
theorem contract(H:Type)(enc:TypeId×Value→H)(W:World)(base:Nat)(args:Array Value)(ds gs:List (DataW H))(before:List MemPlace)
  (hval:∀(j:Nat) t v,Tryz.f6.params[j]? = some t→args[j]? = some v→Value.okWide Tryz.prog W .any base t v)
  (hW:DataW.Whole enc Tryz.prog Tryz.f6.params.toList Rows.storeLogSpec.vars false W args.toList ds gs before):
  Calls Tryz.prog 6 args W fun e W'=>∃v,e=.returned v∧Rows.storeLogSpec.post enc Tryz.prog Tryz.f6 false true false false W args v W':=by
 have hW':=hW
 obtain⟨p,q,hA0,hV,rfl,hfz,hnd⟩:=hW
 have hA:DataW.TrodAll enc Tryz.prog W 0 (fun _=>true) true Tryz.f6.params.toList args.toList ds p:=hA0
 rw[Tryz.params6]at hA hval
 obtain⟨v0,d0,hargs,rfl,h0⟩:=trodAll_one hA
 obtain⟨rfl,rfl⟩:=trodVars_none hV
 obtain⟨ao2,n2,c2,rfl⟩:=okWide_slice Tryz.underlying43 (hval 0 43 v0 rfl (by rw[hargs];rfl))
 obtain⟨l2,hl2,hm2,hr2⟩:=open_op7 rfl h0
 unfold maxLen at hm2
 rw[hargs]
 refine(slog_any l2 _ n2 hl2 hm2 hr2).mono fun e W' ⟨he,hb⟩=>?_
 rw[←hargs]
 exact⟨_,he,law_post laidOut (by kernel_rfl) rfl Tryz.underlying4 rfl rfl hW' hb⟩
set_option maxRecDepth 100000 in
theorem lifted(os:Os)(started:os.Started)(H:Type)(enc:TypeId×Value→H):
  ReturnsInHanded {} Tryz.checked os 6 .any (Rows.storeLogSpec.pre6 enc Tryz.prog Tryz.f6 Rows.storeLogRow.domain false) (Rows.storeLogSpec.post enc Tryz.prog Tryz.f6 false true false false):=by
 refine returnsInHanded_of_change (C:=Tryz.checked) own started (by kernel_rfl) Tryz.func6
  (ChangeSpec.witness6 (enc:=enc) (C:=Tryz.checked) false ⟨#[],#[.slice none 0 0],[]⟩ 8 (by kernel_rfl) (by kernel_rfl) (by kernel_rfl) (by kernel_rfl)) ?_
 intro W base args ds gs before hval hW _ _
 exact contract H enc W base args ds gs before hval hW
theorem and2{a b:Bool}(h:a=true)(k:b=true):(a&&b)=true:=by rw[h,k];rfl
set_option maxRecDepth 100000 in
theorem k0:(Rows.storeLogRow.wf (OpenSpec.ofChange Rows.storeLogSpec))=true:=by kernel_rfl
set_option maxRecDepth 100000 in
theorem k1:(laidOutB Tryz.prog)=true:=by kernel_rfl
set_option maxRecDepth 100000 in
theorem k2:(mapsRowed Tryz.prog)=true:=by kernel_rfl
set_option maxRecDepth 100000 in
theorem k3:(Tryz.f6.params.all (Tryz.prog.readableRec ·))=true:=by kernel_rfl
set_option maxRecDepth 100000 in
theorem k4:(namedTie Tryz.prog Rows.storeLogRow.named Rows.storeLogSpec.vars)=true:=by kernel_rfl
set_option maxRecDepth 100000 in
theorem k5:((Rows.storeLogRow.stops == []))=true:=by kernel_rfl
set_option maxRecDepth 100000 in
theorem k6:((Tryz.prog.stops == []))=true:=by kernel_rfl
set_option maxRecDepth 100000 in
theorem k7:((Rows.storeLogRow.knobs == []))=true:=by kernel_rfl
set_option maxRecDepth 100000 in
theorem k8:((Tryz.prog.stopKnobs == []))=true:=by kernel_rfl
set_option maxRecDepth 100000 in
theorem k9:((Rows.storeLogRow.inPlace==Tryz.prog.inPlace 6))=true:=by kernel_rfl
set_option maxRecDepth 100000 in
theorem k10:((Rows.storeLogRow.unfollowed==Tryz.prog.unfollowed 6))=true:=by kernel_rfl
set_option maxRecDepth 100000 in
theorem k11:((Rows.storeLogRow.recurses==Tryz.prog.recurses 6))=true:=by kernel_rfl
set_option maxRecDepth 100000 in
theorem k12:((Rows.storeLogRow.named==Tryz.prog.varsNamed 6))=true:=by kernel_rfl
set_option maxRecDepth 100000 in
theorem k13:((Rows.storeLogRow.maps==(Tryz.f6.params.toList++Rows.storeLogSpec.plain.varTypes Tryz.prog).any (Tryz.prog.mapsRec ·)))=true:=by kernel_rfl
set_option maxRecDepth 100000 in
theorem k14:((Rows.storeLogRow.ifaces==(Tryz.f6.params.toList++Rows.storeLogSpec.plain.varTypes Tryz.prog).any (Tryz.prog.ifacesRec ·)))=true:=by kernel_rfl
set_option maxRecDepth 100000 in
theorem k15:((Rows.storeLogRow.mapsOut==Tryz.prog.mapsAmong Tryz.f6.resultTypes.toList))=true:=by kernel_rfl
set_option maxRecDepth 100000 in
theorem k16:((Rows.storeLogRow.loops==(Tryz.f6.params.toList++Rows.storeLogSpec.plain.varTypes Tryz.prog).any (Tryz.prog.loopsFrom ·)))=true:=by kernel_rfl
set_option maxRecDepth 100000 in
theorem k17:((Rows.storeLogRow.wideKeys==(Tryz.f6.params.toList++Rows.storeLogSpec.plain.varTypes Tryz.prog++Tryz.f6.resultTypes.toList).any (Tryz.prog.wideKeysFrom ·)))=true:=by kernel_rfl
set_option maxRecDepth 100000 in
theorem k18:(Rows.storeLogSpec.vars.all (Tryz.prog.varReadable ·))=true:=by kernel_rfl
set_option maxRecDepth 100000 in
theorem k19:(Tryz.f6.resultTypes.all (fun t=>Tryz.prog.readableRec t&&decide (t<Tryz.prog.types.size)))=true:=by kernel_rfl
set_option maxRecDepth 100000 in
theorem k20:((Rows.storeLogRow.ifacesOut==Tryz.f6.resultTypes.toList.any (Tryz.prog.ifacesRec ·)))=true:=by kernel_rfl
set_option maxRecDepth 100000 in
theorem k21:((Rows.storeLogRow.loopsOut==Tryz.f6.resultTypes.toList.any (Tryz.prog.loopsFrom ·)))=true:=by kernel_rfl
set_option maxRecDepth 100000 in
theorem k22:((Rows.storeLogRow.plainKeys==Tryz.prog.plainKeys))=true:=by kernel_rfl
set_option maxRecDepth 100000 in
theorem k23:(Rows.storeLogRow.shortTexts.isNone)=true:=by kernel_rfl
set_option maxRecDepth 100000 in
theorem k24:(Tryz.prog.stopsHeard)=true:=by kernel_rfl
set_option maxRecDepth 100000 in
theorem k25:(Tryz.prog.mayEnter)=true:=by kernel_rfl
set_option maxRecDepth 100000 in
theorem k26:((Rows.storeLogRow.lifted==Tryz.prog.liftsFinal))=true:=by kernel_rfl
set_option maxRecDepth 100000 in
theorem k27:((Tryz.prog.make==some Rows.storeLogRow.make))=true:=by kernel_rfl
set_option maxRecDepth 100000 in
theorem k28:((Rows.storeLogRow.kinds==(if Rows.storeLogRow.domain.isEmpty then [] else Tryz.f6.params.toList.map fun t=>match Tryz.prog.underlying t with|some (.int k)=>some k|_=>none)))=true:=by kernel_rfl
set_option maxRecDepth 100000 in
theorem k29:((Rows.storeLogRow.pinned==Rows.storeLogRow.pinnedBy))=true:=by kernel_rfl
set_option maxRecDepth 100000 in
theorem k30:((Rows.storeLogRow.veiled==(Tryz.f6.params.toList++Rows.storeLogSpec.plain.varTypes Tryz.prog++Tryz.f6.resultTypes.toList).any (Tryz.prog.veiledRec ·)))=true:=by kernel_rfl
set_option maxRecDepth 100000 in
theorem k31:(Rows.storeLogRow.veiledFits Tryz.prog Tryz.f6.params.toList (Tryz.f6.params.toList++Rows.storeLogSpec.plain.varTypes Tryz.prog++Tryz.f6.resultTypes.toList))=true:=by kernel_rfl
set_option maxRecDepth 100000 in
theorem closed:joinedFacts Tryz.prog 6 Tryz.f6 Rows.storeLogSpec Rows.storeLogRow=true:=and2 (and2 (and2 (and2 (and2 (and2 (and2 (and2 (and2 (and2 (and2 (and2 (and2 (and2 (and2 (and2 (and2 (and2 (and2 (and2 (and2 (and2 (and2 (and2 (and2 (and2 (and2 (and2 (and2 (and2 (and2 k0 k1) k2) k3) k4) k5) k6) k7) k8) k9) k10) k11) k12) k13) k14) k15) k16) k17) k18) k19) k20) k21) k22) k23) k24) k25) k26) k27) k28) k29) k30) k31
theorem proved:Rows.StoreLogSaid:=
 OpenClaim.holds_of_wide 6 Tryz.f6 rfl rfl rfl rfl rfl rfl rfl ⟨rfl,rfl,rfl,rfl,rfl⟩ rfl rfl rfl rfl rfl (by kernel_rfl) Tryz.func6 closed
  (of_decide_eq_true (by kernel_rfl)) (by unfold Func.isWrapper;first|(rw[if_pos (by decide +kernel)];kernel_rfl)|(rw[if_neg (by decide +kernel)];exact⟨rfl,rfl⟩))
  (fun os started H enc _=>lifted os started H enc)
end Go.Proofs.YtpajagkhmodbnaaGreat.storeLog

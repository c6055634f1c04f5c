/- The law StoreLazy answers true for every script, and leaves it as it was. Conditions: none. -/
import Derived.Test.YtpajagkhmodbnaaGreatPr41
import Derived.Test.YtpajagkhmodbnaaGreatCLazy
import Derived.Test.YtpajagkhmodbnaaGreatPr42
namespace Go.Proofs.YtpajagkhmodbnaaGreat.storeLazy
set_option maxRecDepth 100000
set_option linter.unusedSimpArgs false
set_option linter.unusedVariables false
open Go.ChangeShapes Go.WideShapes Go.ChangeAt Go.RowKit Go.Joins
theorem contract(H:Type)(enc:TypeId×Value->H)(W:World)(base:Nat)(args:Array Value)(ds gs:List (DataW H))(before:List MemPlace)
  (hval:∀(j:Nat) t v,Tryz.f10.params[j]? = some t->args[j]? = some v->Value.okWide Tryz.prog W .any base t v)
  (hW:DataW.Whole enc Tryz.prog Tryz.f10.params.toList Rows.storeLazySpec.vars false W args.toList ds gs before):
  Calls Tryz.prog 10 args W fun e W'=>∃v,e=.returned v/\Rows.storeLazySpec.post enc Tryz.prog Tryz.f10 false true false false W args v W':=by
 have hW':=hW;obtain⟨p,q,hA0,hV,rfl,hfz,hnd⟩:=hW;have hA:DataW.TrodAll enc Tryz.prog W 0 (fun _=>true) true Tryz.f10.params.toList args.toList ds p:=hA0;rw[Tryz.params10]at hA hval;obtain⟨v0,d0,hargs,rfl,h0⟩:=trodAll_one hA;obtain⟨rfl,rfl⟩:=trodVars_none hV;obtain⟨pV,n2,c2,rfl⟩:=okWide_slice Tryz.underlying43 (hval 0 43 v0 rfl (by rw[hargs];rfl));obtain⟨l2,hl2,hm2,hr2⟩:=ad8 rfl h0;unfold maxLen at hm2;rw[hargs];refine(aeC l2 _ n2 hl2 hm2 hr2).mono fun e W' ⟨he,hb⟩=>?_;rw[<-hargs];exact⟨_,he,acV laidOut (by kernel_rfl) rfl Tryz.underlying4 rfl rfl hW' hb⟩
theorem lifted(os:Os)(started:os.Started)(H:Type)(enc:TypeId×Value->H):
  ReturnsInHanded {} Tryz.checked os 10 .any (Rows.storeLazySpec.pre6 enc Tryz.prog Tryz.f10 Rows.storeLazyRow.domain false) (Rows.storeLazySpec.post enc Tryz.prog Tryz.f10 false true false false):=by
 refine returnsInHanded_of_change (C:=Tryz.checked) own started (by kernel_rfl) Tryz.func10
  (ChangeSpec.witness6 (enc:=enc) (C:=Tryz.checked) false ⟨#[],#[.slice none 0 0],[]⟩ 8 (by kernel_rfl) (by kernel_rfl) (by kernel_rfl) (by kernel_rfl)) ?_
 intro W base args ds gs before hval hW _ _;exact contract H enc W base args ds gs before hval hW
theorem iL{a b:Bool}(h:a=true)(k:b=true):(a&&b)=true:=by rw[h,k];rfl
theorem k0:(Rows.storeLazyRow.wf (OpenSpec.ofChange Rows.storeLazySpec))=true:=by kernel_rfl
theorem k1:(laidOutB Tryz.prog)=true:=by kernel_rfl
theorem k2:(mapsRowed Tryz.prog)=true:=by kernel_rfl
theorem k3:(Tryz.f10.params.all (Tryz.prog.readableRec ·))=true:=by kernel_rfl
theorem k4:(namedTie Tryz.prog Rows.storeLazyRow.named Rows.storeLazySpec.vars)=true:=by kernel_rfl
theorem k5:((Rows.storeLazyRow.stops == []))=true:=by kernel_rfl
theorem k6:((Tryz.prog.stops == []))=true:=by kernel_rfl
theorem k7:((Rows.storeLazyRow.knobs == []))=true:=by kernel_rfl
theorem k8:((Tryz.prog.stopKnobs == []))=true:=by kernel_rfl
theorem k9:((Rows.storeLazyRow.inPlace==Tryz.prog.inPlace 10))=true:=by kernel_rfl
theorem k10:((Rows.storeLazyRow.unfollowed==Tryz.prog.unfollowed 10))=true:=by kernel_rfl
theorem k11:((Rows.storeLazyRow.recurses==Tryz.prog.recurses 10))=true:=by kernel_rfl
theorem k12:((Rows.storeLazyRow.named==Tryz.prog.varsNamed 10))=true:=by kernel_rfl
theorem k13:((Rows.storeLazyRow.maps==(Tryz.f10.params.toList++Rows.storeLazySpec.plain.varTypes Tryz.prog).any (Tryz.prog.mapsRec ·)))=true:=by kernel_rfl
theorem k14:((Rows.storeLazyRow.ifaces==(Tryz.f10.params.toList++Rows.storeLazySpec.plain.varTypes Tryz.prog).any (Tryz.prog.ifacesRec ·)))=true:=by kernel_rfl
theorem k15:((Rows.storeLazyRow.mapsOut==Tryz.prog.mapsAmong Tryz.f10.resultTypes.toList))=true:=by kernel_rfl
theorem k16:((Rows.storeLazyRow.loops==(Tryz.f10.params.toList++Rows.storeLazySpec.plain.varTypes Tryz.prog).any (Tryz.prog.loopsFrom ·)))=true:=by kernel_rfl
theorem k17:((Rows.storeLazyRow.wideKeys==(Tryz.f10.params.toList++Rows.storeLazySpec.plain.varTypes Tryz.prog++Tryz.f10.resultTypes.toList).any (Tryz.prog.wideKeysFrom ·)))=true:=by kernel_rfl
theorem k18:(Rows.storeLazySpec.vars.all (Tryz.prog.varReadable ·))=true:=by kernel_rfl
theorem k19:(Tryz.f10.resultTypes.all (fun t=>Tryz.prog.readableRec t&&decide (t<Tryz.prog.types.size)))=true:=by kernel_rfl
theorem k20:((Rows.storeLazyRow.ifacesOut==Tryz.f10.resultTypes.toList.any (Tryz.prog.ifacesRec ·)))=true:=by kernel_rfl
theorem k21:((Rows.storeLazyRow.loopsOut==Tryz.f10.resultTypes.toList.any (Tryz.prog.loopsFrom ·)))=true:=by kernel_rfl
theorem k22:((Rows.storeLazyRow.plainKeys==Tryz.prog.plainKeys))=true:=by kernel_rfl
theorem k23:(Rows.storeLazyRow.shortTexts.isNone)=true:=by kernel_rfl
theorem k24:(Tryz.prog.stopsHeard)=true:=by kernel_rfl
theorem k25:(Tryz.prog.mayEnter)=true:=by kernel_rfl
theorem k26:((Rows.storeLazyRow.lifted==Tryz.prog.liftsFinal))=true:=by kernel_rfl
theorem k27:((Tryz.prog.make==some Rows.storeLazyRow.make))=true:=by kernel_rfl
theorem k28:((Rows.storeLazyRow.kinds==(if Rows.storeLazyRow.domain.isEmpty then [] else Tryz.f10.params.toList.map fun t=>match Tryz.prog.underlying t with|some (.int k)=>some k|_=>none)))=true:=by kernel_rfl
theorem k29:((Rows.storeLazyRow.pinned==Rows.storeLazyRow.pinnedBy))=true:=by kernel_rfl
theorem k30:((Rows.storeLazyRow.veiled==(Tryz.f10.params.toList++Rows.storeLazySpec.plain.varTypes Tryz.prog++Tryz.f10.resultTypes.toList).any (Tryz.prog.veiledRec ·)))=true:=by kernel_rfl
theorem k31:(Rows.storeLazyRow.veiledFits Tryz.prog Tryz.f10.params.toList (Tryz.f10.params.toList++Rows.storeLazySpec.plain.varTypes Tryz.prog++Tryz.f10.resultTypes.toList))=true:=by kernel_rfl
theorem closed:joinedFacts Tryz.prog 10 Tryz.f10 Rows.storeLazySpec Rows.storeLazyRow=true:=iL (iL (iL (iL (iL (iL (iL (iL (iL (iL (iL (iL (iL (iL (iL (iL (iL (iL (iL (iL (iL (iL (iL (iL (iL (iL (iL (iL (iL (iL (iL k0 k1) k2) k3) k4) k5) k6) k7) k8) k9) k10) k11) k12) k13) k14) k15) k16) k17) k18) k19) k20) k21) k22) k23) k24) k25) k26) k27) k28) k29) k30) k31
theorem proved:Rows.StoreLazySaid:=
 OpenClaim.holds_of_wide 10 Tryz.f10 rfl rfl rfl rfl rfl rfl rfl ⟨rfl,rfl,rfl,rfl,rfl⟩ rfl rfl rfl rfl rfl (by kernel_rfl) Tryz.func10 closed
  (of_decide_eq_true (by kernel_rfl)) (by unfold Func.isWrapper;first|(rw[if_pos (by decide +kernel)];kernel_rfl)|(rw[if_neg (by decide +kernel)];exact⟨rfl,rfl⟩))
  (fun os started H enc _=>lifted os started H enc)
end Go.Proofs.YtpajagkhmodbnaaGreat.storeLazy

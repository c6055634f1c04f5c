/- The law SpaceAll answers true for every int and every list of ints, and leaves the list as it was. Conditions: none. -/
import Derived.Test.YtpajagkhmodbnaaGreatPk32
import Derived.Test.YtpajagkhmodbnaaGreatCScAll
import Derived.Test.YtpajagkhmodbnaaGreatPk38
namespace Go.Proofs.YtpajagkhmodbnaaGreat.spaceAll
set_option linter.unusedSimpArgs false
set_option linter.unusedVariables false
open Go.ChangeShapes Go.WideShapes Go.ChangeAt Go.RowKit Go.Joins
set_option maxRecDepth 100000 in
theorem contract(H:Type)(enc:TypeId×Value→H)(W:World)(base:Nat)(args:Array Value)(ds gs:List (DataW H))(before:List MemPlace)
  (hval:∀(j:Nat) t v,Tryz.f14.params[j]? = some t→args[j]? = some v→Value.okWide Tryz.prog W .any base t v)
  (hW:DataW.Whole enc Tryz.prog Tryz.f14.params.toList Rows.spaceAllSpec.vars false W args.toList ds gs before):
  Calls Tryz.prog 14 args W fun e W'=>∃v,e=.returned v∧Rows.spaceAllSpec.post enc Tryz.prog Tryz.f14 false true false false W args v W':=by
 have hW':=hW
 obtain⟨p,q,hA0,hV,rfl,hfz,hnd⟩:=hW
 have hA:DataW.TrodAll enc Tryz.prog W 0 (fun _=>true) true Tryz.f14.params.toList args.toList ds p:=hA0
 rw[Tryz.params14]at hA hval
 obtain⟨v0,v1,d0,d1,p0,p1,hargs,rfl,rfl,h0,h1⟩:=trodAll_two hA
 obtain⟨rfl,rfl⟩:=trodVars_none hV
 obtain⟨a3,rfl,rfl,rfl,w3⟩:=open_int Tryz.underlying3 (hval 0 3 v0 rfl (by rw[hargs];rfl)) h0
 obtain⟨ao2,n2,c2,rfl⟩:=okWide_slice Tryz.underlying47 (hval 1 47 v1 rfl (by rw[hargs];rfl))
 obtain⟨l2,hl2,hm2,hr2⟩:=open_ints8 rfl h1
 unfold maxLen at hm2
 rw[hargs]
 refine(all8_any a3 (wf_i64 w3).1 (wf_i64 w3).2 l2 _ n2 hl2 hm2 W hr2).mono fun e W' ⟨he,hb⟩=>?_
 rw[←hargs]
 exact⟨_,he,law_post laidOut (by kernel_rfl) rfl Tryz.underlying4 rfl rfl hW' hb⟩
set_option maxRecDepth 100000 in
theorem lifted(os:Os)(started:os.Started)(H:Type)(enc:TypeId×Value→H):
  ReturnsInHanded {} Tryz.checked os 14 .any (Rows.spaceAllSpec.pre6 enc Tryz.prog Tryz.f14 Rows.spaceAllRow.domain false) (Rows.spaceAllSpec.post enc Tryz.prog Tryz.f14 false true false false):=by
 refine returnsInHanded_of_change (C:=Tryz.checked) own started (by kernel_rfl) Tryz.func14
  (ChangeSpec.witness6 (enc:=enc) (C:=Tryz.checked) false ⟨#[],#[.int .i64 0,.slice none 0 0],[]⟩ 8 (by kernel_rfl) (by kernel_rfl) (by kernel_rfl) (by kernel_rfl)) ?_
 intro W base args ds gs before hval hW _ _
 exact contract H enc W base args ds gs before hval hW
theorem and2{a b:Bool}(h:a=true)(k:b=true):(a&&b)=true:=by rw[h,k];rfl
set_option maxRecDepth 100000 in
theorem k0:(Rows.spaceAllRow.wf (OpenSpec.ofChange Rows.spaceAllSpec))=true:=by kernel_rfl
set_option maxRecDepth 100000 in
theorem k1:(laidOutB Tryz.prog)=true:=by kernel_rfl
set_option maxRecDepth 100000 in
theorem k2:(mapsRowed Tryz.prog)=true:=by kernel_rfl
set_option maxRecDepth 100000 in
theorem k3:(Tryz.f14.params.all (Tryz.prog.readableRec ·))=true:=by kernel_rfl
set_option maxRecDepth 100000 in
theorem k4:(namedTie Tryz.prog Rows.spaceAllRow.named Rows.spaceAllSpec.vars)=true:=by kernel_rfl
set_option maxRecDepth 100000 in
theorem k5:((Rows.spaceAllRow.stops == []))=true:=by kernel_rfl
set_option maxRecDepth 100000 in
theorem k6:((Tryz.prog.stops == []))=true:=by kernel_rfl
set_option maxRecDepth 100000 in
theorem k7:((Rows.spaceAllRow.knobs == []))=true:=by kernel_rfl
set_option maxRecDepth 100000 in
theorem k8:((Tryz.prog.stopKnobs == []))=true:=by kernel_rfl
set_option maxRecDepth 100000 in
theorem k9:((Rows.spaceAllRow.inPlace==Tryz.prog.inPlace 14))=true:=by kernel_rfl
set_option maxRecDepth 100000 in
theorem k10:((Rows.spaceAllRow.unfollowed==Tryz.prog.unfollowed 14))=true:=by kernel_rfl
set_option maxRecDepth 100000 in
theorem k11:((Rows.spaceAllRow.recurses==Tryz.prog.recurses 14))=true:=by kernel_rfl
set_option maxRecDepth 100000 in
theorem k12:((Rows.spaceAllRow.named==Tryz.prog.varsNamed 14))=true:=by kernel_rfl
set_option maxRecDepth 100000 in
theorem k13:((Rows.spaceAllRow.maps==(Tryz.f14.params.toList++Rows.spaceAllSpec.plain.varTypes Tryz.prog).any (Tryz.prog.mapsRec ·)))=true:=by kernel_rfl
set_option maxRecDepth 100000 in
theorem k14:((Rows.spaceAllRow.ifaces==(Tryz.f14.params.toList++Rows.spaceAllSpec.plain.varTypes Tryz.prog).any (Tryz.prog.ifacesRec ·)))=true:=by kernel_rfl
set_option maxRecDepth 100000 in
theorem k15:((Rows.spaceAllRow.mapsOut==Tryz.prog.mapsAmong Tryz.f14.resultTypes.toList))=true:=by kernel_rfl
set_option maxRecDepth 100000 in
theorem k16:((Rows.spaceAllRow.loops==(Tryz.f14.params.toList++Rows.spaceAllSpec.plain.varTypes Tryz.prog).any (Tryz.prog.loopsFrom ·)))=true:=by kernel_rfl
set_option maxRecDepth 100000 in
theorem k17:((Rows.spaceAllRow.wideKeys==(Tryz.f14.params.toList++Rows.spaceAllSpec.plain.varTypes Tryz.prog++Tryz.f14.resultTypes.toList).any (Tryz.prog.wideKeysFrom ·)))=true:=by kernel_rfl
set_option maxRecDepth 100000 in
theorem k18:(Rows.spaceAllSpec.vars.all (Tryz.prog.varReadable ·))=true:=by kernel_rfl
set_option maxRecDepth 100000 in
theorem k19:(Tryz.f14.resultTypes.all (fun t=>Tryz.prog.readableRec t&&decide (t<Tryz.prog.types.size)))=true:=by kernel_rfl
set_option maxRecDepth 100000 in
theorem k20:((Rows.spaceAllRow.ifacesOut==Tryz.f14.resultTypes.toList.any (Tryz.prog.ifacesRec ·)))=true:=by kernel_rfl
set_option maxRecDepth 100000 in
theorem k21:((Rows.spaceAllRow.loopsOut==Tryz.f14.resultTypes.toList.any (Tryz.prog.loopsFrom ·)))=true:=by kernel_rfl
set_option maxRecDepth 100000 in
theorem k22:((Rows.spaceAllRow.plainKeys==Tryz.prog.plainKeys))=true:=by kernel_rfl
set_option maxRecDepth 100000 in
theorem k23:(Rows.spaceAllRow.shortTexts.isNone)=true:=by kernel_rfl
set_option maxRecDepth 100000 in
theorem k24:(Tryz.prog.stopsHeard)=true:=by kernel_rfl
set_option maxRecDepth 100000 in
theorem k25:(Tryz.prog.mayEnter)=true:=by kernel_rfl
set_option maxRecDepth 100000 in
theorem k26:((Rows.spaceAllRow.lifted==Tryz.prog.liftsFinal))=true:=by kernel_rfl
set_option maxRecDepth 100000 in
theorem k27:((Tryz.prog.make==some Rows.spaceAllRow.make))=true:=by kernel_rfl
set_option maxRecDepth 100000 in
theorem k28:((Rows.spaceAllRow.kinds==(if Rows.spaceAllRow.domain.isEmpty then [] else Tryz.f14.params.toList.map fun t=>match Tryz.prog.underlying t with|some (.int k)=>some k|_=>none)))=true:=by kernel_rfl
set_option maxRecDepth 100000 in
theorem k29:((Rows.spaceAllRow.pinned==Rows.spaceAllRow.pinnedBy))=true:=by kernel_rfl
set_option maxRecDepth 100000 in
theorem k30:((Rows.spaceAllRow.veiled==(Tryz.f14.params.toList++Rows.spaceAllSpec.plain.varTypes Tryz.prog++Tryz.f14.resultTypes.toList).any (Tryz.prog.veiledRec ·)))=true:=by kernel_rfl
set_option maxRecDepth 100000 in
theorem k31:(Rows.spaceAllRow.veiledFits Tryz.prog Tryz.f14.params.toList (Tryz.f14.params.toList++Rows.spaceAllSpec.plain.varTypes Tryz.prog++Tryz.f14.resultTypes.toList))=true:=by kernel_rfl
set_option maxRecDepth 100000 in
theorem closed:joinedFacts Tryz.prog 14 Tryz.f14 Rows.spaceAllSpec Rows.spaceAllRow=true:=and2 (and2 (and2 (and2 (and2 (and2 (and2 (and2 (and2 (and2 (and2 (and2 (and2 (and2 (and2 (and2 (and2 (and2 (and2 (and2 (and2 (and2 (and2 (and2 (and2 (and2 (and2 (and2 (and2 (and2 (and2 k0 k1) k2) k3) k4) k5) k6) k7) k8) k9) k10) k11) k12) k13) k14) k15) k16) k17) k18) k19) k20) k21) k22) k23) k24) k25) k26) k27) k28) k29) k30) k31
theorem proved:Rows.SpaceAllSaid:=
 OpenClaim.holds_of_wide 14 Tryz.f14 rfl rfl rfl rfl rfl rfl rfl ⟨rfl,rfl,rfl,rfl,rfl⟩ rfl rfl rfl rfl rfl (by kernel_rfl) Tryz.func14 closed
  (of_decide_eq_true (by kernel_rfl)) (by unfold Func.isWrapper;first|(rw[if_pos (by decide +kernel)];kernel_rfl)|(rw[if_neg (by decide +kernel)];exact⟨rfl,rfl⟩))
  (fun os started H enc _=>lifted os started H enc)
end Go.Proofs.YtpajagkhmodbnaaGreat.spaceAll

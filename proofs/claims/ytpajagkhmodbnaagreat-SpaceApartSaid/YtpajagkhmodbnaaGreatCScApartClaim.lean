/- The law SpaceApart answers true for every script and either way, and leaves the script as it was. Conditions: none. -/
import Derived.Test.YtpajagkhmodbnaaGreatPk32
import Derived.Test.YtpajagkhmodbnaaGreatCScApart
import Derived.Test.YtpajagkhmodbnaaGreatPk35
namespace Go.Proofs.YtpajagkhmodbnaaGreat.spaceApart
set_option linter.unusedSimpArgs false
set_option linter.unusedVariables false
open Go.ChangeShapes Go.WideShapes Go.ChangeAt Go.RowKit Go.Joins
set_option maxRecDepth 100000 in
theorem contract(H:Type)(enc:TypeId×Value→H)(W:World)(base:Nat)(args:Array Value)(ds gs:List (DataW H))(before:List MemPlace)
  (hval:∀(j:Nat) t v,Tryz.f15.params[j]? = some t→args[j]? = some v→Value.okWide Tryz.prog W .any base t v)
  (hW:DataW.Whole enc Tryz.prog Tryz.f15.params.toList Rows.spaceApartSpec.vars false W args.toList ds gs before):
  Calls Tryz.prog 15 args W fun e W'=>∃v,e=.returned v∧Rows.spaceApartSpec.post enc Tryz.prog Tryz.f15 false true false false W args v W':=by
 have hW':=hW
 obtain⟨p,q,hA0,hV,rfl,hfz,hnd⟩:=hW
 have hA:DataW.TrodAll enc Tryz.prog W 0 (fun _=>true) true Tryz.f15.params.toList args.toList ds p:=hA0
 rw[Tryz.params15]at hA hval
 obtain⟨v0,v1,d0,d1,p0,p1,hargs,rfl,rfl,h0,h1⟩:=trodAll_two hA
 obtain⟨rfl,rfl⟩:=trodVars_none hV
 obtain⟨ao2,n2,c2,rfl⟩:=okWide_slice Tryz.underlying27 (hval 0 27 v0 rfl (by rw[hargs];rfl))
 obtain⟨l2,hl2,hm2,hr2⟩:=open_op8 rfl h0
 unfold maxLen at hm2
 obtain⟨b3,rfl,rfl,rfl⟩:=open_bool Tryz.underlying4 (hval 1 4 v1 rfl (by rw[hargs];rfl)) h1
 rw[hargs]
 refine(apart_any l2 _ n2 b3 hl2 hm2 W hr2).mono fun e W' ⟨he,hb⟩=>?_
 rw[←hargs]
 exact⟨_,he,law_post laidOut (by kernel_rfl) rfl Tryz.underlying4 rfl rfl hW' hb⟩
set_option maxRecDepth 100000 in
theorem lifted(os:Os)(started:os.Started)(H:Type)(enc:TypeId×Value→H):
  ReturnsInHanded {} Tryz.checked os 15 .any (Rows.spaceApartSpec.pre6 enc Tryz.prog Tryz.f15 Rows.spaceApartRow.domain false) (Rows.spaceApartSpec.post enc Tryz.prog Tryz.f15 false true false false):=by
 refine returnsInHanded_of_change (C:=Tryz.checked) own started (by kernel_rfl) Tryz.func15
  (ChangeSpec.witness6 (enc:=enc) (C:=Tryz.checked) false ⟨#[],#[.slice none 0 0,.bool false],[]⟩ 8 (by kernel_rfl) (by kernel_rfl) (by kernel_rfl) (by kernel_rfl)) ?_
 intro W base args ds gs before hval hW _ _
 exact contract H enc W base args ds gs before hval hW
theorem and2{a b:Bool}(h:a=true)(k:b=true):(a&&b)=true:=by rw[h,k];rfl
set_option maxRecDepth 100000 in
theorem k0:(Rows.spaceApartRow.wf (OpenSpec.ofChange Rows.spaceApartSpec))=true:=by kernel_rfl
set_option maxRecDepth 100000 in
theorem k1:(laidOutB Tryz.prog)=true:=by kernel_rfl
set_option maxRecDepth 100000 in
theorem k2:(mapsRowed Tryz.prog)=true:=by kernel_rfl
set_option maxRecDepth 100000 in
theorem k3:(Tryz.f15.params.all (Tryz.prog.readableRec ·))=true:=by kernel_rfl
set_option maxRecDepth 100000 in
theorem k4:(namedTie Tryz.prog Rows.spaceApartRow.named Rows.spaceApartSpec.vars)=true:=by kernel_rfl
set_option maxRecDepth 100000 in
theorem k5:((Rows.spaceApartRow.stops == []))=true:=by kernel_rfl
set_option maxRecDepth 100000 in
theorem k6:((Tryz.prog.stops == []))=true:=by kernel_rfl
set_option maxRecDepth 100000 in
theorem k7:((Rows.spaceApartRow.knobs == []))=true:=by kernel_rfl
set_option maxRecDepth 100000 in
theorem k8:((Tryz.prog.stopKnobs == []))=true:=by kernel_rfl
set_option maxRecDepth 100000 in
theorem k9:((Rows.spaceApartRow.inPlace==Tryz.prog.inPlace 15))=true:=by kernel_rfl
set_option maxRecDepth 100000 in
theorem k10:((Rows.spaceApartRow.unfollowed==Tryz.prog.unfollowed 15))=true:=by kernel_rfl
set_option maxRecDepth 100000 in
theorem k11:((Rows.spaceApartRow.recurses==Tryz.prog.recurses 15))=true:=by kernel_rfl
set_option maxRecDepth 100000 in
theorem k12:((Rows.spaceApartRow.named==Tryz.prog.varsNamed 15))=true:=by kernel_rfl
set_option maxRecDepth 100000 in
theorem k13:((Rows.spaceApartRow.maps==(Tryz.f15.params.toList++Rows.spaceApartSpec.plain.varTypes Tryz.prog).any (Tryz.prog.mapsRec ·)))=true:=by kernel_rfl
set_option maxRecDepth 100000 in
theorem k14:((Rows.spaceApartRow.ifaces==(Tryz.f15.params.toList++Rows.spaceApartSpec.plain.varTypes Tryz.prog).any (Tryz.prog.ifacesRec ·)))=true:=by kernel_rfl
set_option maxRecDepth 100000 in
theorem k15:((Rows.spaceApartRow.mapsOut==Tryz.prog.mapsAmong Tryz.f15.resultTypes.toList))=true:=by kernel_rfl
set_option maxRecDepth 100000 in
theorem k16:((Rows.spaceApartRow.loops==(Tryz.f15.params.toList++Rows.spaceApartSpec.plain.varTypes Tryz.prog).any (Tryz.prog.loopsFrom ·)))=true:=by kernel_rfl
set_option maxRecDepth 100000 in
theorem k17:((Rows.spaceApartRow.wideKeys==(Tryz.f15.params.toList++Rows.spaceApartSpec.plain.varTypes Tryz.prog++Tryz.f15.resultTypes.toList).any (Tryz.prog.wideKeysFrom ·)))=true:=by kernel_rfl
set_option maxRecDepth 100000 in
theorem k18:(Rows.spaceApartSpec.vars.all (Tryz.prog.varReadable ·))=true:=by kernel_rfl
set_option maxRecDepth 100000 in
theorem k19:(Tryz.f15.resultTypes.all (fun t=>Tryz.prog.readableRec t&&decide (t<Tryz.prog.types.size)))=true:=by kernel_rfl
set_option maxRecDepth 100000 in
theorem k20:((Rows.spaceApartRow.ifacesOut==Tryz.f15.resultTypes.toList.any (Tryz.prog.ifacesRec ·)))=true:=by kernel_rfl
set_option maxRecDepth 100000 in
theorem k21:((Rows.spaceApartRow.loopsOut==Tryz.f15.resultTypes.toList.any (Tryz.prog.loopsFrom ·)))=true:=by kernel_rfl
set_option maxRecDepth 100000 in
theorem k22:((Rows.spaceApartRow.plainKeys==Tryz.prog.plainKeys))=true:=by kernel_rfl
set_option maxRecDepth 100000 in
theorem k23:(Rows.spaceApartRow.shortTexts.isNone)=true:=by kernel_rfl
set_option maxRecDepth 100000 in
theorem k24:(Tryz.prog.stopsHeard)=true:=by kernel_rfl
set_option maxRecDepth 100000 in
theorem k25:(Tryz.prog.mayEnter)=true:=by kernel_rfl
set_option maxRecDepth 100000 in
theorem k26:((Rows.spaceApartRow.lifted==Tryz.prog.liftsFinal))=true:=by kernel_rfl
set_option maxRecDepth 100000 in
theorem k27:((Tryz.prog.make==some Rows.spaceApartRow.make))=true:=by kernel_rfl
set_option maxRecDepth 100000 in
theorem k28:((Rows.spaceApartRow.kinds==(if Rows.spaceApartRow.domain.isEmpty then [] else Tryz.f15.params.toList.map fun t=>match Tryz.prog.underlying t with|some (.int k)=>some k|_=>none)))=true:=by kernel_rfl
set_option maxRecDepth 100000 in
theorem k29:((Rows.spaceApartRow.pinned==Rows.spaceApartRow.pinnedBy))=true:=by kernel_rfl
set_option maxRecDepth 100000 in
theorem k30:((Rows.spaceApartRow.veiled==(Tryz.f15.params.toList++Rows.spaceApartSpec.plain.varTypes Tryz.prog++Tryz.f15.resultTypes.toList).any (Tryz.prog.veiledRec ·)))=true:=by kernel_rfl
set_option maxRecDepth 100000 in
theorem k31:(Rows.spaceApartRow.veiledFits Tryz.prog Tryz.f15.params.toList (Tryz.f15.params.toList++Rows.spaceApartSpec.plain.varTypes Tryz.prog++Tryz.f15.resultTypes.toList))=true:=by kernel_rfl
set_option maxRecDepth 100000 in
theorem closed:joinedFacts Tryz.prog 15 Tryz.f15 Rows.spaceApartSpec Rows.spaceApartRow=true:=and2 (and2 (and2 (and2 (and2 (and2 (and2 (and2 (and2 (and2 (and2 (and2 (and2 (and2 (and2 (and2 (and2 (and2 (and2 (and2 (and2 (and2 (and2 (and2 (and2 (and2 (and2 (and2 (and2 (and2 (and2 k0 k1) k2) k3) k4) k5) k6) k7) k8) k9) k10) k11) k12) k13) k14) k15) k16) k17) k18) k19) k20) k21) k22) k23) k24) k25) k26) k27) k28) k29) k30) k31
theorem proved:Rows.SpaceApartSaid:=
 OpenClaim.holds_of_wide 15 Tryz.f15 rfl rfl rfl rfl rfl rfl rfl ⟨rfl,rfl,rfl,rfl,rfl⟩ rfl rfl rfl rfl rfl (by kernel_rfl) Tryz.func15 closed
  (of_decide_eq_true (by kernel_rfl)) (by unfold Func.isWrapper;first|(rw[if_pos (by decide +kernel)];kernel_rfl)|(rw[if_neg (by decide +kernel)];exact⟨rfl,rfl⟩))
  (fun os started H enc _=>lifted os started H enc)
end Go.Proofs.YtpajagkhmodbnaaGreat.spaceApart

/- The law StoreSteals answers true for every bytes and every two ints, and leaves the bytes as they were. Conditions: none. -/
import Derived.Test.YtpajagkhmodbnaaGreatPr41
import Derived.Test.YtpajagkhmodbnaaGreatCStl
import Derived.Test.YtpajagkhmodbnaaGreatPr42
namespace Go.Proofs.YtpajagkhmodbnaaGreat.storeSteals
set_option maxRecDepth 100000
set_option linter.unusedSimpArgs false
set_option linter.unusedVariables false
open Go.ChangeShapes Go.WideShapes Go.ChangeAt Go.RowKit Go.Joins
theorem contract(H:Type)(enc:TypeId×Value->H)(W:World)(base:Nat)(args:Array Value)(ds gs:List (DataW H))(before:List MemPlace)
  (hval:∀(j:Nat) t v,Tryz.f7.params[j]? = some t->args[j]? = some v->Value.okWide Tryz.prog W .any base t v)
  (hW:DataW.Whole enc Tryz.prog Tryz.f7.params.toList Rows.storeStealsSpec.vars false W args.toList ds gs before):
  Calls Tryz.prog 7 args W fun e W'=>∃v,e=.returned v/\Rows.storeStealsSpec.post enc Tryz.prog Tryz.f7 false true false false W args v W':=by
 have hW':=hW;obtain⟨p,q,hA0,hV,rfl,hfz,hnd⟩:=hW;have hA:DataW.TrodAll enc Tryz.prog W 0 (fun _=>true) true Tryz.f7.params.toList args.toList ds p:=hA0;rw[Tryz.params7]at hA hval;obtain⟨v0,v1,v2,d0,d1,d2,p0,p1,p2,hargs,rfl,rfl,h0,h1,h2⟩:=trodAll_three hA;obtain⟨rfl,rfl⟩:=trodVars_none hV;obtain⟨a3,rfl,rfl,rfl,w3⟩:=open_int Tryz.underlying3 (hval 1 3 v1 rfl (by rw[hargs];rfl)) h1;obtain⟨a4,rfl,rfl,rfl,w4⟩:=open_int Tryz.underlying3 (hval 2 3 v2 rfl (by rw[hargs];rfl)) h2;obtain⟨pV,n2,c2,rfl⟩:=okWide_slice Tryz.underlying48 (hval 0 48 v0 rfl (by rw[hargs];rfl));obtain⟨fu0,hf0⟩:=h0;obtain⟨L0,hr0,hm0⟩:=Ur hf0;rw[hargs];refine(Yx L0 _ L0.length rfl hr0 a3 a4).mono fun e W' ⟨he,hb⟩=>?_;rw[<-hargs];exact⟨_,he,acV laidOut (by kernel_rfl) rfl Tryz.underlying4 rfl rfl hW' hb⟩
theorem lifted(os:Os)(started:os.Started)(H:Type)(enc:TypeId×Value->H):
  ReturnsInHanded {} Tryz.checked os 7 .any (Rows.storeStealsSpec.pre6 enc Tryz.prog Tryz.f7 Rows.storeStealsRow.domain false) (Rows.storeStealsSpec.post enc Tryz.prog Tryz.f7 false true false false):=by
 refine returnsInHanded_of_change (C:=Tryz.checked) own started (by kernel_rfl) Tryz.func7
  (ChangeSpec.witness6 (enc:=enc) (C:=Tryz.checked) false ⟨#[],#[.slice none 0 0,.int .i64 0,.int .i64 0],[]⟩ 8 (by kernel_rfl) (by kernel_rfl) (by kernel_rfl) (by kernel_rfl)) ?_
 intro W base args ds gs before hval hW _ _;exact contract H enc W base args ds gs before hval hW
theorem iL{a b:Bool}(h:a=true)(k:b=true):(a&&b)=true:=by rw[h,k];rfl
theorem k0:(Rows.storeStealsRow.wf (OpenSpec.ofChange Rows.storeStealsSpec))=true:=by kernel_rfl
theorem k1:(laidOutB Tryz.prog)=true:=by kernel_rfl
theorem k2:(mapsRowed Tryz.prog)=true:=by kernel_rfl
theorem k3:(Tryz.f7.params.all (Tryz.prog.readableRec ·))=true:=by kernel_rfl
theorem k4:(namedTie Tryz.prog Rows.storeStealsRow.named Rows.storeStealsSpec.vars)=true:=by kernel_rfl
theorem k5:((Rows.storeStealsRow.stops == []))=true:=by kernel_rfl
theorem k6:((Tryz.prog.stops == []))=true:=by kernel_rfl
theorem k7:((Rows.storeStealsRow.knobs == []))=true:=by kernel_rfl
theorem k8:((Tryz.prog.stopKnobs == []))=true:=by kernel_rfl
theorem k9:((Rows.storeStealsRow.inPlace==Tryz.prog.inPlace 7))=true:=by kernel_rfl
theorem k10:((Rows.storeStealsRow.unfollowed==Tryz.prog.unfollowed 7))=true:=by kernel_rfl
theorem k11:((Rows.storeStealsRow.recurses==Tryz.prog.recurses 7))=true:=by kernel_rfl
theorem k12:((Rows.storeStealsRow.named==Tryz.prog.varsNamed 7))=true:=by kernel_rfl
theorem k13:((Rows.storeStealsRow.maps==(Tryz.f7.params.toList++Rows.storeStealsSpec.plain.varTypes Tryz.prog).any (Tryz.prog.mapsRec ·)))=true:=by kernel_rfl
theorem k14:((Rows.storeStealsRow.ifaces==(Tryz.f7.params.toList++Rows.storeStealsSpec.plain.varTypes Tryz.prog).any (Tryz.prog.ifacesRec ·)))=true:=by kernel_rfl
theorem k15:((Rows.storeStealsRow.mapsOut==Tryz.prog.mapsAmong Tryz.f7.resultTypes.toList))=true:=by kernel_rfl
theorem k16:((Rows.storeStealsRow.loops==(Tryz.f7.params.toList++Rows.storeStealsSpec.plain.varTypes Tryz.prog).any (Tryz.prog.loopsFrom ·)))=true:=by kernel_rfl
theorem k17:((Rows.storeStealsRow.wideKeys==(Tryz.f7.params.toList++Rows.storeStealsSpec.plain.varTypes Tryz.prog++Tryz.f7.resultTypes.toList).any (Tryz.prog.wideKeysFrom ·)))=true:=by kernel_rfl
theorem k18:(Rows.storeStealsSpec.vars.all (Tryz.prog.varReadable ·))=true:=by kernel_rfl
theorem k19:(Tryz.f7.resultTypes.all (fun t=>Tryz.prog.readableRec t&&decide (t<Tryz.prog.types.size)))=true:=by kernel_rfl
theorem k20:((Rows.storeStealsRow.ifacesOut==Tryz.f7.resultTypes.toList.any (Tryz.prog.ifacesRec ·)))=true:=by kernel_rfl
theorem k21:((Rows.storeStealsRow.loopsOut==Tryz.f7.resultTypes.toList.any (Tryz.prog.loopsFrom ·)))=true:=by kernel_rfl
theorem k22:((Rows.storeStealsRow.plainKeys==Tryz.prog.plainKeys))=true:=by kernel_rfl
theorem k23:(Rows.storeStealsRow.shortTexts.isNone)=true:=by kernel_rfl
theorem k24:(Tryz.prog.stopsHeard)=true:=by kernel_rfl
theorem k25:(Tryz.prog.mayEnter)=true:=by kernel_rfl
theorem k26:((Rows.storeStealsRow.lifted==Tryz.prog.liftsFinal))=true:=by kernel_rfl
theorem k27:((Tryz.prog.make==some Rows.storeStealsRow.make))=true:=by kernel_rfl
theorem k28:((Rows.storeStealsRow.kinds==(if Rows.storeStealsRow.domain.isEmpty then [] else Tryz.f7.params.toList.map fun t=>match Tryz.prog.underlying t with|some (.int k)=>some k|_=>none)))=true:=by kernel_rfl
theorem k29:((Rows.storeStealsRow.pinned==Rows.storeStealsRow.pinnedBy))=true:=by kernel_rfl
theorem k30:((Rows.storeStealsRow.veiled==(Tryz.f7.params.toList++Rows.storeStealsSpec.plain.varTypes Tryz.prog++Tryz.f7.resultTypes.toList).any (Tryz.prog.veiledRec ·)))=true:=by kernel_rfl
theorem k31:(Rows.storeStealsRow.veiledFits Tryz.prog Tryz.f7.params.toList (Tryz.f7.params.toList++Rows.storeStealsSpec.plain.varTypes Tryz.prog++Tryz.f7.resultTypes.toList))=true:=by kernel_rfl
theorem closed:joinedFacts Tryz.prog 7 Tryz.f7 Rows.storeStealsSpec Rows.storeStealsRow=true:=iL (iL (iL (iL (iL (iL (iL (iL (iL (iL (iL (iL (iL (iL (iL (iL (iL (iL (iL (iL (iL (iL (iL (iL (iL (iL (iL (iL (iL (iL (iL k0 k1) k2) k3) k4) k5) k6) k7) k8) k9) k10) k11) k12) k13) k14) k15) k16) k17) k18) k19) k20) k21) k22) k23) k24) k25) k26) k27) k28) k29) k30) k31
theorem proved:Rows.StoreStealsSaid:=
 OpenClaim.holds_of_wide 7 Tryz.f7 rfl rfl rfl rfl rfl rfl rfl ⟨rfl,rfl,rfl,rfl,rfl⟩ rfl rfl rfl rfl rfl (by kernel_rfl) Tryz.func7 closed
  (of_decide_eq_true (by kernel_rfl)) (by unfold Func.isWrapper;first|(rw[if_pos (by decide +kernel)];kernel_rfl)|(rw[if_neg (by decide +kernel)];exact⟨rfl,rfl⟩))
  (fun os started H enc _=>lifted os started H enc)
end Go.Proofs.YtpajagkhmodbnaaGreat.storeSteals

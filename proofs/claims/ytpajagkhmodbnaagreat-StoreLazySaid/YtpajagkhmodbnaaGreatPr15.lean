/- Pr: texts of the store seat laid together by program: SgGather. Conditions: each theorem names its own. -/
import Derived.Test.YtpajagkhmodbnaaGreatPr11
namespace Go.Proofs.YtpajagkhmodbnaaGreat
set_option maxRecDepth 100000
set_option maxHeartbeats 1600000
open Lib(hid)
set_option linter.unusedSimpArgs false
set_option linter.unusedVariables false
section
open Go.RowKit
theorem Dv.xg(D:Dv):∀k,∃cc,D.reads k={ D with calls:=cc }
 | 0=>⟨D.calls,rfl⟩
 | k+1=>by obtain⟨cc,h⟩:=Dv.xg D k;exact⟨iw cc,by rw[Dv.reads,h]⟩
theorem Dv.Wp(D:Dv){k:Nat}{cc:Int}(h:D.reads k={ D with calls:=cc }):{ D with calls:=iw cc }=D.reads (k+1):=by rw[Dv.reads,h]
theorem Dv.kH(D:Dv)(k:Nat):(D.reads k).l=D.l/\(D.reads k).c=D.c/\(D.reads k).dead=D.dead/\(D.reads k).fuse=D.fuse/\∀i,(D.reads k).sec i=D.sec i:=by
 obtain⟨cc,h⟩:=Dv.xg D k;rw[h];exact⟨rfl,rfl,rfl,rfl,fun _=>rfl⟩
theorem Dv.good.reads{D:Dv}(h:D.good)(k:Nat):(D.reads k).good:=by
 obtain⟨cc,e⟩:=Dv.xg D k;rw[e];exact⟨⟨h.ok.l,h.ok.c,h.ok.n,h.ok.f1,h.ok.f2⟩,h.fuse,h.dead⟩
theorem Y3{W0 w:World}{f d fr pg:Nat}{de:Bool}{D:Dv}{S:Nat->Prop}(hf:iG w f d fr pg de)(hfS:¬S f)(h:DV W0 d D S w)(kL:D.dead=false)(q:Nat)(hq:q+4<=D.l.length):
  Calls Tryz.prog 112 #[.pointer (some ⟨f,0,none⟩),.int .i64 (q:Nat)] w fun e w'=>∃(v:Value),e=.returned (.tuple #[v,.int .i64 0])/\w'.ownsRow w.heap.size 5 1 v 512 ((dO D q 4).map B)/\DV W0 d (D.reads 4) S w'/\aj (fun k=>k=d) w w':=by
 have hq2:q<=8192:=by have:=h.ok.n;omega
 have HQ:=hid hq;have HF:=hid hf;have HD:=hid h;have HDD:=hid kL;have hfd:f≠d:=by
  rintro rfl;obtain⟨_,_,_,_,_,_,_,_,rfl⟩:=h;exact hfS (.inl rfl)
 clear hq hf h kL;go_enter Tryz.func112,Tryz.ntmps112;go_wp2_with fail;go_loopw [6,10] (fun s z wr=>∃(k m cb:Nat)(bo:Option Addr),k<=4/\z=.int .i64 k/\s=.slice bo m cb/\m=128*k/\wr.ownsRow w.heap.size 5 1 (.slice bo m cb) m ((dO D q k).map B)/\DV W0 d (D.reads k) S wr/\aj (fun k=>k=d) w wr) (fun _ z _=>4-(intOf z).toNat)
 case atStart=>exact⟨0,0,0,none,Nat.zero_le _,rfl,rfl,rfl,World.ownsRow_nil _ _ _ _,HD.out,aj.refl _⟩
 case round=>
  obtain⟨k,m,cb,bo,hk,rfl,rfl,hm,hown,hdv,hgw⟩:=hrel;obtain⟨cc,hcc⟩:=Dv.xg D k;rw[hcc]at hdv;have wO:=hid hcc;clear hcc;have HM:=hid hm;have at6:m<=512:=by omega
  clear hm;have HO:=hid hown;have HV:=hid hdv;have HG:=hid hgw;have c1:=(HF.out.aH hgw hfd).cell 0 _ rfl;have hlf:=(HF.out.aH hgw hfd).lt;clear hown hdv hgw;by_cases hk4:k<4
  case neg=>
   have hb:decide ((k:Int)<4)=false:=by simp;omega
   obtain rfl:k=4:=by omega
   go_wp2_with fail;go_ret2;obtain rfl:=HM.out;exact⟨_,rfl,HO.out,wO.out▸HV.out,HG.out⟩
  have hb:decide ((k:Int)<4)=true:=by simp;omega
  have hwr:wrap64 ((q:Int)+(k:Int))=((q+k:Nat):Int):=by rw[wrap64];omega
  go_wp2_with fail;refine(ug HV.out HDD.out (q+k) (by have:=HQ.out;show q+k<D.l.length;omega)).mono ?_;rintro e w3 ⟨g,rfl,agV,hbuf,hg,hgr⟩;have Af:=hid agV;have HB3:=hid hbuf;have wL:=hid (HG.out.step hgr (fun _ _ e=>e));have hdl:=(HV.out.lt d (by obtain⟨_,_,_,_,_,_,_,_,rfl⟩:=HV.out;exact .inl rfl)).2;have tH:Hid (w3.ownsRow w.heap.size 5 1 (.slice bo m cb) m ((dO D q k).map B)):=hid (aI HO.out hgr (fun a e1 e2=>by
   have h1:=(HO.out.lt a e1).1;have h2:d<w.heap.size:=(HD.out.lt d (by obtain⟨_,_,_,_,_,_,_,_,rfl⟩:=HD.out;exact .inl rfl)).2;omega))
  have hsl:(D.sec (q+k)).length=128:=Dv.je HD.out.ok (by have:=HQ.out;omega);have HSL:=hid hsl;have hws:w.heap.size<=w3.heap.size:=wL.out.size;clear agV hbuf hgr hsl c1 hlf;go_wp2_with (at_builtin;refine dX bytesOf (.tmp 27) (.tmp 28) rfl rfl (base:=w.heap.size) rfl tH.out (m:=128) (c:=128) rfl (by rw[List.length_map,HSL.out]) (news:=(D.sec (q+k)).map B) (by intro j u hu;rw[Addr.add_lit,Nat.zero_add];exact HB3.out.cell j u hu) (eU _) (by omega) (by omega) (by omega) (by omega) ?_;intro ob cp wq fD iK kE);have hgx:aj (fun b=>(Value.slice bo m cb).ownBlock=some b) w3 wq:=aj.aK iK (fun k o h=>h.1);have zq:∀k,(Value.slice bo m cb).ownBlock=some k->w.heap.size<=k:=fun k e=>(tH.out.lt k e).1;have HQW:=hid fD;have HQV:Hid (DV W0 d { D with calls:=iw cc } S wq):=hid (Af.out.grow hgx (fun k hs e=>by have:=zq k e;have:=(HD.out.lt k hs).2;omega)
   (Af.out.bel.trans (hgx.below (fun k hk=>⟨Nat.lt_of_lt_of_le hk Af.out.bel.size,fun e=>by have:=zq k e;have:=HD.out.bel.size;omega⟩))))
  have HQG:Hid (aj (fun k=>k=d) w wq):=hid (wL.out.step hgx (fun k hk e=>by have:=zq k e;omega));clear fD iK kE hgx zq;go_roundw
  ·refine⟨k+1,m+128,cp,some ⟨ob,0,none⟩,by omega,by simp,rfl,by have:=HM.out;omega,?_,D.Wp wO.out▸HQV.out,HQG.out⟩;have:=HQW.out;rw[dO,List.map_append];exact this
  ·simp[intOf];omega
end
end Go.Proofs.YtpajagkhmodbnaaGreat

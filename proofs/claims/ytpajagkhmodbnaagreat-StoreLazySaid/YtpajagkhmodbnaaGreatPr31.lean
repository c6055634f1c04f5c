/- Pr: texts of the store seat laid together by program: ReBack ReKit. Conditions: each theorem names its own. -/
import Derived.Test.YtpajagkhmodbnaaGreatPr30
import Derived.Test.YtpajagkhmodbnaaGreatPr28
import Derived.Test.YtpajagkhmodbnaaGreatPr24
namespace Go.Proofs.YtpajagkhmodbnaaGreat
set_option maxRecDepth 100000
set_option maxHeartbeats 6400000
open Lib(hid)
set_option linter.unusedSimpArgs false
set_option linter.unusedVariables false
section
open Go.RowKit
section
variable{W0 w w' w2:World}{A:bG}{c:Cf}{nf:Nat}{σ:St}{S:Nat->Prop}{W:Nat->List UInt8}{vl vo:Value}{EL:List Le}{EO:List Te}{K S1:Nat->Prop}{X:Nat->Prop}
theorem afI{w:World}(x:T3)(b m:Nat)(L:List Value)(hL:L[1]? = some (.int .i64 (m:Nat)))(h:Box w b L):
  Calls Tryz.prog 157 #[.agg (t3 x).toArray,.pointer (some ⟨b,0,none⟩)] w fun e w'=>e=.returned (.bool (decide (x.1=m)))/\Below w.heap.size w w':=by
 have hbb:((x.1:Int)==(m:Int))=decide (x.1=m):=by
  by_cases h:x.1=m
  ·simp[h]
  ·have h2:¬(x.1:Int)=(m:Int):=by omega
   simp[h,h2]
 have BK:decide ((x.1:Int)=(m:Int))=decide (x.1=m):=by
  by_cases h:x.1=m
  ·simp[h]
  ·have h2:¬(x.1:Int)=(m:Int):=by omega
   simp[h,h2]
 have hal:Below w.heap.size w (w.alloc (.cells (t3 x).toArray 120)):=(Below.refl _ _).alloc (Nat.le_refl _) _;have hbx:Box (w.alloc (.cells (t3 x).toArray 120)) w.heap.size (t3 x):=Box.new w (t3 x).toArray 120 rfl;have b0:=hbx.cell 0 _ rfl;have bl:=hbx.lt;have b2:=(h.below hal (Nat.le_refl _)).cell 1 _ hL;have ZY:=(h.below hal (Nat.le_refl _)).lt;simp only[t3]at b0 b2 bl ZY hal⊢;have HA:=hid hal;clear hal hbx h;go_enter Tryz.func157,Tryz.ntmps157;go_wp2_with fail;go_ret;exact⟨by first|rfl|rw[hbb];rfl|rw[BK];rfl,HA.out⟩
theorem acr(T:List T3)(n m b:Nat)(L:List Value)(hL:L[1]? = some (.int .i64 (m:Nat)))(w:World)(h:Box w b L)(hl:T.length=n)(hn:n<=1099511627776)(ao:Option Addr)(cp:Nat)(hv:Reads 3 w (.slice ao n cp) n (fB T)):
  Calls Tryz.prog 156 #[.slice ao n cp,.func (.func 157) #[] #[.pointer (some ⟨b,0,none⟩)]] w fun e w'=>e=.returned (.int .i64 (jh (T.findIdx? fun x=>decide (x.1=m))))/\Below w.heap.size w w':=
 Vk T n 157 #[.pointer (some ⟨b,0,none⟩)] (fun x=>decide (x.1=m)) (fun W=>Box W b L) (enters_of Tryz.func157 (by kernel_rfl) rfl)
  (fun W x hF=>afI x b m L hL hF) (fun W W' hF hb=>hF.below hb (Nat.le_refl _)) hl hn w h ao cp hv
def wJ(c:Cf)(σ:St)(r:Rc):St:=
 if r.kind=3 then((({ σ with io:={ σ.io with R:=σ.io.R.app r.enc },lines:=σ.lines++[(σ.io.R.tail+1,r)],aZ:=σ.aZ+1 }:St).apply c r (σ.io.R.tail+1)).2)
 else { σ with io:={ σ.io with R:=σ.io.R.app r.enc },lines:=σ.lines++[(σ.io.R.tail+1,r)] }
theorem afJ(h:aP W0 w A c σ vl vo EL EO K S1)(T:List T3)(nT gT cT:Nat)(hT:w.ownsRow W0.heap.size 120 3 (.slice (some ⟨gT,0,none⟩) nT cT) nT (fB T))(hTl:T.length=nT)(hTd:¬aO S1 vl vo EO K gT)(hTn:nT<=1000000)
  (r:Rc) (hr:r.small) (hrb:r.before=[]) (hk:r.kind=3\/r.kind=6) (aa:Option Addr) (na ca:Nat) (hna:r.after.length=na) (Kn:Nat->Prop) (hra:bH w Kn r.after (.slice aa na ca)) (kn:∀k,Kn k->W0.heap.size<=k/\k<w.heap.size) (kd:∀k,Kn k->¬S1 k/\¬dS vl k/\¬bZ vo EO k) (kT:¬Kn gT)
  (q a b st:Nat) (hq:T.findIdx? (fun x=>decide (x.1=r.aV))=some q) (hx:T[q]? = some (a,b,st)) (hb:b<=1099511627776) (hp:r.page<c.pg) (ho:r.off+na<=504)
  (hroom:r.size<=σ.io.R.room c.n) (ht:σ.io.R.tail+r.size<=1099511627775) (hl:EL.length<=1000000) (hwr:σ.p.wr+2<=1000000000) (hu:σ.aZ<=1099511627776):
  Calls Tryz.prog 120 #[.pointer (some ⟨A.sb,0,none⟩),.agg (recC r none aa 0 0 na ca),.slice (some ⟨gT,0,none⟩) nT cT] w fun er w'=>er=.returned (.int .i64 0)/\∃(gJ:Value)(aT:Nat->Prop),
   aP W0 w' A c (wJ c σ { r with prev:=b }) gJ vo (EL++[⟨σ.io.R.tail+1,{ r with prev:=b },.slice none 0 0,.slice aa na ca⟩]) EO (fun k=>K k\/Kn k) aT/\
   w'.ownsRow W0.heap.size 120 3 (.slice (some ⟨gT,0,none⟩) nT cT) nT (fB (T.set q (a,σ.io.R.tail+1,st)))/\
   aj (fun k=>(S1 k\/dS vl k)\/k=gT) w w'/\(∀k,aO aT gJ vo EO (fun k=>K k\/Kn k) k->aO S1 vl vo EO K k\/Kn k\/w.heap.size<=k):=by
 have hal:Below w.heap.size w (w.alloc (.cells (recC r none aa 0 0 na ca) 85)):=(Below.refl _ _).alloc (Nat.le_refl _) _;have hbx:=Box.new w (recC r none aa 0 0 na ca) 85 rfl;have hs1:=h.below hal;have hT1:=own_below hT hal (fun q e=>(hT.lt q e).2);have Bh:=hra.grow (aC hal) (fun _ _ h=>h);obtain⟨t4,Am⟩:∃x,w.heap.size=x:=⟨_,rfl⟩
 rw[Am]at hbx;have CW:Hid (¬aO S1 vl vo EO K t4):=hid (fun hs=>by have:=(h.lt t4 hs).2;omega);have HNT:Hid (gT≠t4):=hid (by have:=(hT.lt gT rfl).2;omega);have zK:Hid (S1 A.sb):=hid h.pG;have aqv:Hid (W0.heap.size<=t4):=hid (by have:=h.bel.size;omega);have RZ:Hid (gT<t4):=hid (by have:=(hT.lt gT rfl).2;omega);have jH:Hid (∀k,aO S1 vl vo EO K k->k<t4):=hid (fun k hk=>by have:=(h.lt k hk).2;omega);obtain⟨w1,hw1⟩:∃x,w.alloc (.cells (recC r none aa 0 0 na ca) 85)=x:=⟨_,rfl⟩
 rw[hw1]at hbx hs1 hT1 Bh hal;have ji:=hid hal;have gY:=hid hs1;have HT1:=hid hT1;have qg:=hid Bh;have iC:=hid hbx;have AO:=hid kn;have HKD:=hid kd;have HKT:=hid kT;have HTD:=hid hTd;have HX:=hid hx;have HQ:=hid hq;have U7:=hid hTl;have HR:=hid hr;have fK:=hid hrb;have HK:=hid hk;have rD:=hid hna;have U0:=hid hroom;have oG:=hid ht;have HL:=hid hl;have nK:=hid hwr;have HP:=hid hp;have HO:=hid ho;have HU:=hid hu;have HW1:=hid hw1;have hcall:=acr T nT r.aV t4 _ rfl w1 hbx hTl (by omega) (some ⟨gT,0,none⟩) cT (Reads.aY hT1);have HC:=hid hcall;have hjl:q<nT:=by have:=(List.getElem?_eq_some_iff.1 hx).1;omega
 clear h hT hra kn kd kT hTd hx hq hTl hr hrb hk hna hroom ht hl hwr hp ho hu hal hs1 hT1 Bh hbx hcall hw1;go_enter Tryz.func120,Tryz.ntmps120;unfold recC at HW1;unfold recC;go_wp2_with fail
 try rw[Am]
 try rw[HW1.out]
 refine HC.out.mono ?_;rintro er w3 ⟨rfl,hb3⟩;rw[HQ.out];have RP:jh (some q)=(q:Int):=rfl;rw[RP];have Aw:=hid (gY.out.below hb3);have HT3:=hid (own_below HT1.out hb3 (fun q e=>(HT1.out.lt q e).2));have HB3:=hid (iC.out.below hb3 (Nat.le_refl _));have aj3:=hid (qg.out.grow (aC hb3) (fun _ _ h=>h));have wL:=hid (ji.out.trans (hb3.mono ji.out.size));have c1:=dh HT3.out _ _ (qp T q _ HX.out 1 (by omega) _ rfl);rw[Addr.add_lit,Nat.zero_add]at c1;have hgl:=(HT3.out.lt gT rfl).2;have z2:=HB3.out.cell 2 _ rfl;have Qw:=HB3.out.free;have IL:=HB3.out.lt;clear hb3 HC gY HT1 iC qg RP;go_upto_region 3 with (fail);have hb4:=HB3.out.setCell 2 (.int .i64 (b:Nat));obtain⟨w4,hw4⟩:∃x,w3.setCell ⟨t4,2,none⟩ (.int .i64 (b:Nat))=x:=⟨_,rfl⟩
 have hg4:=aF w3 t4 2 (.int .i64 (b:Nat));rw[hw4]at hb4 hg4
 try rw[hw4]
 have aqw:w3.heap.size<=w4.heap.size:=hg4.size;have hs4:aP W0 w4 A c σ vl vo EL EO K S1:=Aw.out.own hg4 CW.out (by have:=ji.out.size;have:=Aw.out.bel.size;have:=aqv.out;omega);have iD:=hid hs4;have HT4:=hid (aI HT3.out hg4 (fun q e=>by injection e with e;exact fun e2=>HNT.out (e.trans e2)));have acs:=aj3.out.grow hg4 (fun k hk e=>by have:=(AO.out k hk).2;omega);have HB4:Hid (Box w4 t4 [.int .i64 (r.kind:Nat),.int .i64 (r.aV:Nat),.int .i64 (b:Nat),.int .i64 (r.next:Nat),.int .i64 (r.page:Nat),.int .i64 (r.off:Nat),.slice none 0 0,.slice aa na ca,.slice none 0 0,.slice none 0 0,.int .i64 (r.count:Nat)]):=hid hb4;have Cj:Hid (aj (fun k=>(S1 k\/dS vl k)\/k=gT) w w4):=hid (((aC wL.out:aj (fun _=>False) w w3).mono (Y:=fun k=>(S1 k\/dS vl k)\/k=gT) (fun _ h=>h.elim)).step hg4 (fun q hq e=>by omega));have hsm:Rc.small { r with prev:=b }:=⟨HR.out.kind,HR.out.aV,by show b<=_;omega,HR.out.next,HR.out.page,HR.out.off,HR.out.count,HR.out.b,HR.out.a,HR.out.t,HR.out.d⟩
 have jB:=IE hs4 { r with prev:=b } hsm none aa 0 0 na ca (by show r.before.length=0;rw[fK.out];rfl) rD.out (by show Reads 1 w4 _ 0 (r.before.map B);rw[fK.out];exact⟨none,0,rfl,rfl,Nat.le_refl _,fun h=>absurd h (Nat.lt_irrefl _)⟩) (by have:=acs.1;rw[rD.out]at this;exact this) U0.out oG.out (by have:=HL.out;omega) Kn (fun q e=>by cases e) acs.2 (fun k hk=>⟨(AO.out k hk).1,by have:=(AO.out k hk).2;have:=Cj.out.size;omega⟩)
  (fun k h1 h2=>(HKD.out k h1).1 h2) (fun k h1 h2=>(HKD.out k h1).2.1 h2) (fun k h1 h2=>(HKD.out k h1).2.2 h2)
 have xM:=hid jB;have r0:=HB4.out.cell 0 _ rfl;have r1:=HB4.out.cell 1 _ rfl;have r2:=HB4.out.cell 2 _ rfl;have r3:=HB4.out.cell 3 _ rfl;have r4:=HB4.out.cell 4 _ rfl;have r5:=HB4.out.cell 5 _ rfl;have r6:=HB4.out.cell 6 _ rfl;have r7:=HB4.out.cell 7 _ rfl;have r8:=HB4.out.cell 8 _ rfl;have r9:=HB4.out.cell 9 _ rfl;have r10:=HB4.out.cell 10 _ rfl;have yw:=HB4.out.lt;clear hb4 hw4 aqw hs4 acs hsm jB hg4 c1 hgl z2 Qw IL Aw HT3 HB3 aj3;go_wp2_with fail;refine xM.out.mono ?_;rintro er y8 ⟨yD,S8,rfl,hs8,rF,vK,FX⟩;have WH:=Cj.out.size;have CG:Hid (∀k,aO S8 yD vo EO (fun k=>K k\/Kn k) k->aO S1 vl vo EO K k\/Kn k\/w.heap.size<=k):=hid (fun k hk=>by
  rcases hk with hk|hk|hk|hk|hk
  ·exact(vK k hk).elim (fun h=>.inl (.inl h)) (fun h=>.inr (.inr (by omega)))
  ·exact(FX k hk).elim (fun h=>.inl (.inr (.inl h))) (fun h=>.inr (.inr (by omega)))
  ·exact .inl (.inr (.inr (.inl hk)))
  ·exact .inl (.inr (.inr (.inr hk)))
  ·exact .inr (.inl hk))
 have acu:Hid (¬aO S8 yD vo EO (fun k=>K k\/Kn k) gT):=hid (fun hs=>by
  rcases CG.out _ hs with h|h|h
  ·exact HTD.out h
  ·exact HKT.out h
  ·have:=(HT4.out.lt gT rfl).2;have:=RZ.out;omega)
 have Jc:=hid (aI HT4.out rF (fun q e=>by injection e with e;subst e;exact fun h2=>HTD.out (h2.elim .inl (fun h=>.inr (.inl h)))));have FM:=hid (HB4.out.aH rF (fun h=>CW.out (h.elim .inl (fun h=>.inr (.inl h)))));have FW:=hid (Cj.out.step rF (fun q hq h=>.inl h));obtain⟨tl,htl⟩:∃x,σ.io.R.tail=x:=⟨_,rfl⟩
 rw[htl]at hs8⊢;have En:=hid htl;have l9:=hid hs8;have Aq:Hid (∀k,S8 k->S1 k\/w.heap.size<=k):=hid (fun k hk=>(vK k hk).imp id (fun h=>by omega));have htb:tl<=1099511627775:=by have:=oG.out;omega
 have c1:=dh Jc.out _ _ (qp T q _ HX.out 1 (by omega) _ rfl);rw[Addr.add_lit,Nat.zero_add]at c1;have hgl:=(Jc.out.lt gT rfl).2;have hfz:=mJ Jc.out rfl (q*3+1);clear hs8 rF vK FX htl r0 r1 r2 r3 r4 r5 r6 r7 r8 r9 r10 yw WH xM iD HT4 HB4 Cj;go_upto_region 7 with (fail);rw[show(Value.int .i64 ((tl:Int)+1))=Value.int .i64 ((tl+1:Nat):Int)from rfl];have hT9:=qW Jc.out rfl (q*3+1) (by omega) (.int .i64 ((tl+1:Nat):Int));rw[Fg T q a b st a (tl+1) st HX.out 1 (by omega) _ rfl]at hT9;have pK:=aF y8 gT (q*3+1) (.int .i64 ((tl+1:Nat):Int));have hs9:=l9.out.own pK acu.out (Jc.out.lt gT rfl).1;have IV:=FM.out.aH pK (fun e=>HNT.out e.symm);have Au:=hid (FW.out.step pK (fun q _ e=>.inr e));have HT9:=hid hT9;have pW:=hid hs9;have Si:=hid IV;clear hT9 pK hs9 IV c1 hgl hfz Jc FM l9 FW;generalize y8.setCell ⟨gT,q*3+1,none⟩ (.int .i64 ((tl+1:Nat):Int))=y9 at *;have z0:=Si.out.cell 0 _ rfl;have IL:=Si.out.lt;by_cases hk3:r.kind=3
 ·have b1:((r.kind:Int) != 3)=false:=by rw[hk3];rfl
  have b2:((r.kind:Int)==3)=true:=by rw[hk3];rfl
  have b3:decide ((r.kind:Int)=3)=true:=by rw[hk3];rfl
  have b4:decide (¬(r.kind:Int)=3)=false:=by rw[hk3];rfl
  have Uw:=hid hk3;obtain⟨un,hun⟩:∃x,σ.aZ=x:=⟨_,rfl⟩
  have auR:un<=1099511627776:=by rw[<-hun];exact HU.out
  have AP:=pW.out.bC;unfold qj at AP;simp only[hun]at AP;have c11:=AP.cell 11 _ rfl;have cfz:=AP.free;have bU:=AP.lt;have yI:=hid hun;clear hk3 hun AP;go_upto_region 10 with (fail);obtain⟨xW,hs10,Ej⟩:=pW.out.xq (σ':={ σ with io:={ σ.io with R:=σ.io.R.app (Rc.enc { r with prev:=b }) },lines:=σ.lines++[(tl+1,{ r with prev:=b })],aZ:=un+1 }) 11 (by decide) (.int .i64 ((un:Int)+1)) (by unfold qj;rw[<-yI.out];rfl) rfl rfl rfl rfl;have aj7:S8 A.sb:=pW.out.pG;have XV:=aF y9 A.sb 11 (.int .i64 ((un:Int)+1));have aqx:=hid (aI HT9.out XV (fun q e=>by injection e with e;subst e;exact fun(e2:gT=A.sb)=>acu.out (.inl (by rw[e2];exact aj7))));have uM:=Si.out.aH XV (fun e=>CW.out (.inl (e▸zK.out)));have aeE:∀k,xW k->S8 k\/w.heap.size<=k:=fun k hk=>(Ej.new k hk).imp id (fun h=>by have:=Au.out.size;omega);have Kq:=hid aeE;have aj8:=hid (Au.out.step XV (fun q hq e=>.inl (.inl (e▸zK.out))));have eH:=(hs10.ln.tb _ (List.mem_append_right _ (List.mem_singleton_self _))).2;have happ:=GR hs10 { r with prev:=b } none aa 0 0 na ca rD.out (by have:=eH.1;rw[show({ r with prev:=b }:Rc).after.length=na from rD.out]at this;exact this) (fun q e1=>⟨fun h=>hs10.k1 q (eH.2 q e1) h,(hs10.kin q (eH.2 q e1)).2⟩) HP.out HO.out (tl+1) (by omega) (by omega) nK.out;have QN:=hid happ;have r0:=uM.cell 0 _ rfl;have r1:=uM.cell 1 _ rfl;have r2:=uM.cell 2 _ rfl;have r3:=uM.cell 3 _ rfl;have r4:=uM.cell 4 _ rfl;have r5:=uM.cell 5 _ rfl;have r6:=uM.cell 6 _ rfl;have r7:=uM.cell 7 _ rfl;have r8:=uM.cell 8 _ rfl;have r9:=uM.cell 9 _ rfl;have r10:=uM.cell 10 _ rfl;have yw:=uM.lt;have aqy:Hid (¬xW gT):=hid (fun hs=>(Ej.new _ hs).elim (fun h=>acu.out (.inl h)) (fun h=>by have:=(HT9.out.lt gT rfl).2;omega));clear hs10 Ej aj7 XV uM aeE eH happ c11 cfz bU z0 IL HT9 Si pW Au;generalize y9.setCell ⟨A.sb,11,none⟩ (.int .i64 ((un:Int)+1))=IW at *;go_wp2_with fail
  refine QN.out.mono ?_;rintro er CB ⟨Vx,rfl,hs11,zV⟩;have hbk:wJ c σ { r with prev:=b }=(({ σ with io:={ σ.io with R:=σ.io.R.app (Rc.enc { r with prev:=b }) },lines:=σ.lines++[(tl+1,{ r with prev:=b })],aZ:=un+1 }:St).apply c { r with prev:=b } (tl+1)).2:=by
   unfold wJ;rw[if_pos (show({ r with prev:=b }:Rc).kind=3 from Uw.out),En.out,yI.out]
  rw[<-hbk]at hs11;have DU:=hid hs11;have aqz:=hid (aI aqx.out zV.grow (fun q e=>by injection e with e;subst e;exact aqy.out));have Qv:=hid (aj8.out.step zV.grow (fun q hq h=>(Kq.out q h).elim (fun h8=>(Aq.out q h8).elim (fun h=>.inl (.inl h)) (fun h=>by omega)) (fun h=>by omega)));have Eo:Hid (∀k,Vx k->S8 k\/w.heap.size<=k):=hid (fun k hk=>(zV.new k hk).elim (Kq.out k) (fun h=>.inr (by have:=aj8.out.size;omega)));clear hs11 zV hbk r0 r1 r2 r3 r4 r5 r6 r7 r8 r9 r10 yw;go_wp2_with fail;go_ret;refine⟨rfl,yD,Vx,?_,?_,Qv.out,fun k hk=>?_⟩
  ·rw[En.out];exact DU.out
  ·rw[En.out];exact aqz.out
  ·try rw[<-Am]
   rcases hk with hk|hk
   ·exact(Eo.out k hk).elim (fun h=>CG.out k (.inl h)) (fun h=>.inr (.inr h))
   ·exact CG.out k (.inr hk)
 ·have b1:((r.kind:Int) != 3)=true:=by simpa using (by omega:¬(r.kind:Int)=3)
  have b2:((r.kind:Int)==3)=false:=by simpa using (by omega:¬(r.kind:Int)=3)
  have b3:decide ((r.kind:Int)=3)=false:=by simpa using (by omega:¬(r.kind:Int)=3)
  have b4:decide (¬(r.kind:Int)=3)=true:=by simpa using (by omega:¬(r.kind:Int)=3)
  have hbk:wJ c σ { r with prev:=b }={ σ with io:={ σ.io with R:=σ.io.R.app (Rc.enc { r with prev:=b }) },lines:=σ.lines++[(tl+1,{ r with prev:=b })] }:=by
   unfold wJ;rw[if_neg (show ¬({ r with prev:=b }:Rc).kind=3 from hk3),En.out]
  have OI:=hid hbk;clear hbk;go_wp2_with fail;go_ret;refine⟨rfl,yD,S8,?_,?_,Au.out,fun k hk=>by have h5:=CG.out k hk;rw[Am]at h5;exact h5⟩
  ·rw[En.out,OI.out];exact pW.out
  ·rw[En.out];exact HT9.out
end
end
section
open Go.RowKit
theorem LY(w:World)(T:TypeId)(K:Nat):(w.alloc (.cells #[] T)).ownsRow w.heap.size T K (.slice (some ⟨w.heap.size,0,none⟩) 0 0) 0 []:=
 ⟨by simp,.inr ⟨w.heap.size,0,#[],rfl,Nat.le_refl _,heap_alloc_new w _,Nat.le_refl _,Nat.zero_le _,by simp,by simp⟩⟩
theorem afK(T:List T3)(n:Nat)(hl:T.length=n)(hn:0<n)(hn2:n<=1000000)(v:Value)(w:World)(hv:Reads 3 w v n (fB T)):
  Calls Tryz.prog 72 #[v] w fun e w'=>∃g c,e=.returned (.slice (some ⟨g,0,none⟩) n c)/\w'.ownsRow w.heap.size 120 3 (.slice (some ⟨g,0,none⟩) n c) n (fB T)/\Below w.heap.size w w':=by
 obtain⟨ao,cp,rfl,hlm,hc,hr⟩:=hv;obtain⟨b,o,rfl,hb,hcell⟩:=hr hn;have hal:Below w.heap.size w (w.alloc (.cells #[] 120)):=(Below.refl _ _).alloc (Nat.le_refl _) _;have HA:=hid hal;have HR:Hid (Reads 3 (w.alloc (.cells #[] 120)) (.slice (some ⟨b,o,none⟩) n cp) n (fB T)):=hid (Reads.below (w:=w) ⟨_,_,rfl,hlm,hc,fun _=>⟨b,o,rfl,hb,hcell⟩⟩ hal (Nat.le_refl _));have HO:=hid (LY w 120 3);have h1c:∀u∈fB T,u.oneCell'=true:=by
  intro u hu;unfold fB at hu;obtain⟨x,_,hx⟩:=List.mem_flatMap.1 hu;unfold t3 at hx;simp only[List.mem_cons,List.not_mem_nil,or_false]at hx;rcases hx with rfl|rfl|rfl<;>rfl
 have H1:=hid h1c;clear hl hlm hr hcell hal hb h1c;have hnil:=fun w':World=>AY (P:=Tryz.prog) w' 76 120 ⟨b,o,none⟩ n cp Tryz.underlying76;go_enter Tryz.func72,Tryz.ntmps72;go_wp2_with (at_builtin;refine bI yL (.tmp 5) (.tmp 6) rfl rfl rfl HO.out rfl HR.out H1.out (by omega) (by omega) (by simp) ?_;intro a1 c1 w3 ho hg hn3);go_ret;rw[Nat.zero_add,List.nil_append]at ho;obtain⟨g,c9,e9,_,_⟩:=dV ho hn;injection e9 with e1 _ e3;subst e1;have hs:=HA.out.size;exact⟨g,c1,rfl,ho,HA.out.trans (hg.below (B:=w.heap.size) (fun k hk=>⟨Nat.lt_of_lt_of_le hk hs,fun e=>by injection e with e;exact absurd (show w.heap.size=k from e) (by omega)⟩))⟩
theorem afL(w:World)(a:Option Addr)(c:Nat):Calls Tryz.prog 72 #[.slice a 0 c] w fun e w'=>∃a' c',e=.returned (.slice a' 0 c')/\Below w.heap.size w w'/\∀q,(Value.slice a' 0 c').ownBlock=some q->w.heap.size<=q/\q<w'.heap.size:=by
 rcases a with _|a
 ·have hnil:=fun w':World=>Ac (P:=Tryz.prog) w' 76 120 none 0 c Tryz.underlying76;go_enter Tryz.func72,Tryz.ntmps72;go_wp2_with fail;go_ret;exact⟨none,0,rfl,Below.refl _ _,fun q e=>by cases e⟩
 ·have hal:Below w.heap.size w (w.alloc (.cells #[] 120)):=(Below.refl _ _).alloc (Nat.le_refl _) _;have HA:=hid hal;have HR:Hid (Reads 3 (w.alloc (.cells #[] 120)) (.slice (some a) 0 c) 0 []):=hid ⟨_,_,rfl,rfl,Nat.zero_le _,fun h=>absurd h (Nat.lt_irrefl _)⟩;have HO:=hid (LY w 120 3);clear hal;have hnil:=fun w':World=>AY (P:=Tryz.prog) w' 76 120 a 0 c Tryz.underlying76;go_enter Tryz.func72,Tryz.ntmps72;go_wp2_with (at_builtin;refine bI yL (.tmp 5) (.tmp 6) rfl rfl rfl HO.out rfl HR.out (fun u hu=>by cases hu) (by omega) (by omega) (by simp) ?_;intro a1 c1 w3 ho hg hn3);go_ret;have hs:=HA.out.size;exact⟨a1,c1,rfl,HA.out.trans (hg.below (B:=w.heap.size) (fun k hk=>⟨Nat.lt_of_lt_of_le hk hs,fun e=>by injection e with e;exact absurd (show w.heap.size=k from e) (by omega)⟩)),fun q e=>ho.lt q e⟩
theorem afM(T:List T3)(hn2:T.length<=1000000)(v:Value)(w:World)(hv:Reads 3 w v T.length (fB T)):
  Calls Tryz.prog 72 #[v] w fun e w'=>∃vT,e=.returned vT/\Below w.heap.size w w'/\(T≠[]->∃g c,vT=.slice (some ⟨g,0,none⟩) T.length c/\w'.ownsRow w.heap.size 120 3 vT T.length (fB T))/\∀q,vT.ownBlock=some q->w.heap.size<=q/\q<w'.heap.size:=by
 by_cases h:T=[]
 ·subst h;obtain⟨a,c,rfl⟩:=Reads.shape hv;refine(afL w a c).mono ?_;rintro e w' ⟨a',c',rfl,h1,h2⟩;exact⟨_,rfl,h1,fun h=>absurd rfl h,h2⟩
 ·refine(afK T T.length rfl (List.length_pos_iff.2 h) hn2 v w hv).mono ?_;rintro e w' ⟨g,c,rfl,h1,h2⟩;exact⟨_,rfl,h2,fun _=>⟨g,c,rfl,h1⟩,fun q e=>h1.lt q e⟩
theorem fG.XW{c:Cf}{nf:Nat}{σ:St}{W:Nat->List UInt8}(hc:c.ok)(h:fG c nf σ W)(r:Rc)(hp:r.page<c.pg)(ho:r.off+r.after.length<=504)(l:Nat)(hl:1<=l):jy σ (σ.apply c r l).2 2:=by
 obtain⟨V,hV,hW⟩:=h;rw[St.Bo σ c r l hp];have g1:=(σ.iV c r.page hp).2;obtain⟨_,g2,g3⟩:=hV.get hc hp;have hlen:(aX (aX (σ.get c r.page).2.1 0 (aJ l)) (8+r.off) r.after).length=512:=by
  have h1:=hV.inv.len r.page hp;rw[g2];have e1:(aX (V r.page) 0 (aJ l)).length=512:=by rw[dK _ _ _ (Nat.zero_le _),h1]
  rw[dK _ _ _ (by rw[e1];omega),e1]
 exact g1.trans ((σ.get c r.page).2.2.xY c r.page hp _ hlen l hl).2
def yS(W:Nat->List UInt8)(rs:List Rc):Nat->List UInt8:=rs.foldl (fun W r=>if r.kind=3 then fF W r.page (aX (W r.page) r.off r.after)else W) W
structure sV(c:Cf)(nf:Nat)(σ0 σ:St)(W:Nat->List UInt8)(rs:List Rc):Prop where
 base:σ.io.R.base=σ0.io.R.base
 start:σ.io.R.start=σ0.io.R.start
 tail:σ.io.R.tail=σ0.io.R.tail+dR rs
 lines:∃ls,σ.lines=σ0.lines++ls/\ls.length=rs.length/\∀x∈ls,x.1<=σ.io.R.tail
 opn:σ.opn=σ0.opn
 master:σ.master=σ0.master
 next:σ.next=σ0.next
 commits:σ.commits=σ0.commits
 aW:σ.aW=σ0.aW
 aZ:σ.aZ=σ0.aZ+(rs.filter fun r=>decide (r.kind=3)).length
 wr:σ.p.wr<=σ0.p.wr+2*rs.length
 sd:fG c nf σ (yS W rs)
theorem sV.refl{c:Cf}{nf:Nat}{σ:St}{W:Nat->List UInt8}(h:fG c nf σ W):sV c nf σ σ W []:=
 ⟨rfl,rfl,rfl,⟨[],by simp,rfl,fun x hx=>by cases hx⟩,rfl,rfl,rfl,rfl,rfl,rfl,Nat.le_refl _,h⟩
theorem sV.room{c:Cf}{nf:Nat}{σ0 σ:St}{W:Nat->List UInt8}{rs:List Rc}(h:sV c nf σ0 σ W rs)(n:Nat):σ.io.R.room n=σ0.io.R.room n-dR rs:=by
 unfold Rg.room;rw[h.start,h.tail];omega
theorem sV.step{c:Cf}{nf:Nat}{σ0 σ:St}{W:Nat->List UInt8}{rs:List Rc}(hc:c.ok)(h:sV c nf σ0 σ W rs)(r:Rc)(b:Nat)(ht:r.lQ=[]/\r.dirty=[])(hp:r.page<c.pg)(ho:r.off+r.after.length<=504):
  sV c nf σ0 (wJ c σ { r with prev:=b }) W (rs++[r]):=by
 have hel:(Rc.enc { r with prev:=b }).length=r.size:=by rw[oZ { r with prev:=b } ht.1 ht.2];rfl
 have auS:96<=r.size:=by unfold Rc.size;omega
 obtain⟨ls,l1,l2,l3⟩:=h.lines;have hta:(σ.io.R.app (Rc.enc { r with prev:=b })).tail=σ.io.R.tail+r.size:=by rw[qN,hel]
 have hun:yS W (rs++[r])=if r.kind=3 then fF (yS W rs) r.page (aX (yS W rs r.page) r.off r.after)else yS W rs:=by
  unfold yS;rw[List.foldl_append];rfl
 by_cases hk:r.kind=3
 ·have hf:((rs++[r]).filter fun r=>decide (r.kind=3)).length=(rs.filter fun r=>decide (r.kind=3)).length+1:=by
   rw[List.filter_append,List.length_append];simp[hk]
  have hsd:fG c nf ({ σ with io:={ σ.io with R:=σ.io.R.app (Rc.enc { r with prev:=b }) },lines:=σ.lines++[(σ.io.R.tail+1,{ r with prev:=b })],aZ:=σ.aZ+1 }:St) (yS W rs):=h.sd.congr rfl rfl;obtain⟨a1,a2⟩:=hsd.apply hc { r with prev:=b } hp ho (σ.io.R.tail+1) (by omega);have e:wJ c σ { r with prev:=b }=(({ σ with io:={ σ.io with R:=σ.io.R.app (Rc.enc { r with prev:=b }) },lines:=σ.lines++[(σ.io.R.tail+1,{ r with prev:=b })],aZ:=σ.aZ+1 }:St).apply c { r with prev:=b } (σ.io.R.tail+1)).2:=by
   unfold wJ;rw[if_pos (show({ r with prev:=b }:Rc).kind=3 from hk)]
  rw[e];have hss:=hsd.XW hc { r with prev:=b } hp ho (σ.io.R.tail+1) (by omega);generalize (({ σ with io:={ σ.io with R:=σ.io.R.app (Rc.enc { r with prev:=b }) },lines:=σ.lines++[(σ.io.R.tail+1,{ r with prev:=b })],aZ:=σ.aZ+1 }:St).apply c { r with prev:=b } (σ.io.R.tail+1)).2=σ9 at *;have htl:σ9.io.R.tail=σ.io.R.tail+r.size:=hss.R.tail.trans hta;refine⟨hss.R.1.trans h.base,hss.R.2.2.trans h.start,?_,⟨ls++[(σ.io.R.tail+1,{ r with prev:=b })],?_,?_,?_⟩,hss.opn.trans h.opn,hss.master.trans h.master,hss.next.trans h.next,hss.commits.trans h.commits,hss.aW.trans h.aW,?_,?_,?_⟩
  ·rw[htl,h.tail,Ea];omega
  ·rw[hss.lines,<-List.append_assoc,<-l1]
  ·rw[List.length_append,List.length_append,l2];rfl
  ·intro x hx;rw[htl];rcases List.mem_append.1 hx with hx|hx
   ·have:=l3 x hx;omega
   ·rw[List.mem_singleton.1 hx];show σ.io.R.tail+1<=_;omega
  ·rw[hss.aZ,hf];have:=h.aZ;show σ.aZ+1=_;omega
  ·have h1:=hss.wr;have h2:=h.wr;rw[List.length_append];show σ9.p.wr<=σ0.p.wr+2*(rs.length+1);have h3:σ9.p.wr<=σ.p.wr+2:=h1;omega
  ·rw[hun,if_pos hk];exact a2
 ·have hf:((rs++[r]).filter fun r=>decide (r.kind=3)).length=(rs.filter fun r=>decide (r.kind=3)).length:=by
   rw[List.filter_append,List.length_append];simp[hk]
  have e:wJ c σ { r with prev:=b }={ σ with io:={ σ.io with R:=σ.io.R.app (Rc.enc { r with prev:=b }) },lines:=σ.lines++[(σ.io.R.tail+1,{ r with prev:=b })] }:=by
   unfold wJ;rw[if_neg (show ¬({ r with prev:=b }:Rc).kind=3 from hk)]
  rw[e];refine⟨h.base,h.start,?_,⟨ls++[(σ.io.R.tail+1,{ r with prev:=b })],?_,?_,?_⟩,h.opn,h.master,h.next,h.commits,h.aW,?_,?_,?_⟩
  ·show(σ.io.R.app _).tail=_;rw[hta,h.tail,Ea];omega
  ·show σ.lines++_=_;rw[<-List.append_assoc,<-l1]
  ·rw[List.length_append,List.length_append,l2];rfl
  ·intro x hx;show x.1<=(σ.io.R.app _).tail;rw[hta];rcases List.mem_append.1 hx with hx|hx
   ·have:=l3 x hx;omega
   ·rw[List.mem_singleton.1 hx];show σ.io.R.tail+1<=_;omega
  ·rw[hf];exact h.aZ
  ·have h2:=h.wr;rw[List.length_append];show σ.p.wr<=_;omega
  ·rw[hun,if_neg hk];exact h.sd.congr rfl rfl
end
end Go.Proofs.YtpajagkhmodbnaaGreat

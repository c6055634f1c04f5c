/- Pr: texts of the store seat laid together by program: ReRing ReMas. Conditions: each theorem names its own. -/
import Derived.Test.YtpajagkhmodbnaaGreatPr36
import Derived.Test.YtpajagkhmodbnaaGreatPr27
import Derived.Test.YtpajagkhmodbnaaGreatPr17
import Derived.Test.YtpajagkhmodbnaaGreatPr21
namespace Go.Proofs.YtpajagkhmodbnaaGreat
set_option maxRecDepth 100000
set_option maxHeartbeats 12800000
open Lib(hid)
set_option linter.unusedSimpArgs false
set_option linter.unusedVariables false
section
open Go.RowKit
theorem aau(R:Rg)(k:Nat)(hb:R.base=0)(hk:k*118<R.bytes.length):
  (R.sec k).take 8=aJ (k+1)/\(∃x8 x9,(R.sec k)[8]? = some x8/\(R.sec k)[9]? = some x9/\x8.toNat*256+x9.toNat=min 118 (R.bytes.length-k*118))/\((R.sec k).drop 10).take (min 118 (R.bytes.length-k*118))=(R.bytes.drop (k*118)).take (min 118 (R.bytes.length-k*118)):=by
 have e:R.sec k=aJ (k+1)++(UInt8.ofNat (min 118 (R.bytes.length-k*118) / 256)::UInt8.ofNat (min 118 (R.bytes.length-k*118))::((R.bytes.drop (k*118)).take (min 118 (R.bytes.length-k*118))++List.replicate (118-min 118 (R.bytes.length-k*118)) 0)):=by
  unfold Rg.sec;simp only[hb,Nat.sub_zero,List.append_assoc,List.cons_append,List.nil_append]
 have hl:=dL (k+1);rw[e];generalize hm:min 118 (R.bytes.length-k*118)=m;have hm1:1<=m/\m<=118:=by omega
 have hyl:((R.bytes.drop (k*118)).take m).length=m:=by rw[List.length_take,List.length_drop];omega
 have hy2:((R.bytes.drop (k*118)).take m++List.replicate (118-m) 0).take m=(R.bytes.drop (k*118)).take m:=by
  rw[List.take_append_of_le_length (by omega)];exact List.take_of_length_le (by omega)
 generalize hY:((R.bytes.drop (k*118)).take m++List.replicate (118-m) 0)=Y at hy2⊢;generalize aJ (k+1)=b at hl⊢;refine⟨by rw[<-hl];exact List.take_left,⟨UInt8.ofNat (m / 256),UInt8.ofNat m,?_,?_,?_⟩,?_⟩
 ·rw[List.getElem?_append_right (by omega),hl];rfl
 ·rw[List.getElem?_append_right (by omega),hl];rfl
 ·rw[UInt8.toNat_ofNat',UInt8.toNat_ofNat'];omega
 ·have hd:(b++(UInt8.ofNat (m / 256)::UInt8.ofNat m::Y)).drop 10=Y:=by
   rw[List.drop_append,hl,List.drop_eq_nil_of_le (by omega)];rfl
  rw[hd,hy2]
def Eu(r d n cv m ct G G0:Nat)(av:Option Addr)(vb:Value)(LB:List Value)(j b o:Nat):Prop:=(j=8/\vb.ownBlock=some b)
def sZ(r d n cv m ct G G0:Nat)(av:Option Addr)(vb:Value)(LB:List Value)(i:Nat)(v:Value)(lo hi:Nat)(w:World):Prop:=
 match i with
 | 0=>v=.pointer (some ⟨r,0,none⟩)
 | 1=>v=.pointer (some ⟨r,0,none⟩)
 | 2=>v=.pointer (some ⟨r,0,none⟩)
 | 3=>v=.pointer (some ⟨r,4,none⟩)
 | 4=>v=vb
 | 5=>v=.slice av 118 cv
 | 6=>v=.int .i64 ((ct:Nat):Int)
 | 7=>v=.slice (bY av 0 cv 1) ct cv
 | 8=>∃ao cp,v=.slice ao (m+ct) cp/\w.ownsRow G0 5 1 (.slice ao (m+ct) cp) (m+ct) LB/\∀q,(Value.slice ao (m+ct) cp).ownBlock=some q->vb.ownBlock=some q\/G<=q
 | 9=>v=.pointer (some ⟨r,0,none⟩)
 | 10=>v=.pointer (some ⟨r,4,none⟩)
 | _=>True
abbrev SS:List (List Nat):=[[],[],[1],[1,2],[1,2,3],[],[],[5,6],[1,2,3,4,5,6,7],[0,1,2,3,4,5,6,7,8],[0,1,2,3,4,5,6,7,8,9]]
theorem Ns(r d n cv m ct G G0:Nat)(av:Option Addr)(vb:Value)(LB:List Value)  : ∀i j,i<11->j<11->j≠i->j∉SS.getD i []->∀v lo hi w w',sZ r d n cv m ct G G0 av vb LB i v lo hi w->aB (Eu r d n cv m ct G G0 av vb LB j) w w'->sZ r d n cv m ct G G0 av vb LB i v lo hi w':=by
 intro i j hi hj hne hbs v lo hj2 w w' h hg
 match i,hi with
 | 0,_|1,_|2,_|3,_|4,_|5,_|6,_|7,_|9,_|10,_=>
  simp only[sZ]at h⊢;exact h
 | 8,_=>
  simp only[sZ]at h⊢;obtain⟨ao,cp,h1,h2,h3⟩:=h;exact⟨ao,cp,h1,aI h2 (aj.aK hg (Y:=fun _=>False) (fun k o h=>hne h.1)) (fun _ _ h=>h),h3⟩
 | (q+11),hq=>exact absurd hq (by omega)
def Ew(r d n cv m ct G G0:Nat)(av:Option Addr)(vb:Value)(LB:List Value)(j b o:Nat):Prop:=(j=8/\vb.ownBlock=some b)
def tq(r d n cv m ct G G0:Nat)(av:Option Addr)(vb:Value)(LB:List Value)(i:Nat)(v:Value)(lo hi:Nat)(w:World):Prop:=
 match i with
 | 0=>v=.pointer (some ⟨r,0,none⟩)
 | 1=>v=.pointer (some ⟨r,0,none⟩)
 | 2=>v=.pointer (some ⟨r,0,none⟩)
 | 3=>v=.pointer (some ⟨r,4,none⟩)
 | 4=>v=vb
 | 5=>v=.slice av 118 cv
 | 6=>v=.int .i64 0
 | 7=>v=.slice (bY av 0 cv 1) ct cv
 | 8=>∃ao cp,v=.slice ao (m+ct) cp/\w.ownsRow G0 5 1 (.slice ao (m+ct) cp) (m+ct) LB/\∀q,(Value.slice ao (m+ct) cp).ownBlock=some q->vb.ownBlock=some q\/G<=q
 | 9=>v=.pointer (some ⟨r,0,none⟩)
 | 10=>v=.pointer (some ⟨r,4,none⟩)
 | _=>True
theorem Nu(r d n cv m ct G G0:Nat)(av:Option Addr)(vb:Value)(LB:List Value)  : ∀i j,i<11->j<11->j≠i->j∉SS.getD i []->∀v lo hi w w',tq r d n cv m ct G G0 av vb LB i v lo hi w->aB (Ew r d n cv m ct G G0 av vb LB j) w w'->tq r d n cv m ct G G0 av vb LB i v lo hi w':=by
 intro i j hi hj hne hbs v lo hj2 w w' h hg
 match i,hi with
 | 0,_|1,_|2,_|3,_|4,_|5,_|6,_|7,_|9,_|10,_=>
  simp only[tq]at h⊢;exact h
 | 8,_=>
  simp only[tq]at h⊢;obtain⟨ao,cp,h1,h2,h3⟩:=h;exact⟨ao,cp,h1,aI h2 (aj.aK hg (Y:=fun _=>False) (fun k o h=>hne h.1)) (fun _ _ h=>h),h3⟩
 | (q+11),hq=>exact absurd hq (by omega)
section
variable{W0 w:World}{r d n:Nat}{D:Dv}{S:Nat->Prop}
theorem aav(h:DV W0 d D S w)(hg:D.good)(hn:2<=n)(hn2:n<=8192)(hl:2+n<=D.l.length)(L:List UInt8)(b0:Nat)(hb0:(L.length-1) / 118=b0)(hlen:1<=L.length)(hbn:b0+1<n)
  (hs1:∀k,k<=b0->D.sec (2+k)=(⟨0,L,0,0⟩:Rg).sec k) (hs2:D.sec (2+(b0+1))=dB):
  Calls Tryz.prog 79 #[.pointer (some ⟨d,0,none⟩),.int .i64 2,.int .i64 (n:Nat),.int .i64 0] w fun e w'=>∃r S' q,e=.returned (.tuple #[.pointer (some ⟨r,0,none⟩),.int .i64 0])/\dY W0 r d n ⟨D.reads q,⟨0,L,0,L.length⟩⟩ S' w'/\aG S S' w w':=by
 have HB0:=hid hb0;have HLEN:=hid hlen;have gY:=hid hs1;have HS2:=hid hs2;have tV:=hid hbn;clear hb0 hlen hs1 hs2 hbn;have hsz:=EI h;obtain⟨LN,hL⟩:∃LN,D.l.length=LN:=⟨_,rfl⟩
 rw[hL]at hl hsz;have hLb:LN<=8192:=by rw[<-hL];exact hg.ok.n
 have b1:decide ((n:Int)<2)=false:=by simp;omega
 have b2:decide ((n:Int)>8192)=false:=by simp;omega
 have b3:decide ((2:Int)>(LN:Int))=false:=by simp;omega
 have b4:decide ((n:Int)>(LN:Int)-2)=false:=by simp;omega
 have b5:decide ((8192:Int)<(n:Int))=false:=by simp;omega
 have b6:decide ((LN:Int)<2)=false:=by simp;omega
 have b7:decide ((LN:Int)-2<(n:Int))=false:=by simp;omega
 have HS:=hid hsz;have HD:=hid h;have HG:=hid hg;have HL:=hid hL;clear hsz h hg hL;go_enter Tryz.func79,Tryz.ntmps79;go_wp2_with fail;refine HS.out.mono ?_;rintro e y ⟨rfl,rfl⟩;go_wp2_with fail;refine HS.out.mono ?_;rintro e y ⟨rfl,rfl⟩;go_wp2_with fail;have hal:Below y.heap.size y (y.alloc (.cells #[.pointer (some ⟨d,0,none⟩),.int .i64 2,.int .i64 (n:Nat),.int .i64 0,.slice none 0 0,.int .i64 0,.int .i64 0,.bool false] 152)):=(Below.refl _ _).alloc (Nat.le_refl _) _;have hbx:=Box.new y #[.pointer (some ⟨d,0,none⟩),.int .i64 2,.int .i64 (n:Nat),.int .i64 0,.slice none 0 0,.int .i64 0,.int .i64 0,.bool false] 152 rfl;have hd1:=HD.out.below hal;obtain⟨r,hr⟩:∃r,y.heap.size=r:=⟨_,rfl⟩
 have Dt:¬S r:=fun hs=>by have:=(HD.out.lt r hs).2;omega
 have HR:=hid hr;rw[hr]at hbx;rw[hr];have ji:=hid hal;have iC:=hid hbx;have HD1:=hid hd1;have nP:=hid Dt;clear hal hbx hd1 Dt hr;generalize y.alloc (.cells #[.pointer (some ⟨d,0,none⟩),.int .i64 2,.int .i64 (n:Nat),.int .i64 0,.slice none 0 0,.int .i64 0,.int .i64 0,.bool false] 152)=w1 at *;go_wp2_with fail;go_loopw [12,13,14,15,16,65] (fun z12 z13 Vr z15 z16 i wq=>∃(k:Nat)(vb:Value),i=.int .i64 (k:Nat)/\(k<=b0\/(k=b0+1/\L.length=118*(b0+1)))/\Box wq r [.pointer (some ⟨d,0,none⟩),.int .i64 2,.int .i64 (n:Nat),.int .i64 0,vb,.int .i64 0,.int .i64 0,.bool false]/\wq.ownsRow y.heap.size 5 1 vb (118*k) ((L.take (118*k)).map B)/\(∀q,vb.ownBlock=some q->q≠r)/\DV W0 d (D.reads k) S wq/\aj (fun q=>q=d) y wq) (fun _ _ _ _ _ i _=>b0+2-(intOf i).toNat)
 case atStart=>exact⟨0,.slice none 0 0,rfl,.inl (Nat.zero_le _),iC.out,World.ownsRow_nil _ _ _ _,(fun q e=>by cases e),HD1.out,(aC ji.out:aj (fun _=>False) y w1).mono (fun _ h=>h.elim)⟩
 case round=>
  obtain⟨k,vb,rfl,hkb,hbx,hrow,hro,hdv,hgr⟩:=hrel;have Ey:=hid hbx;have gZ:=hid hrow;have Dw:=hid hro;have lF:=hid hdv;have vP:=hid hgr;have hkn:(k:Int)<(n:Int):=by have:=tV.out;omega
  have hkN:k<n:=by omega
  have hmod:k % n=k:=Nat.mod_eq_of_lt hkN;have auZ:k<=8192:=by omega
  clear hbx hrow hro hdv hgr;rcases hkb with hkb|⟨hkb,hex⟩
  ·have al6:k*118<L.length:=by have:=HB0.out;have:=HLEN.out;omega
   obtain⟨p1,⟨x8,x9,p8,p9,pc⟩,pt⟩:=aau ⟨0,L,0,0⟩ k rfl al6;obtain⟨ct,hct⟩:∃x,min 118 (L.length-k*118)=x:=⟨_,rfl⟩
   have aqS:1<=ct/\ct<=118:=by omega
   have akG:min 118 ((⟨0,L,0,0⟩:Rg).bytes.length-k*118)=ct:=hct;rw[akG]at pc pt;have hcall:=SN _ _ _ _ _ Ey.out lF.out nP.out (HG.out.reads k) hn hn2 (by rw[(D.kH k).1,HL.out];exact hl) k (by omega) _ (by rw[hmod,D.rJ];exact gY.out k hkb) p1 x8 x9 p8 p9 ct pc aqS;have cO:=hid hcall;have HPT:=hid pt;have UU:=hid hct;clear hcall p1 p8 p9 pc pt hct akG;have b1:decide ((ct:Int)<=0)=false:=by simp;omega
   have b2:decide (ct=0)=false:=by simp;omega
   go_wp2_with fail;refine cO.out.mono ?_;rintro e y2 ⟨v,rfl,hrd,Ad,hdv,fV⟩;obtain⟨av,cv,oh⟩:=hrd.shape;subst oh;have hcv:118<=cv:=by obtain⟨_,_,e,_,h,_⟩:=hrd;injection e with _ _ e3;omega
   have hcut:=hrd.bY 0 ct (Nat.zero_le _) (by omega);have hcx:∀X:List UInt8,((X.map B).drop (0*1)).take ((ct-0)*1)=(X.take ct).map B:=fun X=>by rw[Nat.zero_mul,List.drop_zero,Nat.sub_zero,Nat.mul_one,List.map_take]
   rw[hcx,HPT.out]at hcut;have mO:Hid (Reads 1 y2 (.slice (bY av 0 cv 1) ct cv) ct (((L.drop (k*118)).take ct).map B)):=hid hcut;have PI:r≠d:=PD Ey.out lF.out nP.out;have Hw:=hid hdv;have hdS:S d:=by obtain⟨_,_,_,_,_,_,_,_,rfl⟩:=HD.out;exact .inl rfl
   have acL:∀q,vb.ownBlock=some q->q≠d:=fun q e e2=>by have h1:=(gZ.out.lt q e).1;have h2:=(HD.out.lt d hdS).2;omega
   have xA:=hid (aI gZ.out fV (fun q e=>acL q e));have hbx2:=Ey.out.aH fV PI;have G8:=hid (vP.out.trans fV);have aqT:y.heap.size<=y2.heap.size:=G8.out.size;have qM:∀q,vb.ownBlock=some q->q<y2.heap.size:=fun q e=>(xA.out.lt q e).2;have hns:¬vb.ownBlock=some r:=fun e=>Dw.out r e rfl;have hmb:118*k+ct<=1099511627776:=by omega
   clear hrd Ad hdv fV hcut hcx gZ Ey lF cO vP;have b3:((k:Int)==0)=decide (k=0):=by
    by_cases h:k=0
    ·subst h;rfl
    ·rw[decide_eq_false h];simpa using (by omega:¬(k:Int)=0)
   go_upto_if 82 with (fail);go_cut [16] (fun z wx=>z=.int .i64 0/\wx=y2)
   case first=>
    by_cases hk0:k=0
    ·have q1:decide (k=0)=true:=by simpa using hk0
     go_wp2_with fail;go_meet;exact⟨rfl,rfl⟩
    ·have q1:decide (k=0)=false:=by simpa using hk0
     go_wp2_with fail;go_meet;exact⟨rfl,rfl⟩
   case rest=>
   obtain⟨rfl,hy2⟩:=hcut;obtain rfl:y2=wc:=hy2.symm;go_upto_region 16 with (fail);obtain⟨LB,hLB⟩:∃x,((L.take (118*k)).map B++((L.drop (k*118)).take ct).map B)=x:=⟨_,rfl⟩
   have LH:=hid hLB;clear hLB;have br:=hbx2;have hB:Below 0 y2 y2:=Below.refl _ _;refine aQ (Eu r d n cv (118*k) ct (y2.heap.size) (y.heap.size) av vb LB) 11 SS [some 98,some 99,some 100,some 101,some 102,some 103,some 104,some 105,some 106,some 107,some 108,none] (by kernel_rfl) (by kernel_rfl) rfl (sZ r d n cv (118*k) ct (y2.heap.size) (y.heap.size) av vb LB) (Ns r d n cv (118*k) ct (y2.heap.size) (y.heap.size) av vb LB) ?akI ?_
   case akI=>
    intro i hi o ho vs lo eX w' hg hp;have hsz:=hg.size;replace hp:=fun j hj=>(hp j hj).2.2.2
    match i,hi with
    | 0,_|1,_|5,_|6,_|2,_|3,_|4,_|9,_|10,_=>
     cases ho;simp only[aA,sZ]at hp
     first|simp only[ak,Act.put,aA,hp]|simp only[ak,Act.put,aA]
     try have e0:=(hg.cell (r) 4 br.lt (by rintro⟨j,_,hne,hb,hw⟩;simp only[Eu]at hw;exact hns hw.2)).trans (br.cell 4 _ rfl)
     go_wp2;exact⟨_,rfl,aB.refl _,rfl⟩
    | 7,_=>
     cases ho;simp only[ak,Act.put,aA];have h5:=hp 5 (by simp);have h6:=hp 6 (by simp);simp only[sZ]at h5 h6;rw[h5,h6];refine nD bytesOf (.tmp 103) (.tmp 104) rfl rfl rfl (h:=ct) rfl (by omega) ?_;go_wp2;exact⟨_,rfl,aB.refl _,rfl⟩
    | 8,_=>
     cases ho;simp only[ak,Act.put,aA];have h4:=hp 4 (by simp);have h7:=hp 7 (by simp);simp only[sZ]at h4 h7;rw[h4,h7];have hgx:aj (fun _=>False) y2 w':=aj.aK hg (fun k o ⟨j,hj,hne,hb,hw⟩=>hne hw.1);have hown:=aI xA.out hgx (fun _ _ h=>h);have Lu:=mO.out.aH hgx (fun _ _ h=>h);have hsz2:=hgx.size;go_wp2_with (at_builtin;refine dU bytesOf (.tmp 102) (.tmp 105) rfl rfl rfl hown rfl Lu (eU _) (by omega) (by omega) (by omega) ?_;intro ob cq wq ho2 hg2 hn2);exact⟨_,rfl,hg2.mono (fun b o h=>⟨rfl,h⟩),ob,cq,rfl,by have h9:=ho2;rw[LH.out]at h9;exact h9,fun q e=>(hn2 q e).imp id (fun h=>by omega)⟩
    | (q+11),hq=>exact absurd hq (by omega)
   intro vS lo hi w6 hg hp hd;have hP:=fun j hj=>(hp j hj).2.2.2;have h0:=hP 0 (by decide);have h1:=hP 1 (by decide);have h2:=hP 2 (by decide);have h3:=hP 3 (by decide);have h4:=hP 4 (by decide);have h5:=hP 5 (by decide);have h6:=hP 6 (by decide);have h7:=hP 7 (by decide);have h8:=hP 8 (by decide);have h9:=hP 9 (by decide);have h10:=hP 10 (by decide);clear hP;simp only[sZ]at h0 h1 h2 h3 h4 h5 h6 h7 h8 h9 h10;clear hp hd;have hsz:=hg.size;replace br:=br.grow hg (by intro i _;rintro⟨j,_,hw⟩;simp only[Eu]at hw;first|exact hns hw.2|(have:=qM _ hw.2;omega));replace hB:=hB.trans (hg.below (fun k hk=>⟨by omega,fun o=>by rintro⟨j,_,hw⟩;simp only[Eu]at hw;first|exact hns hw.2|(have:=qM _ hw.2;omega)⟩));have hr:List.range 11=[0,1,2,3,4,5,6,7,8,9,10]:=rfl;rw[hr];clear hr;simp only[List.drop_succ_cons,List.drop_zero,List.drop_nil,ak,Act.put,aA,h0,h1,h2,h3,h4,h5,h6,h7,h9,h10];clear h0 h1 h2 h3 h4 h5 h6 h7 h9 h10;obtain⟨ao,cp,rE,yj,yt⟩:=h8;have SX:Hid (aj (fun q=>vb.ownBlock=some q) y2 w6):=hid (aj.aK hg (fun k o ⟨j,_,hw⟩=>hw.2));have BR:=hid br;have d4:=br.cell 4 _ rfl;have KY:=br.free;have mg:=br.lt;have Ez:(L.take (118*k)++(L.drop (k*118)).take ct)=L.take (118*k+ct):=by rw[Nat.mul_comm k 118,List.take_add]
   rw[<-LH.out,<-List.map_append,Ez]at yj;have Jw:∀q,vb.ownBlock=some q->y.heap.size<=q:=fun q e=>(xA.out.lt q e).1;have SY:∀q,S q->q<y.heap.size:=fun q hq=>(HD.out.lt q hq).2;have hry:y.heap.size<=r:=Nat.le_of_eq HR.out;have Tc:W0.heap.size<=y.heap.size:=HD.out.bel.size;have zY:Hid (DV W0 d (D.reads (k+1)) S w6):=hid (Hw.out.grow SX.out (fun q h1 h2=>by have:=Jw q h2;have:=SY q h1;omega) (Hw.out.bel.trans (SX.out.below (fun q hq=>⟨Nat.lt_of_lt_of_le hq Hw.out.bel.size,fun e=>by have:=Jw q e;omega⟩))));have JI:Hid (aj (fun q=>q=d) y w6):=hid (G8.out.step SX.out (fun q hq h=>by have:=Jw q h;omega));have hnr:∀m q,(Value.slice ao m cp).ownBlock=some q->m=118*k+ct->q≠r:=fun m q e e3 e2=>by
    subst e3;rcases yt q e with h1|h1
    ·exact Dw.out q h1 e2
    ·have:=hbx2.lt;omega
   have RV:=hid hnr;have Pg:=hid yj;have HH:=hid (And.intro SY (And.intro hry Tc));clear yj yt br hB hg hsz Ez Jw SY hry Tc hnr;by_cases hc8:ct<118
   ·have c1:decide ((ct:Int)<118)=true:=decide_eq_true (by omega);have c2:decide (ct<118)=true:=by simpa using hc8
    have hwl:118*k+ct=L.length:=by have:=UU.out;omega
    have BZ:Hid (w6.ownsRow y.heap.size 5 1 (.slice ao L.length cp) L.length (L.map B)):=hid (by
     have h1:=Pg.out;rw[hwl,List.take_of_length_le (Nat.le_refl _)]at h1;exact h1)
    have Cb:Hid (∀q,(Value.slice ao L.length cp).ownBlock=some q->q≠r):=hid (fun q e=>RV.out _ q e hwl.symm);have acM:Hid (∃q,DV W0 d (D.reads q) S w6):=hid ⟨_,zY.out⟩;rw[rE,hwl];clear rE hwl;go_wp2_with fail;have k3:=aF w6 r 4 (.slice ao L.length cp);have hat:kF (w6.setCell ⟨r,4,none⟩ (.slice ao L.length cp)) W0.heap.size r d n (.slice ao L.length cp) ⟨0,L,0,0⟩:=⟨BR.out.setCell 4 _,aI (own_base BZ.out HH.out.2.2) k3 (fun q e=>Cb.out q e),Cb.out,by have:=HH.out.2.1;have:=HH.out.2.2;omega⟩
    have aqU:L.length<=1099511627776:=by have h1:=HB0.out;have h2:=tV.out;omega
    have htl:=kZ hat (by show 0+L.length<=_;omega);rw[show(⟨0,L,0,0⟩:Rg).tail=L.length from Nat.zero_add _]at htl;refine htl.mono ?_;rintro e z ⟨rfl,hq⟩;have oC:=hat.grow (X:=fun _=>False) hq.grow (fun h=>h) (fun _ _ h=>h);have HAT:=hid oC;have HQ:=hid hq;have c6:=oC.box.cell 6 _ rfl;have cfz:=oC.box.free;have bU:=oC.box.lt;have K3:=hid k3;clear hat oC hq d4 KY mg k3 htl;go_wp2_with fail;go_ret2;have k6:=aF z r 6 (.int .i64 (L.length:Nat));have hH:=HH.out;have hd:S d:=by obtain⟨_,_,_,_,_,_,_,_,rfl⟩:=HD.out;exact .inl rfl
    obtain⟨q0,Hy⟩:=acM.out;have g1:aj (fun k=>k=r) w6 (z.setCell ⟨r,6,none⟩ (.int .i64 (L.length:Nat))):=(K3.out.trans HQ.out.grow).trans k6;have hdz:=Hy.grow g1 (fun q h1 h2=>by have:=hH.1 q h1;omega) (Hy.bel.trans (g1.below (fun q hq=>⟨Nat.lt_of_lt_of_le hq Hy.bel.size,fun e=>by omega⟩)));have hok0:Rg.ok n ⟨0,L,0,L.length⟩:=⟨hn,hn2,by show 0=0 / 118*118;omega,Nat.zero_le _,by show L.length<=0+L.length;omega,by show 0+L.length<=_;omega,by show 0+L.length<=(0 / 118+n-1)*118;have h1:=HB0.out;have h2:=tV.out;omega⟩
    refine⟨r,_,q0,rfl,⟨.slice ao L.length cp,S,⟨HAT.out.box.setCell 6 _,aI HAT.out.row k6 (fun q e=>Cb.out q e),Cb.out,by omega⟩,hdz,HG.out.reads q0,hok0,by rw[(D.kH q0).1,HL.out];exact hl,nP.out,fun q e hs=>by have h1:=(BZ.out.lt q e).1;have h2:=hH.1 q hs;omega,rfl⟩,⟨?_,?_⟩⟩
    ·exact(JI.out.mono (fun k e=>e▸hd)).step g1 (fun q h1 e=>by omega)
    ·rintro k (hk|rfl|hk)
     ·exact .inl hk
     ·exact .inr (by omega)
     ·exact .inr (BZ.out.lt k hk).1
   ·have c1:decide ((ct:Int)<118)=false:=decide_eq_false (by omega);have c2:decide (ct<118)=false:=by simpa using hc8
    have aqV:Hid (ct=118):=hid (by omega);rw[rE];clear rE;go_wp2_with fail;go_roundw
    case rel=>
     have k4:=aF w6 r 4 (.slice ao (118*k+ct) cp);have au0:=aqV.out;refine⟨k+1,.slice ao (118*k+ct) cp,by go_num,?_,BR.out.setCell 4 (.slice ao (118*k+ct) cp),?_,fun q e=>RV.out _ q e rfl,?_,?_⟩
     ·have h1:=UU.out;have h2:=HB0.out;by_cases h3:k+1<=b0
      ·exact .inl h3
      ·exact .inr ⟨by omega,by omega⟩
     ·have h1:=aI Pg.out k4 (fun q e=>RV.out _ q e rfl);have e5:118*(k+1)=118*k+ct:=by omega
      rw[e5];exact h1
     ·exact zY.out.grow k4 (fun q h1 h2=>by have:=HH.out.1 q h1;have:=HH.out.2.1;omega) (zY.out.bel.trans (k4.below (fun q hq=>⟨Nat.lt_of_lt_of_le hq zY.out.bel.size,fun e=>by have:=HH.out.2.1;have:=HH.out.2.2;omega⟩)))
     ·exact JI.out.step k4 (fun q hq h=>by have:=HH.out.2.1;omega)
    case measure=>simp[intOf];omega
  ·have HKB:=hid hkb;have HEX:=hid hex;have hcall:=Du _ _ _ _ _ Ey.out lF.out nP.out (HG.out.reads k) hn hn2 (by rw[(D.kH k).1,HL.out];exact hl) k (by omega) dB (by rw[hmod,D.rJ,HKB.out];exact HS2.out) (ajO k (by omega));have cO:=hid hcall;clear hcall hkb hex;go_wp2_with fail;refine cO.out.mono ?_;rintro e y2 ⟨v,rfl,hrd,Ad,hdv,fV⟩;obtain⟨av,cv,oh⟩:=hrd.shape;subst oh;have hcv:118<=cv:=by obtain⟨_,_,e,_,h,_⟩:=hrd;injection e with _ _ e3;omega
   have hcut:=hrd.bY 0 0 (Nat.zero_le _) (by omega);have mO:Hid (Reads 1 y2 (.slice (bY av 0 cv 1) 0 cv) 0 (((L.drop (k*118)).take 0).map B)):=hid (by
    have h1:=hcut;rw[List.take_zero]at h1;rw[List.take_zero];exact h1)
   have PI:r≠d:=PD Ey.out lF.out nP.out;have Hw:=hid hdv;have hdS:S d:=by obtain⟨_,_,_,_,_,_,_,_,rfl⟩:=HD.out;exact .inl rfl
   have acL:∀q,vb.ownBlock=some q->q≠d:=fun q e e2=>by have h1:=(gZ.out.lt q e).1;have h2:=(HD.out.lt d hdS).2;omega
   have xA:=hid (aI gZ.out fV (fun q e=>acL q e));have hbx2:=Ey.out.aH fV PI;have G8:=hid (vP.out.trans fV);have aqT:y.heap.size<=y2.heap.size:=G8.out.size;have qM:∀q,vb.ownBlock=some q->q<y2.heap.size:=fun q e=>(xA.out.lt q e).2;have hns:¬vb.ownBlock=some r:=fun e=>Dw.out r e rfl;have hmb:118*k+0<=1099511627776:=by omega
   clear hrd Ad hdv fV hcut gZ Ey lF cO vP;have b3:((k:Int)==0)=decide (k=0):=by
    by_cases h:k=0
    ·subst h;rfl
    ·rw[decide_eq_false h];simpa using (by omega:¬(k:Int)=0)
   go_upto_if 82 with (fail);go_cut [16] (fun z wx=>z=.int .i64 0/\wx=y2)
   case first=>
    by_cases hk0:k=0
    ·have q1:decide (k=0)=true:=by simpa using hk0
     go_wp2_with fail;go_meet;exact⟨rfl,rfl⟩
    ·have q1:decide (k=0)=false:=by simpa using hk0
     go_wp2_with fail;go_meet;exact⟨rfl,rfl⟩
   case rest=>
   obtain⟨rfl,hy2⟩:=hcut;obtain rfl:y2=wc:=hy2.symm;go_upto_region 15 with (fail);obtain⟨LB,hLB⟩:∃x,((L.take (118*k)).map B++((L.drop (k*118)).take 0).map B)=x:=⟨_,rfl⟩
   have LH:=hid hLB;clear hLB;have br:=hbx2;have hB:Below 0 y2 y2:=Below.refl _ _;refine aQ (Ew r d n cv (118*k) 0 (y2.heap.size) (y.heap.size) av vb LB) 11 [[],[],[1],[1,2],[1,2,3],[],[],[5,6],[1,2,3,4,5,6,7],[0,1,2,3,4,5,6,7,8],[0,1,2,3,4,5,6,7,8,9]] [some 87,some 88,some 89,some 90,some 91,some 92,some 93,some 94,some 95,some 96,some 97,none] (by kernel_rfl) (by kernel_rfl) rfl (tq r d n cv (118*k) 0 (y2.heap.size) (y.heap.size) av vb LB) (Nu r d n cv (118*k) 0 (y2.heap.size) (y.heap.size) av vb LB) ?akJ ?_
   case akJ=>
    intro i hi o ho vs lo eX w' hg hp;have hsz:=hg.size;replace hp:=fun j hj=>(hp j hj).2.2.2
    match i,hi with
    | 0,_|1,_|5,_|6,_|2,_|3,_|4,_|9,_|10,_=>
     cases ho;simp only[aA,tq]at hp
     first|simp only[ak,Act.put,aA,hp]|simp only[ak,Act.put,aA]
     try have e0:=(hg.cell (r) 4 br.lt (by rintro⟨j,_,hne,hb,hw⟩;simp only[Ew]at hw;exact hns hw.2)).trans (br.cell 4 _ rfl)
     go_wp2;exact⟨_,rfl,aB.refl _,rfl⟩
    | 7,_=>
     cases ho;simp only[ak,Act.put,aA];have h5:=hp 5 (by simp);have h6:=hp 6 (by simp);simp only[tq]at h5 h6;rw[h5,h6];refine nD bytesOf (.tmp 92) (.tmp 93) rfl rfl rfl (h:=0) rfl (by omega) ?_;go_wp2;exact⟨_,rfl,aB.refl _,rfl⟩
    | 8,_=>
     cases ho;simp only[ak,Act.put,aA];have h4:=hp 4 (by simp);have h7:=hp 7 (by simp);simp only[tq]at h4 h7;rw[h4,h7];have hgx:aj (fun _=>False) y2 w':=aj.aK hg (fun k o ⟨j,hj,hne,hb,hw⟩=>hne hw.1);have hown:=aI xA.out hgx (fun _ _ h=>h);have Lu:=mO.out.aH hgx (fun _ _ h=>h);have hsz2:=hgx.size;go_wp2_with (at_builtin;refine dU bytesOf (.tmp 91) (.tmp 94) rfl rfl rfl hown rfl Lu (eU _) (by omega) (by omega) (by omega) ?_;intro ob cq wq ho2 hg2 hn2);exact⟨_,rfl,hg2.mono (fun b o h=>⟨rfl,h⟩),ob,cq,rfl,by have h9:=ho2;rw[LH.out]at h9;exact h9,fun q e=>(hn2 q e).imp id (fun h=>by omega)⟩
    | (q+11),hq=>exact absurd hq (by omega)
   intro vS lo hi w6 hg hp hd;have hP:=fun j hj=>(hp j hj).2.2.2;have h0:=hP 0 (by decide);have h1:=hP 1 (by decide);have h2:=hP 2 (by decide);have h3:=hP 3 (by decide);have h4:=hP 4 (by decide);have h5:=hP 5 (by decide);have h6:=hP 6 (by decide);have h7:=hP 7 (by decide);have h8:=hP 8 (by decide);have h9:=hP 9 (by decide);have h10:=hP 10 (by decide);clear hP;simp only[tq]at h0 h1 h2 h3 h4 h5 h6 h7 h8 h9 h10;clear hp hd;have hsz:=hg.size;replace br:=br.grow hg (by intro i _;rintro⟨j,_,hw⟩;simp only[Ew]at hw;first|exact hns hw.2|(have:=qM _ hw.2;omega));replace hB:=hB.trans (hg.below (fun k hk=>⟨by omega,fun o=>by rintro⟨j,_,hw⟩;simp only[Ew]at hw;first|exact hns hw.2|(have:=qM _ hw.2;omega)⟩));have hr:List.range 11=[0,1,2,3,4,5,6,7,8,9,10]:=rfl;rw[hr];clear hr;simp only[List.drop_succ_cons,List.drop_zero,List.drop_nil,ak,Act.put,aA,h0,h1,h2,h3,h4,h5,h6,h7,h9,h10];clear h0 h1 h2 h3 h4 h5 h6 h7 h9 h10;obtain⟨ao,cp,rE,yj,yt⟩:=h8;have SX:Hid (aj (fun q=>vb.ownBlock=some q) y2 w6):=hid (aj.aK hg (fun k o ⟨j,_,hw⟩=>hw.2));have BR:=hid br;have d4:=br.cell 4 _ rfl;have KY:=br.free;have mg:=br.lt;have Ez:(L.take (118*k)++(L.drop (k*118)).take 0)=L.take (118*k+0):=by rw[Nat.mul_comm k 118,List.take_add]
   rw[<-LH.out,<-List.map_append,Ez]at yj;have Jw:∀q,vb.ownBlock=some q->y.heap.size<=q:=fun q e=>(xA.out.lt q e).1;have SY:∀q,S q->q<y.heap.size:=fun q hq=>(HD.out.lt q hq).2;have hry:y.heap.size<=r:=Nat.le_of_eq HR.out;have Tc:W0.heap.size<=y.heap.size:=HD.out.bel.size;have zY:Hid (DV W0 d (D.reads (k+1)) S w6):=hid (Hw.out.grow SX.out (fun q h1 h2=>by have:=Jw q h2;have:=SY q h1;omega) (Hw.out.bel.trans (SX.out.below (fun q hq=>⟨Nat.lt_of_lt_of_le hq Hw.out.bel.size,fun e=>by have:=Jw q e;omega⟩))));have JI:Hid (aj (fun q=>q=d) y w6):=hid (G8.out.step SX.out (fun q hq h=>by have:=Jw q h;omega));have hnr:∀m q,(Value.slice ao m cp).ownBlock=some q->m=118*k+0->q≠r:=fun m q e e3 e2=>by
    subst e3;rcases yt q e with h1|h1
    ·exact Dw.out q h1 e2
    ·have:=hbx2.lt;omega
   have RV:=hid hnr;have Pg:=hid yj;have HH:=hid (And.intro SY (And.intro hry Tc));clear yj yt br hB hg hsz Ez Jw SY hry Tc hnr;have hwl:118*k+0=L.length:=by have:=HKB.out;have:=HEX.out;omega
   have BZ:Hid (w6.ownsRow y.heap.size 5 1 (.slice ao L.length cp) L.length (L.map B)):=hid (by
    have h1:=Pg.out;rw[hwl,List.take_of_length_le (Nat.le_refl _)]at h1;exact h1)
   have Cb:Hid (∀q,(Value.slice ao L.length cp).ownBlock=some q->q≠r):=hid (fun q e=>RV.out _ q e hwl.symm);have acM:Hid (∃q,DV W0 d (D.reads q) S w6):=hid ⟨_,zY.out⟩;rw[rE,hwl];clear rE hwl;go_wp2_with fail;have k3:=aF w6 r 4 (.slice ao L.length cp);have hat:kF (w6.setCell ⟨r,4,none⟩ (.slice ao L.length cp)) W0.heap.size r d n (.slice ao L.length cp) ⟨0,L,0,0⟩:=⟨BR.out.setCell 4 _,aI (own_base BZ.out HH.out.2.2) k3 (fun q e=>Cb.out q e),Cb.out,by have:=HH.out.2.1;have:=HH.out.2.2;omega⟩
   have aqU:L.length<=1099511627776:=by have h1:=HB0.out;have h2:=tV.out;omega
   have htl:=kZ hat (by show 0+L.length<=_;omega);rw[show(⟨0,L,0,0⟩:Rg).tail=L.length from Nat.zero_add _]at htl;refine htl.mono ?_;rintro e z ⟨rfl,hq⟩;have oC:=hat.grow (X:=fun _=>False) hq.grow (fun h=>h) (fun _ _ h=>h);have HAT:=hid oC;have HQ:=hid hq;have c6:=oC.box.cell 6 _ rfl;have cfz:=oC.box.free;have bU:=oC.box.lt;have K3:=hid k3;clear hat oC hq d4 KY mg k3 htl;go_wp2_with fail;go_ret2;have k6:=aF z r 6 (.int .i64 (L.length:Nat));have hH:=HH.out;have hd:S d:=by obtain⟨_,_,_,_,_,_,_,_,rfl⟩:=HD.out;exact .inl rfl
   obtain⟨q0,Hy⟩:=acM.out;have g1:aj (fun k=>k=r) w6 (z.setCell ⟨r,6,none⟩ (.int .i64 (L.length:Nat))):=(K3.out.trans HQ.out.grow).trans k6;have hdz:=Hy.grow g1 (fun q h1 h2=>by have:=hH.1 q h1;omega) (Hy.bel.trans (g1.below (fun q hq=>⟨Nat.lt_of_lt_of_le hq Hy.bel.size,fun e=>by omega⟩)));have hok0:Rg.ok n ⟨0,L,0,L.length⟩:=⟨hn,hn2,by show 0=0 / 118*118;omega,Nat.zero_le _,by show L.length<=0+L.length;omega,by show 0+L.length<=_;omega,by show 0+L.length<=(0 / 118+n-1)*118;have h1:=HB0.out;have h2:=tV.out;omega⟩
   refine⟨r,_,q0,rfl,⟨.slice ao L.length cp,S,⟨HAT.out.box.setCell 6 _,aI HAT.out.row k6 (fun q e=>Cb.out q e),Cb.out,by omega⟩,hdz,HG.out.reads q0,hok0,by rw[(D.kH q0).1,HL.out];exact hl,nP.out,fun q e hs=>by have h1:=(BZ.out.lt q e).1;have h2:=hH.1 q hs;omega,rfl⟩,⟨?_,?_⟩⟩
   ·exact(JI.out.mono (fun k e=>e▸hd)).step g1 (fun q h1 e=>by omega)
   ·rintro k (hk|rfl|hk)
    ·exact .inl hk
    ·exact .inr (by omega)
    ·exact .inr (BZ.out.lt k hk).1
end
end
section
open Go.RowKit
def lu(b:List UInt8):Nat×Nat×Nat×Nat:=(dN (b.take 8),dN ((b.drop 8).take 8),dN ((b.drop 16).take 8),dN ((b.drop 24).take 8))
def lC(sec:Nat->List UInt8):Nat->Nat×Nat×Nat×Nat
 | 0=>(0,0,0,0)
 | t+1=>if (lC sec t).1<(lu (sec t)).1 then lu (sec t)else lC sec t
def Fj(b:List UInt8):Prop:=(lu b).1<=1152921504606846976/\(lu b).2.1<=1152921504606846976/\(lu b).2.2.1<=1152921504606846976/\(lu b).2.2.2<=1152921504606846976
def Yf(d g gb t a0 a1 a2 a3 m0:Nat)(bd:Bool)(j b o:Nat):Prop:=False
def mZ(d g gb t a0 a1 a2 a3 m0:Nat)(bd:Bool)(i:Nat)(v:Value)(lo hi:Nat)(w:World):Prop:=
 match i with
 | 0=>v=.slice (some ⟨gb,0,none⟩) 128 128
 | 1=>v=.int .i64 ((m0:Nat):Int)
 | 2=>v=.pointer (some ⟨g,0,none⟩)
 | 3=>v=.int .i64 ((a0:Nat):Int)
 | 4=>v=.bool bd
 | _=>True
theorem ED(d g gb t a0 a1 a2 a3 m0:Nat)(bd:Bool)  : ∀i j,i<5->j<5->j≠i->j∉([[],[0],[],[2],[0,1,2,3]]:List (List Nat)).getD i []->∀v lo hi w w',mZ d g gb t a0 a1 a2 a3 m0 bd i v lo hi w->aB (Yf d g gb t a0 a1 a2 a3 m0 bd j) w w'->mZ d g gb t a0 a1 a2 a3 m0 bd i v lo hi w':=by
 intro i j hi hj hne hbs v lo hj2 w w' h hg
 match i,hi with
 | 0,_|1,_|2,_|3,_|4,_=>
  simp only[mZ]at h⊢;exact h
 | (q+5),hq=>exact absurd hq (by omega)
def aeP(g gb m0 m1 m2 m3 a0 a1 a2 a3:Nat)(j b o:Nat):Prop:=False
def lI(g gb m0 m1 m2 m3 a0 a1 a2 a3:Nat)(i:Nat)(v:Value)(lo hi:Nat)(w:World):Prop:=
 match i with
 | 0=>v=.slice (some ⟨gb,0,none⟩) 128 128
 | 1=>v=.int .i64 ((m0:Nat):Int)
 | 2=>v=.slice (some ⟨gb,0,none⟩) 128 128
 | 3=>v=.slice (some ⟨gb,8,none⟩) 120 120
 | 4=>v=.int .i64 ((m1:Nat):Int)
 | 5=>v=.slice (some ⟨gb,0,none⟩) 128 128
 | 6=>v=.slice (some ⟨gb,16,none⟩) 112 112
 | 7=>v=.int .i64 ((m2:Nat):Int)
 | 8=>v=.slice (some ⟨gb,0,none⟩) 128 128
 | 9=>v=.slice (some ⟨gb,24,none⟩) 104 104
 | 10=>v=.int .i64 ((m3:Nat):Int)
 | 11=>v=.agg #[.int .i64 ((m0:Nat):Int),.int .i64 ((m1:Nat):Int),.int .i64 ((m2:Nat):Int),.int .i64 ((m3:Nat):Int)]
 | _=>True
theorem Td(g gb m0 m1 m2 m3 a0 a1 a2 a3:Nat)  : ∀i j,i<12->j<12->j≠i->j∉([[],[0],[],[2],[0,1,2,3],[],[5],[0,1,2,3,4,5,6],[],[8],[0,1,2,3,4,5,6,7,8,9],[0,1,2,3,4,5,6,7,8,9,10]]:List (List Nat)).getD i []->∀v lo hi w w',lI g gb m0 m1 m2 m3 a0 a1 a2 a3 i v lo hi w->aB (aeP g gb m0 m1 m2 m3 a0 a1 a2 a3 j) w w'->lI g gb m0 m1 m2 m3 a0 a1 a2 a3 i v lo hi w':=by
 intro i j hi hj hne hbs v lo hj2 w w' h hg
 match i,hi with
 | 0,_|1,_|2,_|3,_|4,_|5,_|6,_|7,_|8,_|9,_|10,_|11,_=>
  simp only[lI]at h⊢;exact h
 | (q+12),hq=>exact absurd hq (by omega)
section
variable{W0 w w' w2:World}{d:Nat}{D:Dv}{S:Nat->Prop}
theorem Yg(w:World)(g o m:Nat)(b:List UInt8)(hb:b.length=128)(h:Buf w g b)(ho:o+m=128)(hm:8<=m)(hn:dN ((b.drop o).take 8)<=1152921504606846976):
  Calls Tryz.prog 110 #[.slice (some ⟨g,o,none⟩) m m] w fun e w'=>e=.returned (.int .i64 (dN ((b.drop o).take 8):Nat))/\w'=w:=
 W9 w g o m m ((b.drop o).take 8) (by rw[List.length_take,List.length_drop];omega) hm (Nat.le_refl _) (by omega) hn h.lt (fun j c hj=>by
  have hj8:j<8:=by
   have h1:=(List.getElem?_eq_some_iff.1 hj).1;rw[List.length_take]at h1;omega
  rw[List.getElem?_take,if_pos hj8,List.getElem?_drop]at hj;refine h.cell (o+j) _ ?_;rw[List.getElem?_map,hj];rfl)
theorem Yh(h:DV W0 d D S w)(hgd:D.good)(hl:2<=D.l.length)(hmo:∀t,t<2->Fj (D.sec t)):
  Calls Tryz.prog 78 #[.pointer (some ⟨d,0,none⟩)] w fun e w'=>e=.returned (.tuple #[.agg #[.int .i64 ((lC D.sec 2).1:Nat),.int .i64 ((lC D.sec 2).2.1:Nat),.int .i64 ((lC D.sec 2).2.2.1:Nat),.int .i64 ((lC D.sec 2).2.2.2:Nat)],.int .i64 0])/\DV W0 d (D.reads 2) S w'/\aG S S w w':=by
 have HL:=hid hl;have HD:=hid hgd.dead;have HGD:=hid hgd;have HMO:=hid hmo;have hlt:=h.lt;have bx:=Box.new w #[.int .i64 0,.int .i64 0,.int .i64 0,.int .i64 0] 131 rfl;have hal:Below w.heap.size w (w.alloc (.cells #[.int .i64 0,.int .i64 0,.int .i64 0,.int .i64 0] 131)):=(Below.refl _ _).alloc (Nat.le_refl _) _;have H1:=hid (h.below hal);have ji:=hid hal;obtain⟨g,hg⟩:∃g,w.heap.size=g:=⟨_,rfl⟩
 have HDS:=hid (h.self);have jH:Hid (∀k,S k->k<g):=hid (fun k hk=>hg▸(hlt k hk).2);have HW:=hid h.bel;have hdg:d≠g:=fun e=>by have:=(hlt d h.self).2;omega
 have ru:=hid hg;rw[hg]at bx;clear h hl hgd hmo hal hlt;have hwd:∀z:Nat,z=g->(w.heap.size=z):=fun z e=>e▸hg;go_enter Tryz.func78,Tryz.ntmps78;go_wp2_with fail;clear hwd;rw[hg]at ji;generalize (w.alloc (.cells #[.int .i64 0,.int .i64 0,.int .i64 0,.int .i64 0] 131))=w1 at *;have iC:=hid bx;clear bx hg;go_loopw [3,4,5,6,7] (fun z3 z4 z5 z6 i wr=>∃t:Nat,t<=2/\z3=.int .i64 0/\i=.int .i64 t/\Box wr g [.int .i64 ((lC D.sec t).1:Nat),.int .i64 ((lC D.sec t).2.1:Nat),.int .i64 ((lC D.sec t).2.2.1:Nat),.int .i64 ((lC D.sec t).2.2.2:Nat)]/\DV W0 d (D.reads t) S wr/\aj (fun k=>k=d\/k=g) w1 wr) (fun _ _ _ _ i _=>2-(intOf i).toNat)
 case atStart=>exact⟨0,by omega,rfl,rfl,iC.out,H1.out,aj.refl _⟩
 case round=>
  obtain⟨t,ht,rfl,rfl,hbx,hdv,hgr⟩:=hrel;obtain⟨a0,a1,a2,a3,hak⟩:∃a0 a1 a2 a3,lC D.sec t=(a0,a1,a2,a3):=⟨_,_,_,_,rfl⟩
  rw[hak]at hbx;simp only at hbx;have HAK:=hid hak;have HB:=hid hbx;have lF:=hid hdv;have vP:=hid hgr;clear hbx hdv hgr hak;by_cases hlt:t<2
  ·have hcall:=ug lF.out ((D.Xa t).trans HD.out) t (by rw[D.fM];have:=HL.out;omega);have hsl:(D.sec t).length=128:=Dv.je HGD.out.ok (by have:=HL.out;omega);have hmt:=HMO.out t hlt;have HC:=hid hcall;clear hcall;go_wp2_with fail;refine HC.out.mono ?_;rintro er y1 ⟨gb,rfl,Tf,hbuf,hgb,hg1⟩;rw[D.rJ]at hbuf;obtain⟨sb,hsb⟩:∃x,D.sec t=x:=⟨_,rfl⟩
   rw[hsb]at hbuf hsl hmt;obtain⟨m0,m1,m2,m3,hmk⟩:∃m0 m1 m2 m3,lu sb=(m0,m1,m2,m3):=⟨_,_,_,_,rfl⟩
   have hstep:lC D.sec (t+1)=if a0<m0 then(m0,m1,m2,m3)else(a0,a1,a2,a3):=by
    show(if (lC D.sec t).1<(lu (D.sec t)).1 then lu (D.sec t)else lC D.sec t)=_;rw[HAK.out,hsb,hmk]
   have sS:=hid hstep;have KH:Hid (DV W0 d (D.reads (t+1)) S y1):=hid Tf;have PE:=hid hbuf;have Yi:=hid (vP.out.trans (hg1.mono (fun k e=>.inl e)));have bs:=HB.out.aH hg1 (fun e=>hdg e.symm);unfold Fj at hmt;rw[hmk]at hmt;obtain⟨o0,o1,o2,o3⟩:=hmt;simp only at o0 o1 o2 o3;have e0:dN ((sb.drop 0).take 8)=m0:=by rw[List.drop_zero];exact congrArg (·.1) hmk
   have e1:dN ((sb.drop 8).take 8)=m1:=congrArg (·.2.1) hmk;have e2:dN ((sb.drop 16).take 8)=m2:=congrArg (·.2.2.1) hmk;have e3:dN ((sb.drop 24).take 8)=m3:=congrArg (·.2.2.2) hmk;have hnum:∀y o m,Below y1.heap.size y1 y->o+m=128->8<=m->dN ((sb.drop o).take 8)<=1152921504606846976->Calls Tryz.prog 110 #[.slice (some ⟨gb,o,none⟩) m m] y fun e w'=>e=.returned (.int .i64 (dN ((sb.drop o).take 8):Nat))/\w'=y:=fun y o m hb hom hm hn=>Yg y gb o m sb hsl (PE.out.aH (X:=fun _=>False) (aC hb) (fun h=>h)) hom hm hn;have hn0:∀y,Below y1.heap.size y1 y->Calls Tryz.prog 110 #[.slice (some ⟨gb,0,none⟩) 128 128] y fun e w'=>e=.returned (.int .i64 (m0:Nat))/\w'=y:=fun y hb=>by
    have h9:=hnum y 0 128 hb (by omega) (by omega) (by rw[e0];exact o0);rw[e0]at h9;exact h9
   have hn1:∀y,Below y1.heap.size y1 y->Calls Tryz.prog 110 #[.slice (some ⟨gb,8,none⟩) 120 120] y fun e w'=>e=.returned (.int .i64 (m1:Nat))/\w'=y:=fun y hb=>by
    have h9:=hnum y 8 120 hb (by omega) (by omega) (by rw[e1];exact o1);rw[e1]at h9;exact h9
   have hn2:∀y,Below y1.heap.size y1 y->Calls Tryz.prog 110 #[.slice (some ⟨gb,16,none⟩) 112 112] y fun e w'=>e=.returned (.int .i64 (m2:Nat))/\w'=y:=fun y hb=>by
    have h9:=hnum y 16 112 hb (by omega) (by omega) (by rw[e2];exact o2);rw[e2]at h9;exact h9
   have hn3:∀y,Below y1.heap.size y1 y->Calls Tryz.prog 110 #[.slice (some ⟨gb,24,none⟩) 104 104] y fun e w'=>e=.returned (.int .i64 (m3:Nat))/\w'=y:=fun y hb=>by
    have h9:=hnum y 24 104 hb (by omega) (by omega) (by rw[e3];exact o3);rw[e3]at h9;exact h9
   have HN0:=hid hn0;have Lj:=hid hn1;have FC:=hid hn2;have HN3:=hid hn3;clear Tf hbuf hg1 HC hsb hmk hstep e0 e1 e2 e3 hnum hn0 hn1 hn2 hn3 hsl PE;go_upto_region 7 with (fail);have hB:Below y1.heap.size y1 y1:=Below.refl _ _;by_cases hgt:a0<m0
   ·have b1:decide ((a0:Int)<(m0:Int))=true:=by simpa using hgt
    have HST:Hid (lC D.sec (t+1)=(m0,m1,m2,m3)):=hid (by rw[sS.out,if_pos hgt]);have RZ:=hid hgt;clear hgt sS;refine aQ (Yf d g gb t a0 a1 a2 a3 m0 true) 5 [[],[0],[],[2],[0,1,2,3]] [some 20,some 21,some 22,some 23,some 24] (by kernel_rfl) (by kernel_rfl) rfl (mZ d g gb t a0 a1 a2 a3 m0 true) (ED d g gb t a0 a1 a2 a3 m0 true) ?Yj ?_
    case Yj=>
     intro i hi o ho vs lo eX w' hg hp;have hsz:=hg.size;have hgB:Below y1.heap.size y1 w':=hg.below (fun k hk=>⟨hk,fun o=>by rintro⟨j,_,_,_,hw⟩;exact False.elim hw⟩);replace hp:=fun j hj=>(hp j hj).2.2.2
     match i,hi with
     | 0,_|2,_|3,_=>
      cases ho;simp only[aA,mZ]at hp
      first|simp only[ak,Act.put,aA,hp]|simp only[ak,Act.put,aA]
      try have e0:=(hg.cell (g) 0 bs.lt (by rintro⟨j,_,hne,hb,hw⟩;exact False.elim hw)).trans (bs.cell 0 _ rfl)
      go_wp2;exact⟨_,rfl,aB.refl _,rfl⟩
     | 1,_=>
      cases ho;simp only[ak,Act.put,aA];have h0:=hp 0 (by simp);simp only[mZ]at h0;rw[h0];go_wp2_with fail;refine(HN0.out _ hgB).mono ?_;rintro er wh ⟨rfl,hy⟩;obtain rfl:w'=wh:=hy.symm;go_wp2;exact⟨_,rfl,aB.refl _,rfl⟩
     | 4,_=>
      cases ho;simp only[ak,Act.put,aA];have h1:=hp 1 (by simp);have h3:=hp 3 (by simp);simp only[mZ]at h1 h3;rw[h1,h3];go_wp2;exact⟨_,rfl,aB.refl _,by simp only[mZ];congr 1;first|exact decide_eq_true RZ.out|exact decide_eq_false RZ.out⟩
     | (q+5),hq=>exact absurd hq (by omega)
    intro vS lo hi y7 hg hp hd;have hP:=fun j hj=>(hp j hj).2.2.2;have h0:=hP 0 (by decide);have h1:=hP 1 (by decide);have h2:=hP 2 (by decide);have h3:=hP 3 (by decide);have h4:=hP 4 (by decide);clear hP;simp only[mZ]at h0 h1 h2 h3 h4;clear hp hd;have hsz:=hg.size;replace bs:=bs.grow hg (by intro i _;rintro⟨j,_,hw⟩;exact False.elim hw);replace hB:=hB.trans (hg.below (fun k hk=>⟨by omega,fun o=>by rintro⟨j,_,hw⟩;exact False.elim hw⟩));have hr:List.range 5=[0,1,2,3,4]:=rfl;rw[hr];clear hr;simp only[List.drop_succ_cons,List.drop_zero,List.drop_nil,ak,Act.put,aA,h0,h1,h2,h3,h4];clear h0 h1 h2 h3 h4;go_upto_region 8 with (fail);have La:=hB;replace KH:=hid (KH.out.below hB);replace Yi:=hid (Yi.out.trans (lT hB));have EF:=hid hB;clear hB La;have hB:Below y7.heap.size y7 y7:=Below.refl _ _;refine aQ (aeP g gb m0 m1 m2 m3 a0 a1 a2 a3) 12 [[],[0],[],[2],[0,1,2,3],[],[5],[0,1,2,3,4,5,6],[],[8],[0,1,2,3,4,5,6,7,8,9],[0,1,2,3,4,5,6,7,8,9,10]] [some 25,some 26,some 27,some 28,some 29,some 30,some 31,some 32,some 33,some 34,some 35,some 36,none] (by kernel_rfl) (by kernel_rfl) rfl (lI g gb m0 m1 m2 m3 a0 a1 a2 a3) (Td g gb m0 m1 m2 m3 a0 a1 a2 a3) ?al7 ?_
    case al7=>
     intro i hi o ho vs lo eX w' hg hp;have hsz:=hg.size;have hgB:Below y7.heap.size y7 w':=hg.below (fun k hk=>⟨hk,fun o=>by rintro⟨j,_,_,_,hw⟩;exact False.elim hw⟩);replace hp:=fun j hj=>(hp j hj).2.2.2
     match i,hi with
     | 0,_|2,_|5,_|8,_|11,_=>
      cases ho;simp only[aA,lI]at hp
      first|simp only[ak,Act.put,aA,hp]|simp only[ak,Act.put,aA]
      go_wp2;exact⟨_,rfl,aB.refl _,rfl⟩
     | 1,_=>
      cases ho;simp only[ak,Act.put,aA];have h0:=hp 0 (by simp);simp only[lI]at h0;rw[h0];have Hz:=EF.out.trans (hgB.mono EF.out.size);go_wp2_with fail;refine(HN0.out _ Hz).mono ?_;rintro er wh ⟨rfl,hy⟩;obtain rfl:w'=wh:=hy.symm;go_wp2;exact⟨_,rfl,aB.refl _,rfl⟩
     | 3,_=>
      cases ho;simp only[ak,Act.put,aA];have h2:=hp 2 (by simp);simp only[lI]at h2;rw[h2];refine iI bytesOf (.tmp 27) (.const (.int .i64 8)) rfl rfl rfl (l:=8) rfl (by omega) ?_;go_wp2;exact⟨_,rfl,aB.refl _,by simp[lI,bY,Addr.add]⟩
     | 4,_=>
      cases ho;simp only[ak,Act.put,aA];have h3:=hp 3 (by simp);simp only[lI]at h3;rw[h3];have Hz:=EF.out.trans (hgB.mono EF.out.size);go_wp2_with fail;refine(Lj.out _ Hz).mono ?_;rintro er wh ⟨rfl,hy⟩;obtain rfl:w'=wh:=hy.symm;go_wp2;exact⟨_,rfl,aB.refl _,rfl⟩
     | 6,_=>
      cases ho;simp only[ak,Act.put,aA];have h5:=hp 5 (by simp);simp only[lI]at h5;rw[h5];refine iI bytesOf (.tmp 30) (.const (.int .i64 16)) rfl rfl rfl (l:=16) rfl (by omega) ?_;go_wp2;exact⟨_,rfl,aB.refl _,by simp[lI,bY,Addr.add]⟩
     | 7,_=>
      cases ho;simp only[ak,Act.put,aA];have h6:=hp 6 (by simp);simp only[lI]at h6;rw[h6];have Hz:=EF.out.trans (hgB.mono EF.out.size);go_wp2_with fail;refine(FC.out _ Hz).mono ?_;rintro er wh ⟨rfl,hy⟩;obtain rfl:w'=wh:=hy.symm;go_wp2;exact⟨_,rfl,aB.refl _,rfl⟩
     | 9,_=>
      cases ho;simp only[ak,Act.put,aA];have h8:=hp 8 (by simp);simp only[lI]at h8;rw[h8];refine iI bytesOf (.tmp 33) (.const (.int .i64 24)) rfl rfl rfl (l:=24) rfl (by omega) ?_;go_wp2;exact⟨_,rfl,aB.refl _,by simp[lI,bY,Addr.add]⟩
     | 10,_=>
      cases ho;simp only[ak,Act.put,aA];have h9:=hp 9 (by simp);simp only[lI]at h9;rw[h9];have Hz:=EF.out.trans (hgB.mono EF.out.size);go_wp2_with fail;refine(HN3.out _ Hz).mono ?_;rintro er wh ⟨rfl,hy⟩;obtain rfl:w'=wh:=hy.symm;go_wp2;exact⟨_,rfl,aB.refl _,rfl⟩
     | (q+12),hq=>exact absurd hq (by omega)
    intro vS lo hi y8 hg hp hd;have hP:=fun j hj=>(hp j hj).2.2.2;have h0:=hP 0 (by decide);have h1:=hP 1 (by decide);have h2:=hP 2 (by decide);have h3:=hP 3 (by decide);have h4:=hP 4 (by decide);have h5:=hP 5 (by decide);have h6:=hP 6 (by decide);have h7:=hP 7 (by decide);have h8:=hP 8 (by decide);have h9:=hP 9 (by decide);have h10:=hP 10 (by decide);have h11:=hP 11 (by decide);clear hP;simp only[lI]at h0 h1 h2 h3 h4 h5 h6 h7 h8 h9 h10 h11;clear hp hd;have hsz:=hg.size;replace bs:=bs.grow hg (by intro i _;rintro⟨j,_,hw⟩;exact False.elim hw);replace hB:=hB.trans (hg.below (fun k hk=>⟨by omega,fun o=>by rintro⟨j,_,hw⟩;exact False.elim hw⟩));have hr:List.range 12=[0,1,2,3,4,5,6,7,8,9,10,11]:=rfl;rw[hr];clear hr;simp only[List.drop_succ_cons,List.drop_zero,List.drop_nil,ak,Act.put,aA,h0,h1,h2,h3,h4,h5,h6,h7,h8,h9,h10,h11];clear h0 h1 h2 h3 h4 h5 h6 h7 h8 h9 h10 h11;have c0:=bs.cell 0 _ rfl;have c1:=bs.cell 1 _ rfl;have c2:=bs.cell 2 _ rfl;have c3:=bs.cell 3 _ rfl;have cfz:=bs.free;have bU:=bs.lt;have vM:=hid bs;have FM:=hid hB;clear bs hB hg hsz;go_wp2_with fail;go_roundw
    case rel=>
     obtain⟨hp1,hp2⟩:=aii vM.out (.int .i64 (m0:Nat)) (.int .i64 (m1:Nat)) (.int .i64 (m2:Nat)) (.int .i64 (m3:Nat));have hd8:=KH.out.below FM.out;have hnS:¬S g:=fun hs=>Nat.lt_irrefl _ (jH.out g hs);have hgW:W0.heap.size<=g:=by have:=HW.out.size;have:=ru.out;omega
     refine⟨t+1,by omega,rfl,by simp,?_,hd8.grow hp2 (fun k hk e=>hnS (e▸hk)) (hd8.bel.trans (hp2.below (fun k hk=>⟨Nat.lt_of_lt_of_le hk hd8.bel.size,fun e=>by omega⟩))),(Yi.out.trans (lT FM.out)).trans (hp2.mono (fun k e=>.inr e))⟩;rw[HST.out];exact hp1
    case measure=>simp[intOf];omega
   ·have b1:decide ((a0:Int)<(m0:Int))=false:=by simpa using hgt
    have HST:Hid (lC D.sec (t+1)=(a0,a1,a2,a3)):=hid (by rw[sS.out,if_neg hgt]);have RZ:=hid hgt;clear hgt sS;refine aQ (Yf d g gb t a0 a1 a2 a3 m0 false) 5 [[],[0],[],[2],[0,1,2,3]] [some 20,some 21,some 22,some 23,some 24] (by kernel_rfl) (by kernel_rfl) rfl (mZ d g gb t a0 a1 a2 a3 m0 false) (ED d g gb t a0 a1 a2 a3 m0 false) ?Yj ?_
    case Yj=>
     intro i hi o ho vs lo eX w' hg hp;have hsz:=hg.size;have hgB:Below y1.heap.size y1 w':=hg.below (fun k hk=>⟨hk,fun o=>by rintro⟨j,_,_,_,hw⟩;exact False.elim hw⟩);replace hp:=fun j hj=>(hp j hj).2.2.2
     match i,hi with
     | 0,_|2,_|3,_=>
      cases ho;simp only[aA,mZ]at hp
      first|simp only[ak,Act.put,aA,hp]|simp only[ak,Act.put,aA]
      try have e0:=(hg.cell (g) 0 bs.lt (by rintro⟨j,_,hne,hb,hw⟩;exact False.elim hw)).trans (bs.cell 0 _ rfl)
      go_wp2;exact⟨_,rfl,aB.refl _,rfl⟩
     | 1,_=>
      cases ho;simp only[ak,Act.put,aA];have h0:=hp 0 (by simp);simp only[mZ]at h0;rw[h0];go_wp2_with fail;refine(HN0.out _ hgB).mono ?_;rintro er wh ⟨rfl,hy⟩;obtain rfl:w'=wh:=hy.symm;go_wp2;exact⟨_,rfl,aB.refl _,rfl⟩
     | 4,_=>
      cases ho;simp only[ak,Act.put,aA];have h1:=hp 1 (by simp);have h3:=hp 3 (by simp);simp only[mZ]at h1 h3;rw[h1,h3];go_wp2;exact⟨_,rfl,aB.refl _,by simp only[mZ];congr 1;first|exact decide_eq_true RZ.out|exact decide_eq_false RZ.out⟩
     | (q+5),hq=>exact absurd hq (by omega)
    intro vS lo hi y7 hg hp hd;have hP:=fun j hj=>(hp j hj).2.2.2;have h0:=hP 0 (by decide);have h1:=hP 1 (by decide);have h2:=hP 2 (by decide);have h3:=hP 3 (by decide);have h4:=hP 4 (by decide);clear hP;simp only[mZ]at h0 h1 h2 h3 h4;clear hp hd;have hsz:=hg.size;replace bs:=bs.grow hg (by intro i _;rintro⟨j,_,hw⟩;exact False.elim hw);replace hB:=hB.trans (hg.below (fun k hk=>⟨by omega,fun o=>by rintro⟨j,_,hw⟩;exact False.elim hw⟩));have hr:List.range 5=[0,1,2,3,4]:=rfl;rw[hr];clear hr;simp only[List.drop_succ_cons,List.drop_zero,List.drop_nil,ak,Act.put,aA,h0,h1,h2,h3,h4];clear h0 h1 h2 h3 h4;have vM:=hid bs;have FM:=hid hB;clear bs hB hg hsz;go_wp2_with fail;go_roundw
    case rel=>exact⟨t+1,by omega,rfl,by simp,by rw[HST.out];exact vM.out,KH.out.below FM.out,Yi.out.trans (lT FM.out)⟩
    case measure=>simp[intOf];omega
  ·obtain rfl:t=2:=by omega
   have c0:=HB.out.cell 0 _ rfl;have c1:=HB.out.cell 1 _ rfl;have c2:=HB.out.cell 2 _ rfl;have c3:=HB.out.cell 3 _ rfl;have cfz:=HB.out.free;have bU:=HB.out.lt;go_wp2_with fail;clear c0 c1 c2 c3 cfz bU;obtain⟨hp1,hp2⟩:=aii HB.out (.int .i64 (a0:Nat)) (.int .i64 (a1:Nat)) (.int .i64 (a2:Nat)) (.int .i64 (a3:Nat));generalize ((((wr.setCell ⟨g,0,none⟩ (.int .i64 (a0:Nat))).setCell ⟨g,1,none⟩ (.int .i64 (a1:Nat))).setCell ⟨g,2,none⟩ (.int .i64 (a2:Nat))).setCell ⟨g,3,none⟩ (.int .i64 (a3:Nat)))=y2 at *;have hag:(isAgg 131).run Tryz.prog y2=.ok true y2:=by kernel_rfl
   have hsz:(Go.sizeOf 131).run Tryz.prog y2=.ok 4 y2:=by kernel_rfl
   have q0:=hp1.cell 0 _ rfl;have q1:=hp1.cell 1 _ rfl;have q2:=hp1.cell 2 _ rfl;have q3:=hp1.cell 3 _ rfl;refine bodyPost_ret (v:=.tuple #[.agg #[.int .i64 (a0:Nat),.int .i64 (a1:Nat),.int .i64 (a2:Nat),.int .i64 (a3:Nat)],.int .i64 0]) ?_ rfl ?_
   ·simp[results,Tryz.results78,go_sem,loadVar,hag,hsz,loadCells,asAddr,Result.andThen,q0,q1,q2,q3]
   ·refine⟨by rw[HAK.out],?_⟩;have hnS:¬S g:=fun hs=>Nat.lt_irrefl _ (jH.out g hs);have hfo:aj S w y2:=((aj.step (X:=S) (Y:=fun _=>False) (aj.refl w) (aC (by rw[ru.out];exact ji.out)) (fun _ _ h=>h.elim)).step vP.out (fun q hq e=>e.elim (fun e=>e▸HDS.out) (fun e=>absurd hq (by have:=ru.out;omega)))).step hp2 (fun q hq e=>absurd hq (by have:=ru.out;omega));refine⟨lF.out.grow hp2 (fun k hk e=>hnS (e▸hk)) (lF.out.bel.trans (hp2.below (fun k hk=>⟨Nat.lt_of_lt_of_le hk lF.out.bel.size,fun e=>?_⟩))),hfo,fun k hk=>.inl hk⟩;have:=HW.out.size;have:=ru.out;omega
end
end
end Go.Proofs.YtpajagkhmodbnaaGreat

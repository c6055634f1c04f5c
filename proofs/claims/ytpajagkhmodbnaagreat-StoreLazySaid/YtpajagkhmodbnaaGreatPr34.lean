/- Pr: texts of the store seat laid together by program: ReClean. Conditions: each theorem names its own. -/
import Derived.Test.YtpajagkhmodbnaaGreatPr20
import Derived.Test.YtpajagkhmodbnaaGreatPr23
import Derived.Test.YtpajagkhmodbnaaGreatPr33
namespace Go.Proofs.YtpajagkhmodbnaaGreat
set_option maxRecDepth 100000
set_option maxHeartbeats 6400000
open Lib(hid)
set_option linter.unusedSimpArgs false
set_option linter.unusedVariables false
section
open Go.RowKit
def BU(W0 ws:World)(A:bG)(c:Cf)(σ:St)(vl vo:Value)(EL:List Le)(EO:List Te)(K S1:Nat->Prop)(p1 p2:Int)(t4:Nat)(j b:Nat):Prop:=(j=6/\S1 b)
def qF(W0 ws:World)(A:bG)(c:Cf)(σ:St)(vl vo:Value)(EL:List Le)(EO:List Te)(K S1:Nat->Prop)(p1 p2:Int)(t4:Nat)(i:Nat)(VS:Nat->Value)(LO HI:Nat->Nat)(v:Value)(lo hi:Nat)(w:World):Prop:=
 match i with
 | 0=>v=.pointer (some ⟨A.sb,0,none⟩)
 | 1=>v=.pointer (some ⟨A.sb,0,none⟩)
 | 2=>v=.pointer (some ⟨A.sb,3,none⟩)
 | 3=>v=.pointer (some ⟨A.g,0,none⟩)
 | 4=>v=.pointer (some ⟨t4,0,none⟩)
 | 5=>v=.int .i64 p1
 | 6=>∃S8,v=.int .i64 0/\aP W0 w A c { σ with p:=(σ.p.bQ c.ops σ.io p1).2.1,io:=(σ.p.bQ c.ops σ.io p1).2.2 } vl vo EL EO K S8/\aG S1 S8 ws w
 | 7=>v=.int .i64 0
 | _=>True
abbrev X4:List (List Nat):=[[],[0],[0,1],[0,1,2],[],[4],[0,1,2,3,4,5],[0,1,2,3,4,5,6]]
theorem Sv(W0 ws:World)(A:bG)(c:Cf)(σ:St)(vl vo:Value)(EL:List Le)(EO:List Te)(K S1:Nat->Prop)(p1 p2:Int)(t4:Nat)  : ∀i j,i<8->j<8->j≠i->j∉X4.getD i []->(i,j)∉([]:List (Nat×Nat))->∀VS LO HI v lo hi w w',qF W0 ws A c σ vl vo EL EO K S1 p1 p2 t4 i VS LO HI v lo hi w->aj (BU W0 ws A c σ vl vo EL EO K S1 p1 p2 t4 j) w w'->qF W0 ws A c σ vl vo EL EO K S1 p1 p2 t4 i VS LO HI v lo hi w':=by
 intro i j hi hj hne hbs hx VS LO HI v lo hj2 w w' h hg
 match i,hi with
 | 0,_|1,_|2,_|3,_|4,_|5,_|7,_=>
  simp only[qF]at h⊢;exact h
 | 6,_=>
  simp only[qF]at h⊢;obtain⟨S8,h1,h2,h3⟩:=h;have hgx:aj (fun _=>False) w w':=hg.mono (fun b hb=>hne hb.1);exact⟨S8,h1,h2.stay hgx,h3.trans (aG.below hgx)⟩
 | (q+8),hq=>exact absurd hq (by omega)
theorem X5(W0 ws:World)(A:bG)(c:Cf)(σ:St)(vl vo:Value)(EL:List Le)(EO:List Te)(K S1:Nat->Prop)(p1 p2:Int)(t4:Nat):∀i,i<8->∀VS dZ LO eu HI eF v lz hz w,(∀j∈X4.getD i [],VS j=dZ j/\LO j=eu j/\HI j=eF j)->qF W0 ws A c σ vl vo EL EO K S1 p1 p2 t4 i VS LO HI v lz hz w->qF W0 ws A c σ vl vo EL EO K S1 p1 p2 t4 i dZ eu eF v lz hz w:=by
 intro i hi VS dZ LO eu HI eF v lz hz w he h
 match i,hi with
 | 0,_|1,_|2,_|3,_|4,_|5,_|6,_|7,_=>
  simp only[qF]at h⊢;exact h
 | (q+8),hq=>exact absurd hq (by omega)
section
variable{W0 w w' w2:World}{A:bG}{c:Cf}{nf:Nat}{σ:St}{S:Nat->Prop}{W:Nat->List UInt8}{vl vo gV:Value}{EL:List Le}{EO:List Te}{K S1:Nat->Prop}{X:Nat->Prop}
theorem Md(l:List (Int×Int)):∀(i:Nat)(x:Int×Int),l[i]? = some x->(jM l)[i*2]? = some (.int .i64 x.1)/\(jM l)[i*2+1]? = some (.int .i64 x.2):=by
 induction l with
 | nil=>intro i x h;cases h
 | cons a r ih=>
  intro i x h;cases i with
  | zero=>
   obtain rfl:=Option.some.inj h;exact⟨rfl,rfl⟩
  | succ i=>
   obtain⟨h1,h2⟩:=ih i x h;have e:jM (a::r)=[.int .i64 a.1,.int .i64 a.2]++jM r:=by simp[jM]
   rw[e];refine⟨?_,?_⟩
   ·rw[List.getElem?_append_right (by show 2<=_;omega)];show(jM r)[(i+1)*2-2]? = _;rw[show(i+1)*2-2=i*2 by omega];exact h1
   ·rw[List.getElem?_append_right (by show 2<=_;omega)];show(jM r)[(i+1)*2+1-2]? = _;rw[show(i+1)*2+1-2=i*2+1 by omega];exact h2
theorem St.Jv(s:St)(c:Cf)(m:Int):(s.p.bQ c.ops s.io m).1=0/\jy s { s with p:=(s.p.bQ c.ops s.io m).2.1,io:=(s.p.bQ c.ops s.io m).2.2 } 1:=by
 obtain⟨h1,h2,h3⟩:=aa6 c.n c.fr s.p s.io m;exact⟨h1,⟨h2,h3,rfl,rfl,rfl,rfl,rfl,rfl,rfl⟩⟩
theorem akg(n fr:Nat)(s:Io)(l:Int)(h:s.R.tail=s.R.fin):((Io.ops n fr).step s l).2.R=s.R:=by
 show(if _ then _ else _:Int×Io).2.R=_;split
 ·show(s.R.flush n s.D).1=_;unfold Rg.flush;rw[if_pos h]
 ·rfl
theorem afN(c:Cf)(p:Pq)(s:Io)(m:Int)(h:s.R.tail=s.R.fin):(p.bQ c.ops s m).2.2.R=s.R:=by
 show(p.bQ (Io.ops c.n c.fr) s m).2.2.R=s.R;unfold Pq.bQ;split
 ·rfl
 ·next i _=>
  have h1:(p.clean (Io.ops c.n c.fr) s i).2.2.R=s.R:=by
   unfold Pq.clean;split
   ·rw[if_pos (step_ok c.n c.fr s _).1];exact akg c.n c.fr s _ h
   ·rfl
  rw[if_pos (uj c.n c.fr p s i).1];exact h1
theorem fG.bQ(hc:c.ok)(h:fG c nf σ W)(m:Int):fG c nf { σ with p:=(σ.p.bQ c.ops σ.io m).2.1,io:=(σ.p.bQ c.ops σ.io m).2.2 } W:=by
 obtain⟨V,h1,h2⟩:=h;obtain⟨_,h3,h4,h5⟩:=ZB (D6 hc) h1.J h1.inv m h1.hok;exact⟨V,⟨h3,h5,h4⟩,h2⟩
theorem acz(hc:c.ok)(h:aP W0 w A c σ vl vo EL EO K S1)(hD:fG c nf σ W)(hwr:σ.p.wr+A.nf<=1000000000):
  Calls Tryz.prog 90 #[.pointer (some ⟨A.sb,0,none⟩)] w fun er w'=>er=.returned (.int .i64 0)/\∃(σ':St)(aT:Nat->Prop),aP W0 w' A c σ' vl vo EL EO K aT/\jy σ σ' A.nf/\fG c nf σ' W/\(σ.io.R.tail=σ.io.R.fin->σ'.io.R=σ.io.R)/\aG S1 aT w w':=by
 have c3:=h.bC.cell 3 _ rfl;have bU:=h.bC.lt;have hcall:=Mc h.sp.io h.sp.1;have auV:A.nf<=1000000000:=by omega
 have HC:=hid hcall;have HS:=hid h;have HD:=hid hD;have YI:=hid hc;have nK:=hid hwr;clear h hcall hD hc hwr;go_enter Tryz.func90,Tryz.ntmps90;go_wp2_with fail;refine HC.out.mono ?_;rintro e wh ⟨cc,ao,m,rfl,hcd,hm,hmn,hr,hao,_,hbl⟩;have jD:=hid hr;have HM:=hid hm;have HMN:=hid hmn;have HSH:=hid (HS.out.below hbl);have HFH:Hid (aG S1 S1 w wh):=hid (aG.below (aC hbl));have HAO:Hid (∀q,(Value.slice ao m m).ownBlock=some q->¬S1 q/\q<wh.heap.size):=hid (fun q e=>⟨fun hs=>by have:=(HS.out.lt q (.inl hs)).2;have:=(hao q e).1;omega,(hao q e).2⟩);clear hcd hm hmn hr hao hbl c3 bU HC HS;go_wp2_with fail;go_loopw [4,5,12] (fun z4 z5 i wr=>∃(k:Nat)(σk:St)(Sk:Nat->Prop),k<=m/\i=.int .i64 (k:Nat)/\aP W0 wr A c σk vl vo EL EO K Sk/\jy σ σk k/\fG c nf σk W/\(σ.io.R.tail=σ.io.R.fin->σk.io.R=σ.io.R)/\aG S1 Sk wh wr) (fun _ _ i _=>m-(intOf i).toNat)
 case atStart=>exact⟨0,σ,S1,Nat.zero_le _,rfl,HSH.out,jy.refl σ,HD.out,fun _=>rfl,aG.below (aC (Below.refl _ _))⟩
 case round=>
  obtain⟨k,σk,Sk,hk,rfl,hsv,hss,hsd,hrr,hft⟩:=hrel;have HRR:=hid hrr;have sF:=hid hsv;have Es:=hid hss;have HSD:=hid hsd;have iQ:=hid hft;clear hsv hss hsd hft hrr;by_cases hkn:k<m
  ·obtain⟨⟨p1,p2⟩,hx⟩:∃x,cc[k]? = some x:=⟨_,List.getElem?_eq_getElem (by rw[HM.out];exact hkn)⟩
   have hrd:=jD.out.aH iQ.out.grow (fun q e=>(HAO.out q e).1);obtain⟨_,_,gb,go,yP,hbl,hcd⟩:=hrd.gG (by omega);subst yP;have z0:=hcd _ _ (Md cc k _ hx).1;have z1:=hcd _ _ (Md cc k _ hx).2;rw[<-Nat.add_assoc]at z1;have AO:=hid hkn;have hmb:m<=1000000000:=by have:=HMN.out;omega
   clear hrd hcd hx;go_upto_region 4 with (fail);have hal:=(Below.refl wr.heap.size wr).alloc (Nat.le_refl _) (.cells #[.int .i64 p1,.int .i64 p2] 123);have hbx:=Box.new wr #[.int .i64 p1,.int .i64 p2] 123 rfl;obtain⟨w4,hw4⟩:∃x,wr.alloc (.cells #[.int .i64 p1,.int .i64 p2] 123)=x:=⟨_,rfl⟩
   obtain⟨t4,Am⟩:∃x,wr.heap.size=x:=⟨_,rfl⟩
   have iD:=hid (sF.out.below hal);have ji:=hid hal;have FT:Hid (¬Sk t4):=hid (fun hs=>by have:=(sF.out.lt t4 (.inl hs)).2;omega);rw[hw4]at hbx iD ji;rw[Am]at hbx
   try rw[hw4]
   try rw[Am]
   have bt:Box w4 t4 [.int .i64 p1,.int .i64 p2]:=hbx;have bs:Box w4 A.sb [.pointer (some ⟨A.d,0,none⟩),.pointer (some ⟨A.r,0,none⟩),.pointer (some ⟨A.f,0,none⟩),.pointer (some ⟨A.g,0,none⟩),vl,vo,.int .i64 (σk.master:Nat),.int .i64 (σk.next:Nat),.int .i64 (σk.commits:Nat),.bool false,.int .i64 (σk.aW:Nat),.int .i64 (σk.aZ:Nat)]:=iD.out.bC;have hB:Below 0 w4 w4:=Below.refl _ _;clear z0 z1 hbl hbx hal hw4 Am;refine gK (BU W0 w4 A c σk vl vo EL EO K Sk p1 p2 t4) 8 X4 [some 16,some 17,some 18,some 19,some 20,some 21,some 22,some 5] [[],[0],[1],[2],[],[4],[3,5],[6]] [0,1,2,3,4,5,6,7] [] (by decide) (by kernel_rfl) (by kernel_rfl) rfl (qF W0 w4 A c σk vl vo EL EO K Sk p1 p2 t4) (X5 W0 w4 A c σk vl vo EL EO K Sk p1 p2 t4) (Sv W0 w4 A c σk vl vo EL EO K Sk p1 p2 t4) ?al3 ?_
   case al3=>
    intro i hi o ho vs lo eX w' hg hp hdd;have hsz:=hg.size;replace hp:=fun j hj=>(hp j hj).2.2.2
    match i,hi with
    | 0,_|4,_|1,_|2,_|3,_|5,_=>
     cases ho;simp only[aA,qF]at hp
     first|simp only[ak,Act.put,aA,hp]|simp only[ak,Act.put,aA]
     try have e0:=(bs.aH hg (by rintro⟨j,_,hne,hb,hw⟩;simp only[BU]at hw;obtain⟨rfl,hw⟩:=hw;first|exact hb (by decide)|exact hne rfl)).cell 3 _ rfl
     try have e1:=(bt.aH hg (by rintro⟨j,_,hne,hb,hw⟩;simp only[BU]at hw;obtain⟨rfl,hw⟩:=hw;first|exact hb (by decide)|exact hne rfl)).cell 0 _ rfl
     go_wp2;exact⟨_,rfl,aj.refl _,rfl⟩
    | 6,_=>
     cases ho;simp only[ak,Act.put,aA];have h3:=hp 3 (by simp);have h5:=hp 5 (by simp);simp only[qF]at h3 h5;rw[h3,h5];have hgx:aj (fun _=>False) w4 w':=hg.mono (fun b hw=>by obtain⟨q,_,hne,hb,hw⟩:=hw;simp only[BU]at hw;obtain⟨rfl,hw⟩:=hw;first|exact hb (by decide)|exact hne rfl);have hsv:=iD.out.stay hgx;have hcall:=Lh hsv p1 (by have h1:=Es.out.wr;have h2:=nK.out;have h3:=HMN.out;have h4:=AO.out;omega);rw[(σk.Jv c p1).1]at hcall;have cO:=hid hcall;clear hcall hsv;go_wp2_with fail;refine cO.out.mono ?_;rintro e y ⟨S8,rfl,h5,h6⟩;go_wp2;exact⟨_,rfl,h6.grow.mono (fun b h=>⟨rfl,h⟩),S8,rfl,h5,(aG.below hgx).trans h6⟩
    | 7,_=>
     cases ho;simp only[ak,Act.put,aA];have h6:=hp 6 (by simp);simp only[qF]at h6;obtain⟨S8,e6,_⟩:=h6;rw[e6];go_wp2;exact⟨_,rfl,aj.refl _,rfl⟩
    | (q+8),hq=>exact absurd hq (by omega)
   intro vS lo hi w5 hg hp hd;have hP:=fun j hj=>(hp j hj).2.2.2;have h0:=hP 0 (by decide) (by decide);have h1:=hP 1 (by decide) (by decide);have h2:=hP 2 (by decide) (by decide);have h3:=hP 3 (by decide) (by decide);have h4:=hP 4 (by decide) (by decide);have h5:=hP 5 (by decide) (by decide);have h6:=hP 6 (by decide) (by decide);have h7:=hP 7 (by decide) (by decide);clear hP;simp only[qF]at h0 h1 h2 h3 h4 h5 h6 h7;clear hp hd;have hsz:=hg.size;replace bt:=bt.aH hg (by rintro⟨j,_,hw⟩;simp only[BU]at hw;first|exact FT.out hw.2|omega);replace hB:=hB.trans (hg.below (fun k hk=>⟨by omega,by rintro⟨j,_,hw⟩;simp only[BU]at hw;first|exact FT.out hw.2|omega⟩));have hr:List.range 8=[0,1,2,3,4,5,6,7]:=rfl;rw[hr];clear hr;simp only[List.drop_succ_cons,List.drop_zero,List.drop_nil,ak,Act.put,aA,h0,h1,h2,h3,h4,h5,h7];clear h0 h1 h2 h3 h4 h5 h7;obtain⟨S6,_,Qa,Qb⟩:=h6;have ql:=hid Qa;have HF6:=hid Qb;have hes:=σk.Jv c p1;have HES:=hid hes;have HDE:=hid (HSD.out.bQ YI.out p1);clear Qa Qb hes bt hB hg hsz;go_wp2_with fail;go_roundw
   case rel=>
    have hkn:=AO.out;refine⟨k+1,_,S6,by omega,by go_num,ql.out,Es.out.trans HES.out.2,HDE.out,fun h=>by have h1:=HRR.out h;have h2:=afN c σk.p σk.io p1 (by rw[h1];exact h);exact h2.trans h1,?_⟩;exact iQ.out.trans ((aG.below (aC ji.out)).trans HF6.out)
   case measure=>have:=AO.out;simp[intOf];omega
  ·obtain rfl:m=k:=by omega
   go_wp2_with fail;go_ret;refine⟨rfl,σk,Sk,sF.out,?_,HSD.out,HRR.out,HFH.out.trans iQ.out⟩;have:=HMN.out;exact⟨by have:=Es.out.wr;omega,Es.out.R,Es.out.lines,Es.out.opn,Es.out.master,Es.out.next,Es.out.commits,Es.out.aW,Es.out.aZ⟩
end
end
end Go.Proofs.YtpajagkhmodbnaaGreat

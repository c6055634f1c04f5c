/- Pr: texts of the store seat laid together by program: New0. Conditions: each theorem names its own. -/
import Derived.Test.YtpajagkhmodbnaaGreatPr38
namespace Go.Proofs.YtpajagkhmodbnaaGreat
set_option maxRecDepth 100000
set_option maxHeartbeats 6400000
open Lib(hid)
set_option linter.unusedSimpArgs false
set_option linter.unusedVariables false
section
open Go.RowKit
section
variable{W0 w w' w2:World}{A:bG}{c:Cf}{σ:St}{S:Nat->Prop}{vl vo gV:Value}{EL:List Le}{EO:List Te}{K S1:Nat->Prop}{X:Nat->Prop}
theorem afO(h:aP W0 w A c σ vl vo EL EO K S1)(hnd:∀x∈σ.p.F,x.dirty=false):
  Calls Tryz.prog 90 #[.pointer (some ⟨A.sb,0,none⟩)] w fun er w'=>er=.returned (.int .i64 0)/\Below w.heap.size w w':=by
 have c3:=h.bC.cell 3 _ rfl;have bU:=h.bC.lt;have hcall:=Mc h.sp.io h.sp.1;have HC:=hid hcall;have AA:=hid hnd;clear h hcall hnd;go_enter Tryz.func90,Tryz.ntmps90;go_wp2_with fail;refine HC.out.mono ?_;rintro e wh ⟨cc,ao,m3,rfl,hc,P6,_,hr,_,_,hbl⟩;have hz:cc=[]:=by
  have h1:=hc.perm;have h2:iU σ.p.F=[]:=by
   unfold iU;rw[List.map_eq_nil_iff,List.filter_eq_nil_iff];intro x hx;rw[AA.out x hx];decide
  rw[h2]at h1;exact List.perm_nil.1 h1
 subst hz;obtain rfl:m3=0:=by simpa using P6.symm
 have HB:=hid hbl;clear hc P6 hr hbl;go_wp2_with fail;go_loopw [12] (fun i wr=>i=.int .i64 (0:Nat)/\wr=wh) (fun _ _=>0)
 case atStart=>exact⟨rfl,rfl⟩
 case round=>
  obtain⟨rfl,hy⟩:=hrel;obtain rfl:wh=wr:=hy.symm;go_wp2_with fail;go_ret;exact⟨rfl,HB.out⟩
theorem aaz(h:aP W0 w A c σ (.slice none 0 0) vo [] EO K S1)(st cm:Nat)(hst:σ.io.R.start=st)(hfi:σ.io.R.fin=st)(htl:σ.io.R.tail=st)(hnd:∀x∈σ.p.F,x.dirty=false)
  (hsn:st<=549755813888) (hma:σ.master<=1099511627776) (hnx:σ.next<=1099511627776) (hcm:cm<=1099511627776):
  Calls Tryz.prog 84 #[.pointer (some ⟨A.sb,0,none⟩),.int .i64 (cm:Nat)] w fun er w'=>∃K' aT,er=.returned (.int .i64 0)/\aP W0 w' A c (St.mark { σ with commits:=cm } st) (.slice none 0 0) vo [] EO K' aT/\aG (aO S1 (.slice none 0 0) vo EO K) (aO aT (.slice none 0 0) vo EO K') w w':=by
 have HS:=hid h;have HST:=hid hst;have xP:=hid hfi;have U7:=hid htl;have AA:=hid hnd;have LZ:=hid hma;have sH:=hid hnx;have hrd:=Vg h [] (fun r hr=>by cases hr) st 0 hst hfi (by rw[hfi,htl];exact Nat.le_refl _) (List.take_zero) rfl (by decide) hsn (by decide) hnx;have HR:=hid hrd;clear hrd;clear h hst hfi htl hnd hma hnx;go_enter Tryz.func84,Tryz.ntmps84;go_wp2_with fail;refine jC 0 rfl ?_;go_wp2_with fail;refine HR.out.mono ?_;rintro er y1 ⟨rfl,vl1,zL,K1,Sq1,hs1,hf1,arb⟩;obtain rfl:zL=[]:=List.eq_nil_of_length_eq_zero arb;have e1:({ σ with lines:=σ.lines++dG st [],next:=lW σ.next [] }:St)=σ:=by
  show({ σ with lines:=σ.lines++[] }:St)=σ;rw[List.append_nil]
 rw[e1]at hs1;obtain⟨al1,cl1,Ig⟩:=bF hs1.ln.row;simp only[List.length_nil]at Ig;subst Ig;have HB1:=hid hf1;clear e1 hf1;have gY:=hid hs1;have c4:=hs1.bC.cell 4 _ rfl;have bU:=hs1.bC.lt;clear hs1 HR;go_wp2_with fail;refine wp_loop_once ?_;go_wp2_with fail;refine(Uc _ _ _).mono ?_;rintro er y2 ⟨rfl,hy⟩;obtain rfl:y1=y2:=hy.symm;obtain⟨S2,hs2,hf2⟩:=gY.out.xq (σ':={ σ with commits:=0 }) 8 (by decide) (.int .i64 0) rfl rfl rfl rfl rfl;obtain⟨S3,hs3,hf3⟩:=hs2.xq (σ':={ σ with commits:=cm }) 8 (by decide) (.int .i64 (cm:Nat)) rfl rfl rfl rfl rfl;have Aw:=hid hs3;have ard:=hid (hf2.trans hf3);have c8o:=gY.out.bC.cell 8 _ rfl;have cfz:=gY.out.bC.free;have h4:=Zx hs3;have H4:=hid h4;clear hs2 hf2 hs3 hf3 c4 h4;go_wp2_with fail;refine H4.out.mono ?_;rintro er y3 ⟨rfl,hb3⟩;have sK:=hid (Aw.out.below hb3);have Pn:=hid (ard.out.trans (aG.below (aC hb3)));have c4:=sK.out.bC.cell 4 _ rfl;have c1:=sK.out.bC.cell 1 _ rfl;have arf:=sK.out.bC.lt;clear hb3 H4 c8o cfz bU;go_wp2_with fail;refine(QT _).mono ?_;rintro er y4 ⟨rfl,hy⟩;obtain rfl:y3=y4:=hy.symm;go_wp2_with fail;refine(abT _ _ _).mono ?_;rintro er y4 ⟨rfl,hy⟩;obtain rfl:y3=y4:=hy.symm;go_wp2_with fail;refine wp_loop_once ?_;go_wp2_with fail;refine wp_loop_once ?_;go_wp2_with fail;refine(WZ sK.out (U7.out.trans xP.out.symm)).mono ?_;rintro er y5 ⟨S6,rfl,hs6,tN⟩;have ql:=hid hs6;have HF6:=hid (Pn.out.trans tN);clear hs6 tN c4 c1 arf Pn sK;go_wp2_with fail;refine(afO ql.out AA.out).mono ?_;rintro er y6 ⟨rfl,hb6⟩;have Cc:=hid (ql.out.below hb6);have qZ:=hid (HF6.out.trans (aG.below (aC hb6)));have c1:=Cc.out.bC.cell 1 _ rfl;have arh:=Cc.out.bC.lt;clear hb6 HF6 ql;go_wp2_with fail;refine Cc.out.Zy.mono ?_;rintro er y7 ⟨rfl,hy⟩;obtain rfl:y6=y7:=hy.symm
 have h8:=Vy Cc.out st (fun e he=>by cases he) (by decide) (Nat.le_of_eq HST.out) (Nat.le_of_eq xP.out.symm) (Nat.le_trans hsn (by decide)) LZ.out sH.out hcm;rw[show(({ σ with commits:=cm }:St).io.R.fin)=st from xP.out];have H8:=hid h8;clear h8;go_wp2_with fail;refine H8.out.mono ?_;rintro er y8 ⟨S8,rfl,hs8,DF⟩;have l9:=hid hs8;have UR:=hid (HB1.out.trans ((iY qZ.out).trans DF));clear hs8 DF H8 c1 arh;go_wp2_with fail;go_step3;go_wp2_with fail
 try simp only[Exit.jump]
 try rw[Exit.noGoto_ret]
 go_ret
 first|exact⟨_,_,rfl,l9.out,UR.out⟩|exact⟨rfl,_,_,l9.out,UR.out⟩
end
theorem Ym{W0 w:World}{d:Nat}{D:Dv}{S:Nat->Prop}(h:DV W0 d D S w)(hg:D.good)(hc:D.c=[])(L:Nat)(hL:D.l.length=L)(hL1:128<=L)(hL2:L<=8192)(hz:∀i,D.sec i=dB)(nf:Nat)(hn1:1<=nf)(hn2:nf<=64):
  Calls Tryz.prog 37 #[.pointer (some ⟨d,0,none⟩),.int .i64 (nf:Nat)] w fun e w'=>∃(A:bG)(S':Nat->Prop)(σ':St),e=.returned (.tuple #[.pointer (some ⟨A.sb,0,none⟩),.int .i64 0])/\A.d=d/\A.nf=nf/\
   SV W0 A (Cf.of L) σ' S' w'/\σ'=St.mark ⟨⟨((D.reads 2).reads 1).reads 1,⟨0,[],0,0⟩⟩,Pq.new nf,[],[],0,1,0,0,0⟩ 0/\aG S S' w w':=by
 have hmz:lu dB=(0,0,0,0):=by decide
 have zk:(jg L).1=L / 4:=by unfold jg;rw[if_neg (by omega)]
 refine MG h hg hc L hL hL1 nf hn1 hn2 (fun t _=>by rw[hz];unfold Fj;rw[hmz];exact⟨Nat.zero_le _,Nat.zero_le _,Nat.zero_le _,Nat.zero_le _⟩) 0 0 0 0 1 ?_ ⟨by decide,by decide,.inr rfl⟩ (by decide) (hz _) ⟨0,[],0,0⟩ (fun q=>q=1) ?_ (fun σ'=>σ'=St.mark ⟨⟨((D.reads 2).reads 1).reads 1,⟨0,[],0,0⟩⟩,Pq.new nf,[],[],0,1,0,0,0⟩ 0) ?_
 ·have e0:∀k,lC D.sec k=(0,0,0,0):=fun k=>by
   induction k with
   | zero=>rfl
   | succ k ih=>
    show(if (lC D.sec k).1<(lu (D.sec k)).1 then lu (D.sec k)else lC D.sec k)=_;rw[hz,hmz,ih];rfl
  exact e0 2
 ·intro y hy;refine(Ld hy (hg.reads 2) (by rw[zk];omega) (by rw[zk];omega) (by rw[Dv.fM,hL,zk];omega) (by rw[Dv.rJ];exact hz 2)).mono ?_;rintro e w' ⟨r,S',rfl,h2,h3⟩;exact⟨r,S',1,rfl,rfl,h2,h3⟩
 ·rintro A y S1 q rfl hA hs;refine(aaz hs 0 0 rfl rfl rfl (fun x hx=>by rw[(List.eq_of_mem_replicate hx:x=Fm.free)];rfl) (by decide) (by show(0:Nat)<=_;decide) (by show(1:Nat)<=_;decide) (by decide)).mono ?_;rintro er w' ⟨K',aT,rfl,h1,h2⟩;exact⟨rfl,_,_,_,K',aT,h1,h2,rfl⟩
end
end Go.Proofs.YtpajagkhmodbnaaGreat

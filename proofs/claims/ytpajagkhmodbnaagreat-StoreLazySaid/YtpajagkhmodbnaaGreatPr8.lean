/- Pr: texts of the store seat laid together by program: DvSync FlKit FlGather FlLay FlPlain FlHead FlWrite FlFile FlOpen SpPlain. Conditions: each theorem names its own. -/
import Derived.Test.YtpajagkhmodbnaaGreatPr7
import Derived.Deep.DeepCutAuto
import Derived.Deep.CutBlock
namespace Go.Proofs.YtpajagkhmodbnaaGreat
set_option maxRecDepth 100000
set_option maxHeartbeats 3200000
open Lib(hid)
set_option linter.unusedSimpArgs false
set_option linter.unusedVariables false
section
open Go.RowKit
def af9(d gx gl nl cl yi cy:Nat)(ay:Option Addr)(vc:Value)(fu ca:Int)(de:Bool)(j b o:Nat):Prop:=False
def Gt(d gx gl nl cl yi cy:Nat)(ay:Option Addr)(vc:Value)(fu ca:Int)(de:Bool)(i:Nat)(v:Value)(lo hi:Nat)(w:World):Prop:=
 match i with
 | 0=>v=.pointer (some ⟨d,0,none⟩)
 | 1=>v=.pointer (some ⟨d,0,none⟩)
 | 2=>v=.pointer (some ⟨d,0,none⟩)
 | 3=>v=.slice (some ⟨gl,0,none⟩) nl cl
 | 4=>v=.pointer (some ⟨gx,0,none⟩)
 | 5=>v=.int .i64 ((yi:Nat):Int)
 | 6=>v=.pointer (some ⟨gx,1,none⟩)
 | 7=>v=.slice ay 128 cy
 | 8=>v=.pointer (some ⟨gl,yi,none⟩)
 | _=>True
theorem TF(d gx gl nl cl yi cy:Nat)(ay:Option Addr)(vc:Value)(fu ca:Int)(de:Bool)  : ∀i j,i<9->j<9->j≠i->j∉([[],[0],[0,1],[0,1,2],[],[4],[],[6],[0,1,2,3,4,5,6,7]]:List (List Nat)).getD i []->∀v lo hi w w',Gt d gx gl nl cl yi cy ay vc fu ca de i v lo hi w->aB (af9 d gx gl nl cl yi cy ay vc fu ca de j) w w'->Gt d gx gl nl cl yi cy ay vc fu ca de i v lo hi w':=by
 intro i j hi hj hne hbs v lo hj2 w w' h hg
 match i,hi with
 | 0,_|1,_|2,_|3,_|4,_|5,_|6,_|7,_|8,_=>
  simp only[Gt]at h⊢;exact h
 | (q+9),hq=>exact absurd hq (by omega)
theorem mJ{w:World}{base e K n cap g:Nat}{v:Value}{xs:List Value}(h:w.ownsRow base e K v n xs)(hv:v=.slice (some ⟨g,0,none⟩) n cap)(o:Nat):w.frozen? ⟨g,o,none⟩=false:=by
 subst hv;rcases h.2 with ⟨h0,_⟩|⟨g',cap',cur,e0,_,hg,_⟩
 ·simp at h0
 ·injection e0 with e1 e2 e3;injection e1 with e1;injection e1 with e1;subst e1;exact lJ hg o
theorem iJ.drop{w:World}{G d:Nat}{D:Dv}{vl vc:Value}{EL:List Se}{EC:List Ce}{K:Nat->Prop}(h:iJ w G d D vl vc EL EC K):
  iJ (w.setCell ⟨d,1,none⟩ (.slice none 0 0)) G d { D with c:=[] } vl (.slice none 0 0) EL [] K/\aj (fun k=>k=d) w (w.setCell ⟨d,1,none⟩ (.slice none 0 0)):=by
 obtain⟨k1,k2⟩:=Box.set1 h.box 1 (.slice none 0 0);have k3:aj (fun k=>k=d) w (w.setCell ⟨d,1,none⟩ (.slice none 0 0)):=aj.aK k2 (fun k o h=>h.1);exact⟨⟨k1,aI h.nH k3 (fun q e=>(h.kl q e).2.1),World.ownsRow_nil _ _ _ _,h.lZ,rfl,fun e he=>(h.N7 e he).grow k3 (fun k hk e=>h.kd (e▸hk)),(fun e he=>by cases he),
  fun k hk=>⟨(h.kin k hk).1,Nat.lt_of_lt_of_le (h.kin k hk).2 k3.size⟩,h.kd,fun q e=>⟨(h.kl q e).1,(h.kl q e).2.1,fun e=>by cases e⟩,(fun q e=>by cases e),⟨h.ok.l,(fun x hx=>by cases hx),h.ok.n,h.ok.f1,h.ok.f2⟩⟩,k3⟩
def oO(E:List Se)(c:List Ce):List Se:=c.foldl (fun E e=>E.set e.1 (e.2.1,e.2.2)) E
theorem oP(E:List Se)(c:List Ce):(oO E c).length=E.length:=by
 induction c generalizing E with
 | nil=>rfl
 | cons x r ih=>show(oO (E.set x.1 (x.2.1,x.2.2)) r).length=_;rw[ih,List.length_set]
theorem Oc(E:List Se)(c:List Ce)(x:Ce):oO E (c++[x])=(oO E c).set x.1 (x.2.1,x.2.2):=by simp[oO,List.foldl_append]
theorem Oe{W0 w:World}{d:Nat}{D:Dv}{S:Nat->Prop}(h:DV W0 d D S w)(kL:D.dead=false):
  Calls Tryz.prog 126 #[.pointer (some ⟨d,0,none⟩)] w fun e w'=>∃S',e=.returned (.int .i64 (jS D.bJ.1))/\DV W0 d D.sync S' w'/\aG S S' w w':=by
 obtain⟨vl,vc,EL,EC,K,h1,h2,h3,rfl⟩:=h;have c3:=h1.box.cell 3 _ rfl;rw[kL]at c3;have hlt:=h1.box.lt;obtain⟨nc,hnc⟩:∃n,EC.length=n:=⟨_,rfl⟩
 obtain⟨nl,hnl⟩:∃n,EL.length=n:=⟨_,rfl⟩
 obtain⟨ac,cc,CV⟩:=bF h1.pO;rw[hnc]at CV;have af0:nc<=9223372036854775807:=by have:=Uu h1.pO;omega
 have CX:=hid CV;have Fz:=hid hnc;have xJ:=hid hnl;have H1:=hid h1;have H3:=hid h3;have hcall:=Ut h1;unfold Dv.sync;clear h1 h3 kL CV hnc hnl;cases hbn:D.bJ.1 with
 | false=>
  rw[hbn]at hcall;have HC:=hid hcall;clear hcall;go_enter Tryz.func126,Tryz.ntmps126;go_wp2_with fail;refine HC.out.mono ?_;rintro e w2 ⟨rfl,hat,hgr⟩;have HA:=hid hat;have HG:=hid hgr;clear hat hgr;simp only[jS];go_wp2_with fail;go_ret;refine⟨rfl,_,⟨_,_,EL,EC,K,HA.out,h2,H3.out.trans (HG.out.below (fun k hk=>⟨Nat.lt_of_lt_of_le hk H3.out.size,fun e=>by omega⟩)),rfl⟩,⟨HG.out.mono (fun k e=>.inl e),fun k h=>.inl h⟩⟩
 | true=>
  rw[hbn]at hcall;have HC:=hid hcall;clear hcall;go_enter Tryz.func126,Tryz.ntmps126;go_wp2_with fail;refine HC.out.mono ?_;rintro e w2 ⟨rfl,hat,hgr⟩;have HA:=hid hat;have HG:=hid hgr;have c1:=hat.box.cell 1 _ rfl;rw[CX.out]at c1;have hlt2:=hat.box.lt;clear hat hgr;simp only[jS];go_wp2_with fail;go_loopw [20] (fun z wr=>∃j:Nat,j<=nc/\z=.int .i64 j/\iJ wr W0.heap.size d { D.bJ.2 with l:=kM D.bJ.2.l (D.bJ.2.c.take j) } vl vc (oO EL (EC.take j)) EC K/\aj (fun k=>k=d\/vl.ownBlock=some k) w2 wr) (fun z _=>nc-(intOf z).toNat)
  case atStart=>exact⟨0,Nat.zero_le _,rfl,HA.out,aj.refl _⟩
  case round=>
   obtain⟨j,hj,rfl,hat,hgw⟩:=hrel;have HAT:=hid hat;have FB:=hid hgw;clear hat hgw;by_cases hjn:j<nc
   case neg=>
    have hjb:decide (j<nc)=false:=by simpa using hjn
    have hbx:=HAT.out.box;have cx1:=hbx.cell 1 _ rfl;have cxf:=hbx.free;have hltx:=hbx.lt;clear hbx;go_wp2_with fail;go_ret;obtain⟨k1,k2⟩:=HAT.out.drop;have e1:D.bJ.2.c.take j=D.bJ.2.c:=List.take_of_length_le (by rw[HA.out.wK,List.length_map,Fz.out];omega);have e2:EC.take j=EC:=List.take_of_length_le (by rw[Fz.out];omega);rw[e1,e2]at k1;have hs1:=HG.out.size;have hs2:=FB.out.size;refine⟨rfl,_,⟨_,_,_,_,_,k1,h2,?_,rfl⟩,⟨((HG.out.mono (fun k e=>.inl e)).step FB.out (fun q _ e=>e.elim .inl (fun e=>.inr (.inl e)))).step k2 (fun q _ e=>.inl e),?_⟩⟩
    ·refine H3.out.trans (Below.trans (HG.out.below (fun k hk=>⟨Nat.lt_of_lt_of_le hk H3.out.size,fun e=>by omega⟩)) (Below.trans (FB.out.below (fun k hk=>⟨by have:=H3.out.size;omega,fun e=>e.elim (fun e=>by omega) (fun e=>by have:=(H1.out.nH.lt k e).1;omega)⟩)) (k2.below (fun k hk=>⟨by have:=H3.out.size;omega,fun e=>by omega⟩))))
    ·rintro k (e|e|e|e)
     ·exact .inl (.inl e)
     ·exact .inl (.inr (.inl e))
     ·cases e
     ·exact .inl (.inr (.inr (.inr e)))
   have hjb:decide (j<nc)=true:=by simpa using hjn
   have N9:=hid hjn;have hje:j<EC.length:=by rw[Fz.out];exact hjn
   have hjc:j<D.bJ.2.c.length:=by rw[HA.out.wK,List.length_map];exact hje
   have htk:D.bJ.2.c.take (j+1)=D.bJ.2.c.take j++[(EC[j].1,EC[j].2.1)]:=by
    rw[List.take_succ_eq_append_getElem hjc];congr 2;simp only[HA.out.wK,List.getElem_map]
   have JH:EC.take (j+1)=EC.take j++[EC[j]]:=List.take_succ_eq_append_getElem hje;have hmem:EC[j]∈EC:=List.getElem_mem hje;have Gs:=HAT.out.ctx EC[j] hmem;have hok:=HA.out.ok.c (EC[j].1,EC[j].2.1) (by rw[HA.out.wK];exact List.mem_map_of_mem (f:=fun e:Ce=>(e.1,e.2.1)) hmem);rw[HA.out.lZ,List.length_map,xJ.out]at hok;obtain⟨b2,o2,c2,e2,aoD,_,hc1,hc2⟩:=Ces.at (Reads.aY HAT.out.pO) j hje EC[j] (List.getElem?_eq_getElem hje);have hll:=oP EL (EC.take j);obtain⟨gl,cl,Ig,_,hgl,_,_⟩:=AU HAT.out.nH (fun e=>by
    rcases HAT.out.nH.2 with ⟨_,h0⟩|⟨g,cap,cur,h',_⟩
    ·rw[hll,xJ.out]at h0;have:=hok.1;omega
    ·rw[e]at h';cases h')
   rw[hll,xJ.out]at Ig;rw[CX.out]at e2;injection e2 with e21 e22 e23;subst e21 e23;clear e22;have HM:=hid hmem;have vF:=hid htk;have aaS:=hid JH;have HCX:=hid Gs;generalize EC[j]=y at *;obtain⟨yi,yl,yv⟩:=y;obtain⟨ay,cy,hyv⟩:=Gs.1.shape;simp only at hc1 hc2 hyv hok;rw[hok.2]at hyv;rw[hyv]at hc2;have hyn:=hok.1;have pX:=hid Ig;have HYV:=hid hyv;clear htk JH Gs hyv hok hjc hje hmem hll Ig;have hal:aj (fun _=>False) wr (wr.alloc (.cells #[.int .i64 (yi:Nat),.slice ay 128 cy] 130)):=aC ((Below.refl _ _).alloc (Nat.le_refl _) _);have bx:=Box.new wr #[.int .i64 (yi:Nat),.slice ay 128 cy] 130 rfl;have hA6:=HAT.out.grow hal (fun h=>h) (fun _ _ h=>h) (fun _ _ h=>h) (fun _ _ h=>h);have xK:=hid (FB.out.step hal (fun _ _ h=>h.elim));obtain⟨fu,hfu⟩:∃f,D.bJ.2.fuse=f:=⟨_,rfl⟩
   obtain⟨ca,hca⟩:∃f,D.bJ.2.calls=f:=⟨_,rfl⟩
   obtain⟨de,hde⟩:∃f,D.bJ.2.dead=f:=⟨_,rfl⟩
   have bd:=hA6.box;simp only[hfu,hca,hde]at bd;rw[pX.out]at bd;have Ae:=hid hA6;clear hal hfu hca hde hA6;go_upto_region 9 with (fail);obtain⟨gx,hgx⟩:∃g,wr.heap.size=g:=⟨_,rfl⟩
   rw[hgx]at bx⊢;clear hgx;generalize wr.alloc (.cells #[.int .i64 (yi:Nat),.slice ay 128 cy] 130)=w6 at *;replace bx:Box w6 gx [.int .i64 (yi:Nat),.slice ay 128 cy]:=bx;have hB:Below w6.heap.size w6 w6:=Below.refl _ _;refine aQ (af9 d gx gl nl cl yi cy ay vc fu ca de) 9 [[],[0],[0,1],[0,1,2],[],[4],[],[6],[0,1,2,3,4,5,6,7]] [some 24,some 25,some 26,some 27,some 28,some 29,some 30,some 31,some 32,none] (by kernel_rfl) (by kernel_rfl) rfl (Gt d gx gl nl cl yi cy ay vc fu ca de) (TF d gx gl nl cl yi cy ay vc fu ca de) ?aoH ?_
   case aoH=>
    intro i hi o ho vs lo eX w' hg hp;have hsz:=hg.size;have hgB:Below w6.heap.size w6 w':=hg.below (fun k hk=>⟨hk,fun o=>by rintro⟨j,_,_,_,hw⟩;exact False.elim hw⟩);replace hp:=fun j hj=>(hp j hj).2.2.2
    match i,hi with
    | 0,_|4,_|6,_|1,_|2,_|3,_|5,_|7,_=>
     cases ho;simp only[aA,Gt]at hp
     first|simp only[ak,Act.put,aA,hp]|simp only[ak,Act.put,aA]
     try have e0:=(hg.cell (d) 0 bd.lt (by rintro⟨j,_,hne,hb,hw⟩;exact False.elim hw)).trans (bd.cell 0 _ rfl)
     try have e1:=(hg.cell (gx) 0 bx.lt (by rintro⟨j,_,hne,hb,hw⟩;exact False.elim hw)).trans (bx.cell 0 _ rfl)
     try have e2:=(hg.cell (gx) 1 bx.lt (by rintro⟨j,_,hne,hb,hw⟩;exact False.elim hw)).trans (bx.cell 1 _ rfl)
     go_wp2;exact⟨_,rfl,aB.refl _,rfl⟩
    | 8,_=>
     cases ho;simp only[ak,Act.put,aA];have h3:=hp 3 (by simp);have h5:=hp 5 (by simp);simp only[Gt]at h3 h5;rw[h3,h5];have hq1:decide ((yi:Int)<(nl:Int))=true:=by simp;omega
     have hq2:decide ((yi:Int)<0)=false:=by simp
     have hq3:decide (yi<nl)=true:=by simp;omega
     go_wp2;exact⟨_,rfl,aB.refl _,rfl⟩
    | (q+9),hq=>exact absurd hq (by omega)
   intro vS lo hi w5 hg hp hd;have hP:=fun j hj=>(hp j hj).2.2.2;have h0:=hP 0 (by decide);have h1:=hP 1 (by decide);have h2:=hP 2 (by decide);have h3:=hP 3 (by decide);have h4:=hP 4 (by decide);have h5:=hP 5 (by decide);have h6:=hP 6 (by decide);have h7:=hP 7 (by decide);have h8:=hP 8 (by decide);clear hP;simp only[Gt]at h0 h1 h2 h3 h4 h5 h6 h7 h8;clear hp hd;have hsz:=hg.size;replace bd:=bd.grow hg (by intro i _;rintro⟨j,_,hw⟩;exact False.elim hw);replace bx:=bx.grow hg (by intro i _;rintro⟨j,_,hw⟩;exact False.elim hw);replace hB:=hB.trans (hg.below (fun k hk=>⟨by omega,fun o=>by rintro⟨j,_,hw⟩;exact False.elim hw⟩));have hr:List.range 9=[0,1,2,3,4,5,6,7,8]:=rfl;rw[hr];clear hr;simp only[List.drop_succ_cons,List.drop_zero,List.drop_nil,ak,Act.put,aA,h0,h1,h2,h3,h4,h5,h6,h7,h8];clear h0 h1 h2 h3 h4 h5 h6 h7 h8;have jF:=hid (Ae.out.grow (X:=fun _=>False) (aC hB) (fun h=>h) (fun _ _ h=>h) (fun _ _ h=>h) (fun _ _ h=>h));have jG:=hid (xK.out.step (Y:=fun _=>False) (aC hB) (fun _ _ h=>h.elim));have hyE:yi<(oO EL (EC.take j)).length:=by rw[oP,xJ.out];exact hyn
   obtain⟨b3,o3,c3,e3,_,_,Ii⟩:=Reads.at (Reads.aY jF.out.nH) yi hyE _ (by rw[List.getElem?_map,List.getElem?_eq_getElem hyE];rfl);rw[pX.out]at e3;injection e3 with e31 e32 e33;injection e31 with e31;injection e31 with e31 e34;subst e31 e34;simp only[Nat.zero_add]at Ii;have agb:vl=.slice (some ⟨gl,0,none⟩) (oO EL (EC.take j)).length cl:=by rw[oP,xJ.out];exact pX.out
   have hfz:=fun o=>mJ jF.out.nH agb o;clear agb;have aui:gl<w5.heap.size:=jF.out.nH.lt gl (by rw[pX.out];rfl) |>.2
   generalize ((oO EL (EC.take j))[yi]).2=auj at Ii;have HYE:=hid hyE;clear hB bx bd hyE e32 e33;go_wp2_with fail;go_roundw
   case rel=>
    refine⟨j+1,by have:=N9.out;omega,by go_num,?_,?_⟩
    ·have:=jF.out.aoG (gl:=gl) (cl:=cl) (by rw[oP,xJ.out];exact pX.out) yi HYE.out (yi,yl,yv) HM.out;rw[vF.out,TD,aaS.out,Oc];simp only[HYV.out]at this;simp only[HYV.out];exact this
    ·exact jG.out.step (aF w5 gl yi _) (fun q _ e=>.inr (by rw[pX.out,e];rfl))
   case measure=>have:=N9.out;simp[intOf];omega
end
section
open Go.RowKit
def iG(w:World)(f d:Nat)(fr pg:Nat)(de:Bool):Prop:=Box w f [.pointer (some ⟨d,0,none⟩),.int .i64 (fr:Nat),.int .i64 (pg:Nat),.bool de]
theorem Uy{w:World}{f d fr pg:Nat}{de:Bool}(h:iG w f d fr pg de)(hf:fr<=1048576)(p:Nat)(hp:p<=1048576):
  Calls Tryz.prog 114 #[.pointer (some ⟨f,0,none⟩),.int .i64 (p:Nat)] w fun e w'=>e=.returned (.int .i64 ((fr+5+4*p:Nat):Int))/\w'=w:=by
 have c1:=h.cell 1 _ rfl;have hlt:=h.lt;clear h;go_enter Tryz.func114,Tryz.ntmps114;go_wp2_with fail;go_ret;refine⟨rO ?_,rfl⟩;show Value.int .i64 _=_;congr 1
theorem aaT{w:World}{f d fr pg:Nat}{de:Bool}(h:iG w f d fr pg de):
  Calls Tryz.prog 51 #[.pointer (some ⟨f,0,none⟩)] w fun e w'=>e=.returned (.int .i64 (pg:Nat))/\w'=w:=by
 have c1:=h.cell 2 _ rfl;have hlt:=h.lt;clear h;go_enter Tryz.func51,Tryz.ntmps51;go_wp2_with fail;go_ret;exact⟨rfl,rfl⟩
end
section
open Go.RowKit
def dO(D:Dv)(q:Nat):Nat->List UInt8
 | 0=>[]
 | k+1=>dO D q k++D.sec (q+k)
theorem zh{D:Dv}(h:D.ok){q:Nat}:∀{k:Nat},q+k<=D.l.length->(dO D q k).length=128*k
 | 0,_=>rfl
 | k+1,hk=>by
  rw[dO,List.length_append,zh h (by omega),Dv.je h (by omega)];omega
theorem Buf.cell{w:World}{g:Nat}{l:List UInt8}(h:Buf w g l)(j:Nat)(u:Value)(hu:(l.map B)[j]? = some u):w.cell? ⟨g,j,none⟩=some u:=by
 have h':w.heap[g]? = some (.cells (l.map B).toArray 5 (0,0)):=h;simp[World.cell?,h',<-hu]
end
section
open Go.RowKit
def chunk(b:List UInt8)(k:Nat):List UInt8:=(b.drop (128*k)).take 128
theorem vH{b:List UInt8}{n k:Nat}(h:b.length=128*n)(hk:k<n):(chunk b k).length=128:=by
 rw[chunk,List.length_take,List.length_drop];omega
theorem Reads.aH{X:Nat->Prop}{K n:Nat}{w w':World}{v:Value}{xs:List Value}(h:Reads K w v n xs)(hg:aj X w w')(hX:∀b,v.ownBlock=some b->¬X b):Reads K w' v n xs:=by
 obtain⟨ao,c,rfl,hl,hc,hr⟩:=h;refine⟨ao,c,rfl,hl,hc,fun h0=>?_⟩;obtain⟨b,o,rfl,hb,hcell⟩:=hr h0;refine⟨b,o,rfl,Nat.lt_of_lt_of_le hb hg.size,fun j u hj=>?_⟩;rw[<-hcell j u hj];exact World.cell?_of_block (w:=w) (hg.block b hb (hX b rfl))
theorem Dv.pY{D:Dv}(h:D.bJ.1=true)(i:Nat)(l:List UInt8):(D.write i l).dead=D.dead/\(D.write i l).l=D.l/\(D.write i l).c=D.c++[(i,l)]:=by
 have hb:=Dv.Aa D;have hc:=Dv.wV D;unfold Dv.write;rw[if_pos h];refine⟨?_,hb.1,by rw[hb.2]⟩;rcases hc with hc|hc|hc
 ·rw[hc.2.1]at h;cases h
 ·exact hc.2.2.2.1
 ·exact hc.2.2.2.2.1
def Dv.dI(q:Nat)(b:List UInt8):Nat->Nat->Dv->Bool×Dv
 | 0,_,D=>(D.bJ.1,D.sync)
 | m+1,k,D=>if D.bJ.1 then Dv.dI q b m (k+1) (D.write (q+k) (chunk b k))else(false,D.write (q+k) (chunk b k))
theorem Reads.sub{w:World}{bq oq cv n k:Nat}{b:List UInt8}(hb:b.length=128*n)(h:Reads 1 w (.slice (some ⟨bq,oq,none⟩) (128*n) cv) (128*n) (b.map B))(hk:k<n):Reads 1 w (.slice (some ⟨bq,oq+128*k,none⟩) 128 (cv-128*k)) 128 ((chunk b k).map B):=by
 obtain⟨a,c,e,hl,hc,hr⟩:=h;injection e with e1 e2 e3;subst e1;subst e3;obtain⟨b2,o2,e4,hlt,hcell⟩:=hr (by omega);injection e4 with e5;injection e5 with e5 e6;subst e5;subst e6;refine⟨_,_,rfl,by rw[List.length_map,vH hb hk],by omega,fun _=>⟨bq,oq+128*k,rfl,hlt,fun j u hu=>?_⟩⟩;rw[Nat.add_assoc];apply hcell;rw[<-hu,List.getElem?_map,List.getElem?_map,chunk,List.getElem?_take,List.getElem?_drop];have hj:j<128:=by
  apply Classical.byContradiction;intro hc;rw[List.getElem?_eq_none (by rw[List.length_map,vH hb hk];omega)]at hu;cases hu
 rw[if_pos hj]
def agd(f d fr pg q nn k bq oq cv:Nat)(de:Bool)(j b o:Nat):Prop:=False
def qI(f d fr pg q nn k bq oq cv:Nat)(de:Bool)(i:Nat)(v:Value)(lo hi:Nat)(w:World):Prop:=
 match i with
 | 0=>v=.pointer (some ⟨f,0,none⟩)
 | 1=>v=.pointer (some ⟨f,0,none⟩)
 | 2=>v=.pointer (some ⟨f,0,none⟩)
 | 3=>v=.pointer (some ⟨d,0,none⟩)
 | 4=>v=.int .i64 ((q:Nat):Int)
 | 5=>v=.int .i64 ((k:Nat):Int)
 | 6=>v=.int .i64 ((q+k:Nat):Int)
 | 7=>v=.slice (some ⟨bq,oq,none⟩) nn cv
 | 8=>v=.int .i64 ((k:Nat):Int)
 | 9=>v=.int .i64 ((128*k:Nat):Int)
 | 10=>v=.int .i64 ((k:Nat):Int)
 | 11=>v=.int .i64 ((128*k:Nat):Int)
 | 12=>v=.int .i64 ((128*k+128:Nat):Int)
 | 13=>v=.slice (some ⟨bq,oq+128*k,none⟩) 128 (cv-128*k)
 | _=>True
theorem TG(f d fr pg q nn k bq oq cv:Nat)(de:Bool)  : ∀i j,i<14->j<14->j≠i->j∉([[],[0],[0,1],[0,1,2],[],[],[4,5],[],[],[8],[],[10],[10,11],[7,8,9,10,11,12]]:List (List Nat)).getD i []->∀v lo hi w w',qI f d fr pg q nn k bq oq cv de i v lo hi w->aB (agd f d fr pg q nn k bq oq cv de j) w w'->qI f d fr pg q nn k bq oq cv de i v lo hi w':=by
 intro i j hi hj hne hbs v lo hj2 w w' h hg
 match i,hi with
 | 0,_|1,_|2,_|3,_|4,_|5,_|6,_|7,_|8,_|9,_|10,_|11,_|12,_|13,_=>
  simp only[qI]at h⊢;exact h
 | (q+14),hq=>exact absurd hq (by omega)
theorem Ij{W0 w:World}{f d fr pg:Nat}{de:Bool}{D:Dv}{S:Nat->Prop}(hf:iG w f d fr pg de)(hfS:¬S f)(h:DV W0 d D S w)(kL:D.dead=false)(q n:Nat)(hn:0<n)(hq:q+n<=D.l.length)(hcl:D.c.length+n<=1048576)
  (b:List UInt8) (hb:b.length=128*n) (v:Value) (hv:Reads 1 w v (128*n) (b.map B)) (hsl:∀k,v.ownBlock=some k->¬S k):
  Calls Tryz.prog 113 #[.pointer (some ⟨f,0,none⟩),.int .i64 (q:Nat),v] w fun e w'=>∃S',e=.returned (.int .i64 (jS (Dv.dI q b n 0 D).1))/\DV W0 d (Dv.dI q b n 0 D).2 S' w'/\aG S S' w w':=by
 obtain⟨av,cv,rfl,hlm,qV,rQ⟩:=hv;obtain⟨bq,oq,rfl,hbq,hcell⟩:=rQ (by omega);have hv:Reads 1 w (.slice (some ⟨bq,oq,none⟩) (128*n) cv) (128*n) (b.map B):=⟨_,_,rfl,hlm,qV,fun _=>⟨bq,oq,rfl,hbq,hcell⟩⟩
 have hln:=h.ok.n;have hvm:128*n<=cv:=qV;obtain⟨nn,hnn⟩:∃k,128*n=k:=⟨_,rfl⟩
 rw[hnn]at hv hvm⊢;have hfw:f<w.heap.size:=hf.lt;have auk:nn<=1048576:=by omega
 have HN:=hid hnn;have HV:=hid hv;have HF:=hid hf;have HD:=hid h;have HB:=hid hb;have HSL:=hid (hsl bq rfl);have CY:=hid hfS;have HQ:=hid hq;have hq2:q<=8192:=by omega
 clear qV rQ hcell hlm hv hf h hb hsl hfS;go_enter Tryz.func113,Tryz.ntmps113;go_wp2_with fail;go_loopw [7] (fun z wr=>∃(k:Nat)(Dk:Dv)(Sk:Nat->Prop),k<=n/\z=.int .i64 k/\Dv.dI q b n 0 D=Dv.dI q b (n-k) k Dk/\Dk.dead=false/\Dk.l.length=D.l.length/\Dk.c.length+(n-k)<=1048576/\DV W0 d Dk Sk wr/\aG S Sk w wr) (fun z _=>n-(intOf z).toNat)
 case atStart=>exact⟨0,D,S,Nat.zero_le _,rfl,by rw[Nat.sub_zero],kL,rfl,hcl,HD.out,aG.below (aj.refl _)⟩
 case round=>
  obtain⟨k,Dk,Sk,hk,rfl,jB,hdk,hlk,hck,hdv,hft⟩:=hrel;have YH:=hid jB;have HDK:=hid hdk;have Og:=hid hlk;have YI:=hid hck;have lF:=hid hdv;have iQ:=hid hft;have agf:¬Sk f:=fun hs=>(hft.new f hs).elim CY.out (fun e=>by omega);have agh:¬Sk bq:=fun hs=>(hft.new bq hs).elim HSL.out (fun e=>by omega);have HFK:Hid (iG wr f d fr pg de):=hid (HF.out.aH hft.grow CY.out);have agi:=hid agf;have VN:=hid agh;clear jB hdk hlk hck hdv hft agf agh;have bf:Box wr f [.pointer (some ⟨d,0,none⟩),.int .i64 (fr:Nat),.int .i64 (pg:Nat),.bool de]:=HFK.out;have c0:=bf.cell 0 _ rfl;have hlf:=bf.lt;by_cases hkn:k<n
  case neg=>
   obtain rfl:k=n:=by omega
   have hwr:wrap64 ((k:Int)*128)=(nn:Int):=by have:=HN.out;rw[wrap64];omega
   go_wp2_with fail;refine(Oe lF.out HDK.out).mono ?_;rintro e w2 ⟨S2,rfl,agj,agk⟩;have H2:=hid agj;have H3:=hid agk;clear agj agk;go_wp2_with fail;go_ret;rw[YH.out,Nat.sub_self];exact⟨S2,rfl,H2.out,iQ.out.trans H3.out⟩
  have hwr:wrap64 ((k:Int)*128)=((128*k:Nat):Int):=by rw[wrap64];omega
  have hb1:decide (128*(k:Int)<(nn:Int))=true:=by have:=HN.out;simp;omega
  have hb2:decide (((128*k:Nat):Int)<(nn:Int))=true:=by have:=HN.out;simp;omega
  have hkn2:128*k+128<=nn:=by have:=HN.out;omega
  go_upto_region 4 with (fail);have hB:Below wr.heap.size wr wr:=Below.refl _ _;clear c0 hlf hwr hb1 hb2;refine aQ (agd f d fr pg q nn k bq oq cv de) 14 [[],[0],[0,1],[0,1,2],[],[],[4,5],[],[],[8],[],[10],[10,11],[7,8,9,10,11,12]] [some 16,some 17,some 18,some 19,some 20,some 21,some 22,some 23,some 24,some 25,some 26,some 27,some 28,some 29,some 30,some 8] (by kernel_rfl) (by kernel_rfl) rfl (qI f d fr pg q nn k bq oq cv de) (TG f d fr pg q nn k bq oq cv de) ?aoI ?_
  case aoI=>
   intro i hi o ho vs lo eX w' hg hp;have hsz:=hg.size;have hgB:Below wr.heap.size wr w':=hg.below (fun k hk=>⟨hk,fun o=>by rintro⟨j,_,_,_,hw⟩;exact False.elim hw⟩);replace hp:=fun j hj=>(hp j hj).2.2.2
   match i,hi with
   | 0,_|4,_|5,_|7,_|8,_|10,_|1,_|2,_|3,_=>
    cases ho;simp only[aA,qI]at hp
    first|simp only[ak,Act.put,aA,hp]|simp only[ak,Act.put,aA]
    try have e0:=(hg.cell (f) 0 bf.lt (by rintro⟨j,_,hne,hb,hw⟩;exact False.elim hw)).trans (bf.cell 0 _ rfl)
    go_wp2;exact⟨_,rfl,aB.refl _,rfl⟩
   | 6,_=>
    cases ho;simp only[ak,Act.put,aA];have h4:=hp 4 (by simp);have h5:=hp 5 (by simp);simp only[qI]at h4 h5;rw[h4,h5];go_wp2;refine⟨_,rfl,aB.refl _,?_⟩;simp only[qI];congr 1
    try rw[wrap64]
    first|done|omega
   | 9,_=>
    cases ho;simp only[ak,Act.put,aA];have h8:=hp 8 (by simp);simp only[qI]at h8;rw[h8];go_wp2;refine⟨_,rfl,aB.refl _,?_⟩;simp only[qI];congr 1
    try rw[wrap64]
    first|done|omega
   | 11,_=>
    cases ho;simp only[ak,Act.put,aA];have h10:=hp 10 (by simp);simp only[qI]at h10;rw[h10];go_wp2;refine⟨_,rfl,aB.refl _,?_⟩;simp only[qI];congr 1
    try rw[wrap64]
    first|done|omega
   | 12,_=>
    cases ho;simp only[ak,Act.put,aA];have h11:=hp 11 (by simp);simp only[qI]at h11;rw[h11];go_wp2;refine⟨_,rfl,aB.refl _,?_⟩;simp only[qI];congr 1
    try rw[wrap64]
    first|done|omega
   | 13,_=>
    cases ho;simp only[ak,Act.put,aA];have h7:=hp 7 (by simp);have h9:=hp 9 (by simp);have h12:=hp 12 (by simp);simp only[qI]at h7 h9 h12;rw[h7,h9,h12];go_wp2;have e13:128*k+128-128*k=128:=by omega
    rw[e13];exact⟨_,rfl,aB.refl _,rfl⟩
   | (q+14),hq=>exact absurd hq (by omega)
  intro vS lo hi w5 hg hp hd;have hP:=fun j hj=>(hp j hj).2.2.2;have h0:=hP 0 (by decide);have h1:=hP 1 (by decide);have h2:=hP 2 (by decide);have h3:=hP 3 (by decide);have h4:=hP 4 (by decide);have h5:=hP 5 (by decide);have h6:=hP 6 (by decide);have h7:=hP 7 (by decide);have h8:=hP 8 (by decide);have h9:=hP 9 (by decide);have h10:=hP 10 (by decide);have h11:=hP 11 (by decide);have h12:=hP 12 (by decide);have h13:=hP 13 (by decide);clear hP;simp only[qI]at h0 h1 h2 h3 h4 h5 h6 h7 h8 h9 h10 h11 h12 h13;clear hp hd;have hsz:=hg.size;replace bf:=bf.grow hg (by intro i _;rintro⟨j,_,hw⟩;exact False.elim hw);replace hB:=hB.trans (hg.below (fun k hk=>⟨by omega,fun o=>by rintro⟨j,_,hw⟩;exact False.elim hw⟩));have hr:List.range 14=[0,1,2,3,4,5,6,7,8,9,10,11,12,13]:=rfl;rw[hr];clear hr;simp only[List.drop_succ_cons,List.drop_zero,List.drop_nil,ak,Act.put,aA,h0,h1,h2,h3,h4,h5,h6,h7,h8,h9,h10,h11,h12,h13];clear h0 h1 h2 h3 h4 h5 h6 h7 h8 h9 h10 h11 h12 h13;have hgr5:aj (fun _=>False) wr w5:=aC hB;have HV5:Hid (DV W0 d Dk Sk w5):=hid (lF.out.below hB);have kN:Hid (Reads 1 w5 (.slice (some ⟨bq,oq+128*k,none⟩) 128 (cv-128*k)) 128 ((chunk b k).map B)):=hid (Reads.sub HB.out (by have h1:=HN.out;have h2:=HV.out;rw[<-h1]at h2;exact((show Reads 1 w _ _ _ from h2).aH iQ.out.grow (fun q e=>by have e2:bq=q:=(by simpa[Value.ownBlock]using e);exact e2▸HSL.out)).aH hgr5 (fun _ _ h=>h)) hkn);have agl:Hid (aG S Sk w w5):=hid (iQ.out.trans (aG.below hgr5));have ny:Hid (w.heap.size<=wr.heap.size):=hid iQ.out.grow.size;have hm1:n-k=(n-(k+1))+1:=by omega
  have KL:=hid hm1;clear hgr5 hB bf hg hsz hm1;cases hbn:Dk.bJ.1 with
  | false=>
   go_wp2_with fail;refine(yZ HV5.out HDK.out (by have:=YI.out;omega) (q+k) (by have:=Og.out;have:=HQ.out;omega) (chunk b k) (vH HB.out hkn) _ kN.out (fun e he=>by have e2:bq=e:=(by simpa[Value.ownBlock]using he);exact e2▸VN.out)).mono ?_;rw[hbn];rintro e w6 ⟨S6,rfl,CZ,Oh⟩;have H6:=hid CZ;have F6:=hid Oh;clear CZ Oh;simp only[jS];go_wp2_with fail;go_ret;rw[YH.out,KL.out,Dv.dI,hbn];exact⟨rfl,S6,H6.out,agl.out.trans F6.out⟩
  | true=>
   go_wp2_with fail;refine(yZ HV5.out HDK.out (by have:=YI.out;omega) (q+k) (by have:=Og.out;have:=HQ.out;omega) (chunk b k) (vH HB.out hkn) _ kN.out (fun e he=>by have e2:bq=e:=(by simpa[Value.ownBlock]using he);exact e2▸VN.out)).mono ?_;rw[hbn];rintro e w6 ⟨S6,rfl,CZ,Oh⟩;have H6:=hid CZ;have F6:=hid (agl.out.trans Oh);clear CZ Oh;simp only[jS];go_wp2_with fail;go_roundw
   ·refine⟨k+1,Dk.write (q+k) (chunk b k),S6,by omega,by simp,?_,?_,?_,?_,H6.out,F6.out⟩
    ·rw[YH.out,KL.out,Dv.dI,hbn];rfl
    ·exact(Dv.pY hbn (q+k) (chunk b k)).1.trans HDK.out
    ·rw[(Dv.pY hbn (q+k) (chunk b k)).2.1];exact Og.out
    ·rw[(Dv.pY hbn (q+k) (chunk b k)).2.2,List.length_append];have:=YI.out;simp only[List.length_cons,List.length_nil];omega
   ·simp[intOf];omega
end
section
structure Dv.good(D:Dv):Prop where
 ok:D.ok
 fuse:D.fuse = -1
 dead:D.dead=false
theorem Dv.good.bJ{D:Dv}(h:D.good):D.bJ.1=true/\D.bJ.2.fuse=D.fuse/\D.bJ.2.dead=D.dead:=by
 have hf:=h.fuse;rcases Dv.wV D with hc|hc|hc
 ·omega
 ·omega
 ·exact⟨hc.2.2.1,hc.2.2.2.1,hc.2.2.2.2.1⟩
theorem Dv.good.write{D:Dv}(h:D.good)(i:Nat)(l:List UInt8)(hi:i<D.l.length)(hl:l.length=128):(D.write i l).good/\(D.write i l).l=D.l/\(D.write i l).c=D.c++[(i,l)]:=by
 obtain⟨h1,h2,h3⟩:=h.bJ;obtain⟨f1,f2,f3⟩:=Dv.pY h1 i l;refine⟨⟨?_,?_,f1.trans h.dead⟩,f2,f3⟩
 ·have hok:=Dv.JF h.ok;obtain⟨b1,b2⟩:=Dv.Aa D;unfold Dv.write;rw[if_pos h1];refine⟨hok.l,fun x hx=>?_,hok.n,hok.f1,hok.f2⟩;rcases List.mem_append.1 hx with hx|hx
  ·exact hok.c x hx
  ·rw[List.mem_singleton.1 hx];exact⟨by rw[b1];exact hi,hl⟩
 ·unfold Dv.write;rw[if_pos h1];exact h2.trans h.fuse
theorem Dv.good.sync{D:Dv}(h:D.good):D.sync.good/\D.sync.l.length=D.l.length/\D.sync.c=[]/\∀i,D.sync.sec i=D.sec i:=by
 obtain⟨h1,h2,h3⟩:=h.bJ;obtain⟨b1,b2⟩:=Dv.Aa D;have hok:=Dv.JF h.ok;have eH:∀i,kX ((kM D.bJ.2.l D.bJ.2.c).getD i [])=kK i D.bJ.2.c (kX (D.bJ.2.l.getD i [])):=VL _ _ hok.c;unfold Dv.sync;rw[if_pos h1];refine⟨⟨⟨?_,(fun x hx=>by cases hx),?_,hok.f1,hok.f2⟩,h2.trans h.fuse,h3.trans h.dead⟩,?_,rfl,fun i=>?_⟩
 ·have hc:=hok.c;have hl:=hok.l;revert hc hl;generalize D.bJ.2.c=c;generalize D.bJ.2.l=l
  induction c generalizing l with
  | nil=>intro _ hl;exact hl
  | cons x r ih=>
   intro hc hl;refine ih (l.set x.1 x.2) (fun y hy=>?_) (fun s hs=>?_)
   ·rw[List.length_set];exact hc y (List.mem_cons_of_mem _ hy)
   ·rcases List.mem_or_eq_of_mem_set hs with hs|rfl
    ·exact hl s hs
    ·exact .inr (hc x (List.mem_cons_self ..)).2
 ·show(kM D.bJ.2.l D.bJ.2.c).length<=8192;rw[wC];exact hok.n
 ·show(kM D.bJ.2.l D.bJ.2.c).length=_;rw[wC,b1]
 ·show kX ((kM D.bJ.2.l D.bJ.2.c).getD i [])=_;rw[eH,b1,b2];rfl
theorem Dv.good.dI{q:Nat}{b:List UInt8}:∀(m k:Nat)(D:Dv),D.good->q+k+m<=D.l.length->b.length=128*(k+m)->
  (Dv.dI q b m k D).1=true/\(Dv.dI q b m k D).2.good/\(Dv.dI q b m k D).2.l.length=D.l.length/\(Dv.dI q b m k D).2.c=[]/\
  ∀i,(Dv.dI q b m k D).2.sec i=if q+k<=i/\i<q+k+m then chunk b (i-q)else D.sec i
 | 0,k,D,h,hq,hb=>by
  obtain⟨h1,h2,h3,h4⟩:=h.sync;refine⟨h.bJ.1,h1,h2,h3,fun i=>?_⟩;rw[if_neg (by omega)];exact h4 i
 | m+1,k,D,h,hq,hb=>by
  rw[Dv.dI,if_pos h.bJ.1];have hc:(chunk b k).length=128:=vH hb (by omega);obtain⟨w1,w2,w3⟩:=h.write (q+k) (chunk b k) (by omega) hc;obtain⟨h1,h2,h3,h4,h5⟩:=Dv.good.dI (q:=q) (b:=b) m (k+1) _ w1 (by rw[w2];omega) (by omega);refine⟨h1,h2,h3.trans (by rw[w2]),h4,fun i=>?_⟩;rw[h5];have hs:(D.write (q+k) (chunk b k)).sec i=if q+k=i then chunk b k else D.sec i:=by
   unfold Dv.sec;rw[w2,w3,wW]
  rw[hs];by_cases e1:q+k=i
  ·subst e1;rw[if_neg (by omega),if_pos rfl,if_pos (by omega)];congr 1;omega
  ·rw[if_neg e1];by_cases e2:q+(k+1)<=i/\i<q+(k+1)+m
   ·rw[if_pos e2,if_pos (by omega)]
   ·rw[if_neg e2,if_neg (by omega)]
theorem kP{D D':Dv}{q:Nat}:∀{n:Nat},(∀i,q<=i->i<q+n->D.sec i=D'.sec i)->dO D q n=dO D' q n
 | 0,_=>rfl
 | n+1,h=>by
  rw[dO,dO,kP (fun i h1 h2=>h i h1 (by omega)),h (q+n) (by omega) (by omega)]
theorem C9{D:Dv}{q:Nat}{b:List UInt8}:∀{n:Nat},128*n<=b.length->(∀k,k<n->D.sec (q+k)=chunk b k)->dO D q n=b.take (128*n)
 | 0,_,_=>by simp[dO]
 | n+1,hb,h=>by
  rw[dO,C9 (by omega) (fun k hk=>h k (by omega)),h n (by omega),chunk];rw[show 128*(n+1)=128*n+128 by omega,List.take_add]
end
section
open Go.RowKit
def hbyte(n i:Nat):UInt8:=UInt8.ofNat (n / 2 ^ (56-8*i))
def fO(n k:Nat):List UInt8:=(List.range k).map (hbyte n)++List.replicate (128-k) 0
theorem kQ(n:Nat){k:Nat}(hk:k<=128):(fO n k).length=128:=by simp[fO];omega
theorem Buf.set{w:World}{g:Nat}{l:List UInt8}(h:Buf w g l)(j:Nat)(hj:j<l.length)(x:UInt8):Buf (w.setCell ⟨g,j,none⟩ (B x)) g (l.set j x):=by
 unfold Buf;have h':w.heap[g]? = some (.cells (l.map B).toArray 5 (0,0)):=h;rw[Fq h' (B x)];simp[List.map_set]
theorem VO(n:Nat){k:Nat}(hk:k<8):fO n (k+1)=(fO n k).set k (hbyte n k):=by
 unfold fO;rw[List.range_succ,List.map_append,show 128-k=(128-(k+1))+1 by omega,List.replicate_succ,List.set_append_right _ _ (by simp)];simp
theorem EG(n k:Nat):B (hbyte n k)=.int .u8 ((n:Int) / 2 ^ (56-8*k) % 256):=by
 show Value.int .u8 (((UInt8.ofNat (n / 2 ^ (56-8*k))).toNat:Nat):Int)=_;rw[UInt8.toNat_ofNat'];simp
theorem aaU(n:Nat){k:Nat}(hk:k<8):((fO n k).map B)[k]? = some (B 0):=by
 unfold fO;rw[List.map_append,List.getElem?_append_right (by simp)];simp only[List.length_map,List.length_range,Nat.sub_self,List.map_replicate];rw[show 128-k=(127-k)+1 by omega,List.replicate_succ];rfl
theorem Oi(w:World)(a:Int)(n:Nat)(ha:a+1=(n:Nat))(hn:n<=1048576):
  Calls Tryz.prog 115 #[.int .i64 a] w fun e w'=>∃g,e=.returned (.slice (some ⟨g,0,none⟩) 128 128)/\Buf w' g (fO n 8)/\w.heap.size<=g/\aj (fun _=>False) w w':=by
 have hmk:=JG;go_enter Tryz.func115,Tryz.ntmps115;go_wp2_with fail;have hg0:aj (fun _=>False) w (w.alloc (.cells uf 5)):=aC ((Below.refl _ _).alloc (Nat.le_refl _) _);have hb0:=Buf.zero w;obtain⟨g,hg⟩:∃g,w.heap.size=g:=⟨_,rfl⟩
 rw[hg]at hb0⊢;generalize w.alloc (.cells uf 5)=w1 at *;go_loopw [6] (fun z wr=>∃k:Nat,k<=8/\z=.int .i64 k/\Buf wr g (fO n k)/\aj (fun _=>False) w wr) (fun z _=>8-(intOf z).toNat)
 case atStart=>exact⟨0,Nat.zero_le _,rfl,hb0,hg0⟩
 case round=>
  obtain⟨k,hk,rfl,hbuf,hgw⟩:=hrel;have HB:=hid hbuf;have HG:=hid hgw;by_cases hk8:k<8
  case neg=>
   obtain rfl:k=8:=by omega
   go_wp2_with fail;go_ret;exact⟨g,rfl,HB.out,by omega,HG.out⟩
  have hkb:decide ((k:Int)<8)=true:=by simp;omega
  have Ii:=hbuf.cell k (B 0) (aaU n hk8);have hfz:=fun o=>lJ hbuf o;have hlt:=hbuf.lt;clear hbuf hgw;go_wp2_with fail;rw[<-EG];refine⟨⟨k+1,by omega,by simp,?_,?_⟩,?_⟩
  ·rw[VO n hk8];exact HB.out.set k (by rw[kQ n (by omega)];omega) _
  ·exact HG.out.step (aF _ _ _ _) (fun q h1 h2=>by omega)
  ·simp[intOf];omega
end
section
open Go.RowKit
theorem jC{P:Program}{a:Act}{w:World}{Q:Exit->Act->World->Prop}{c rest:Code}(l:Nat)(hf:findLabel c l=some rest)
  (first:c.wp P (Exit.jump l (fun a w=>rest.wp P (Exit.jump l (fun _ _=>False) Q) a w) Q) a w):(Code.scope c).wp P Q a w:=by
 refine wp_scope_jumps l _ (fun _ _=>0) hf first (fun a w h=>wp_mono h ?_)
 intro e a w h;cases e with
 | goto l'=>exact absurd h.2 id
 | _=>exact h
theorem Dv.rU{q:Nat}{b:List UInt8}:∀(m k:Nat)(D:Dv),(Dv.dI q b m k D).1=true->(Dv.dI q b m k D).2.dead=D.dead/\(Dv.dI q b m k D).2.l.length=D.l.length/\(Dv.dI q b m k D).2.c=[]
 | 0,k,D,h=>by
  have h1:D.bJ.1=true:=h;show D.sync.dead=_/\D.sync.l.length=_/\D.sync.c=_;obtain⟨b1,b2⟩:=Dv.Aa D;unfold Dv.sync;rw[if_pos h1];refine⟨?_,?_,rfl⟩
  ·rcases Dv.wV D with hc|hc|hc
   ·rw[hc.2.1]at h1;cases h1
   ·exact hc.2.2.2.1
   ·exact hc.2.2.2.2.1
  ·show(kM D.bJ.2.l D.bJ.2.c).length=_;rw[wC,b1]
 | m+1,k,D,h=>by
  rw[Dv.dI]at h⊢;by_cases hb:D.bJ.1=true
  ·rw[if_pos hb]at h⊢;obtain⟨h1,h2,h3⟩:=Dv.rU m (k+1) _ h;obtain⟨f1,f2,f3⟩:=Dv.pY hb (q+k) (chunk b k);exact⟨h1.trans f1,h2.trans (by rw[f2]),h3⟩
  ·rw[if_neg hb]at h;cases h
def Dv.dQ (D:Dv) (fr p:Nat) (b:List UInt8):Bool×Dv:=
 if (Dv.dI (fr+1) b 4 0 D).1 then
  if (Dv.dI fr (fO (p+1) 8) 1 0 (Dv.dI (fr+1) b 4 0 D).2).1 then
   if (Dv.dI (fr+5+4*p) b 4 0 (Dv.dI fr (fO (p+1) 8) 1 0 (Dv.dI (fr+1) b 4 0 D).2).2).1 then
    Dv.dI fr (fO 0 8) 1 0 (Dv.dI (fr+5+4*p) b 4 0 (Dv.dI fr (fO (p+1) 8) 1 0 (Dv.dI (fr+1) b 4 0 D).2).2).2
   else(false,(Dv.dI (fr+5+4*p) b 4 0 (Dv.dI fr (fO (p+1) 8) 1 0 (Dv.dI (fr+1) b 4 0 D).2).2).2)
  else(false,(Dv.dI fr (fO (p+1) 8) 1 0 (Dv.dI (fr+1) b 4 0 D).2).2)
 else(false,(Dv.dI (fr+1) b 4 0 D).2)
theorem Dv.afb{D D1:Dv}{fr p:Nat}{b:List UInt8}(h1:Dv.dI (fr+1) b 4 0 D=(false,D1)):D.dQ fr p b=(false,D1):=by simp[Dv.dQ,h1]
theorem Dv.afc{D D1 D2:Dv}{fr p:Nat}{b:List UInt8}(h1:Dv.dI (fr+1) b 4 0 D=(true,D1))(h2:Dv.dI fr (fO (p+1) 8) 1 0 D1=(false,D2)):D.dQ fr p b=(false,D2):=by simp[Dv.dQ,h1,h2]
theorem Dv.afd{D D1 D2 D3:Dv}{fr p:Nat}{b:List UInt8}(h1:Dv.dI (fr+1) b 4 0 D=(true,D1))(h2:Dv.dI fr (fO (p+1) 8) 1 0 D1=(true,D2))(h3:Dv.dI (fr+5+4*p) b 4 0 D2=(false,D3)):D.dQ fr p b=(false,D3):=by simp[Dv.dQ,h1,h2,h3]
theorem Dv.afe{D D1 D2 D3:Dv}{fr p:Nat}{b:List UInt8}(h1:Dv.dI (fr+1) b 4 0 D=(true,D1))(h2:Dv.dI fr (fO (p+1) 8) 1 0 D1=(true,D2))(h3:Dv.dI (fr+5+4*p) b 4 0 D2=(true,D3)):D.dQ fr p b=Dv.dI fr (fO 0 8) 1 0 D3:=by simp[Dv.dQ,h1,h2,h3]
theorem Buf.reads{w:World}{g:Nat}{l:List UInt8}(h:Buf w g l)(hl:l.length=128):Reads 1 w (.slice (some ⟨g,0,none⟩) 128 128) (128*1) (l.map B):=
 ⟨_,_,rfl,by rw[List.length_map,hl],Nat.le_refl _,fun _=>⟨g,0,rfl,h.lt,fun j u hu=>by rw[Nat.zero_add];exact h.cell j u hu⟩⟩
def agm(f d fr pg p HS:Nat)(de:Bool)(v2:Value)(j b o:Nat):Prop:=False
def Dc(f d fr pg p HS:Nat)(de:Bool)(v2:Value)(i:Nat)(v:Value)(lo hi:Nat)(w:World):Prop:=
 match i with
 | 0=>v=.pointer (some ⟨f,0,none⟩)
 | 1=>v=.pointer (some ⟨f,0,none⟩)
 | 2=>v=.pointer (some ⟨f,0,none⟩)
 | 3=>v=.pointer (some ⟨f,1,none⟩)
 | 4=>v=.int .i64 ((fr:Nat):Int)
 | 5=>v=.int .i64 ((p:Nat):Int)
 | 6=>∃g,v=.slice (some ⟨g,0,none⟩) 128 128/\HS<=g/\Buf w g (fO (p+1) 8)
 | _=>True
theorem TI(f d fr pg p HS:Nat)(de:Bool)(v2:Value)  : ∀i j,i<7->j<7->j≠i->j∉([[],[],[1],[1,2],[1,2,3],[],[5]]:List (List Nat)).getD i []->∀v lo hi w w',Dc f d fr pg p HS de v2 i v lo hi w->aB (agm f d fr pg p HS de v2 j) w w'->Dc f d fr pg p HS de v2 i v lo hi w':=by
 intro i j hi hj hne hbs v lo hj2 w w' h hg
 match i,hi with
 | 0,_|1,_|2,_|3,_|4,_|5,_=>
  simp only[Dc]at h⊢;exact h
 | 6,_=>
  simp only[Dc]at h⊢;obtain⟨g,h1,h2,h3⟩:=h;exact⟨g,h1,h2,h3.aH (aj.aK hg (Y:=fun _=>False) (fun k o h=>h)) (fun h=>h)⟩
 | (q+7),hq=>exact absurd hq (by omega)
def agn(f d fr pg p HS:Nat)(de:Bool)(v2:Value)(j b o:Nat):Prop:=False
def Gu(f d fr pg p HS:Nat)(de:Bool)(v2:Value)(i:Nat)(v:Value)(lo hi:Nat)(w:World):Prop:=
 match i with
 | 0=>v=.pointer (some ⟨f,0,none⟩)
 | 1=>v=.pointer (some ⟨f,0,none⟩)
 | 2=>v=.pointer (some ⟨f,0,none⟩)
 | 3=>v=.pointer (some ⟨f,1,none⟩)
 | 4=>v=.int .i64 ((fr:Nat):Int)
 | 5=>∃g,v=.slice (some ⟨g,0,none⟩) 128 128/\HS<=g/\Buf w g (fO 0 8)
 | _=>True
theorem TJ(f d fr pg p HS:Nat)(de:Bool)(v2:Value)  : ∀i j,i<6->j<6->j≠i->j∉([[],[],[1],[1,2],[1,2,3],[]]:List (List Nat)).getD i []->∀v lo hi w w',Gu f d fr pg p HS de v2 i v lo hi w->aB (agn f d fr pg p HS de v2 j) w w'->Gu f d fr pg p HS de v2 i v lo hi w':=by
 intro i j hi hj hne hbs v lo hj2 w w' h hg
 match i,hi with
 | 0,_|1,_|2,_|3,_|4,_=>
  simp only[Gu]at h⊢;exact h
 | 5,_=>
  simp only[Gu]at h⊢;obtain⟨g,h1,h2,h3⟩:=h;exact⟨g,h1,h2,h3.aH (aj.aK hg (Y:=fun _=>False) (fun k o h=>h)) (fun h=>h)⟩
 | (q+6),hq=>exact absurd hq (by omega)
theorem YJ{W0 w:World}{f d fr pg:Nat}{de:Bool}{D:Dv}{S:Nat->Prop}(hf:iG w f d fr pg de)(hfS:¬S f)(h:DV W0 d D S w)(kL:D.dead=false)(p:Nat)(hp:p<pg)(hq:fr+5+4*pg<=D.l.length)(hcl:D.c.length<=1000)
  (b:List UInt8) (hb:b.length=512) (v:Value) (hv:Reads 1 w v 512 (b.map B)) (hsl:∀k,v.ownBlock=some k->¬S k):
  Calls Tryz.prog 162 #[.pointer (some ⟨f,0,none⟩),.int .i64 (p:Nat),v] w fun e w'=>∃S',e=.returned (.int .i64 (jS (D.dQ fr p b).1))/\DV W0 d (D.dQ fr p b).2 S' w'/\aG S S' w w':=by
 have hln:=h.ok.n;have hfw:f<w.heap.size:=hf.lt;obtain⟨av,cv,rfl,hlm,qV,rQ⟩:=hv;obtain⟨bq,oq,rfl,hbq,hcell⟩:=rQ (by omega);have hv:Reads 1 w (.slice (some ⟨bq,oq,none⟩) 512 cv) 512 (b.map B):=⟨_,_,rfl,hlm,qV,fun _=>⟨bq,oq,rfl,hbq,hcell⟩⟩
 obtain⟨v2,hv2⟩:∃v,Value.slice (some ⟨bq,oq,none⟩) 512 cv=v:=⟨_,rfl⟩
 have hob:∀k,v2.ownBlock=some k->k=bq:=by subst hv2;intro k e;exact(show bq=k from by simpa[Value.ownBlock]using e).symm
 rw[hv2]at hv⊢;have CY:=hid hfS;have HF:=hid hf;have HD:=hid h;have HV:=hid hv;have HSL:Hid (¬S bq):=hid (hsl bq (by subst hv2;rfl));have HB:=hid hb;have HQ:=hid hq;have HDD:=hid kL;have hfr:fr<=8192:=by omega
 have hp2:p<=8192:=by omega
 have c1:=hf.cell 1 _ rfl;have jB:=Ij hf hfS h kL (fr+1) 4 (by omega) (by omega) (by omega) b hb v2 hv (fun k e hs=>HSL.out (hob k e▸hs));have VP:wrap64 ((fr:Int)+1)=((fr+1:Nat):Int):=by rw[wrap64];omega
 have xM:=hid jB;clear jB hf h hv hsl hb hq hfS kL hv2 hlm qV rQ hcell;go_enter Tryz.func162,Tryz.ntmps162;go_wp2_with fail;refine jC 0 rfl ?_;go_wp2_with fail;obtain⟨r1,hr1⟩:∃r,Dv.dI (fr+1) b 4 0 D=r:=⟨_,rfl⟩
 have FC1:Hid (r1.1=true->r1.2.dead=D.dead/\r1.2.l.length=D.l.length/\r1.2.c=[]):=hid (by rw[<-hr1];exact Dv.rU _ _ _);rw[hr1]at xM;have E1:=hid hr1;clear hr1;obtain⟨b1,D1⟩:=r1;refine xM.out.mono ?_;clear xM;rintro e y1 ⟨S1,rfl,hdv,hft⟩;have H1:Hid (DV W0 d D1 S1 y1):=hid hdv;have G1:=hid (hft);clear hdv hft;cases b1 with
 | false=>
  simp only[jS];go_wp2_with fail;go_step3;refine⟨rfl,?_⟩;go_wp2;simp only[Exit.jump];go_ret;rw[Dv.afb E1.out];exact⟨S1,rfl,H1.out,G1.out⟩
 | true=>
  simp only[jS];have hfs:¬S1 f:=fun hs=>(G1.out.new f hs).elim CY.out (fun e=>by omega);have hbs:¬S1 bq:=fun hs=>(G1.out.new bq hs).elim HSL.out (fun e=>by omega);have aoJ:=hid hfs;have aul:=hid hbs;have Df:Hid (iG y1 f d fr pg de):=hid (HF.out.aH G1.out.grow CY.out);have HV1:Hid (Reads 1 y1 v2 512 (b.map B)):=hid (HV.out.aH G1.out.grow (fun q e hs=>HSL.out (hob q e▸hs)));have bf:Box y1 f [.pointer (some ⟨d,0,none⟩),.int .i64 (fr:Nat),.int .i64 (pg:Nat),.bool de]:=Df.out;have YK:Hid (D1.dead=false/\D1.l.length=D.l.length/\D1.c=[]):=hid (by have:=FC1.out rfl;exact⟨this.1.trans HDD.out,this.2.1,this.2.2⟩);clear hfs hbs FC1;clear c1 VP;go_upto_region 3 with (fail);have hB:Below y1.heap.size y1 y1:=Below.refl _ _;obtain⟨HS,hHS⟩:∃n,y1.heap.size=n:=⟨_,rfl⟩
  refine aQ (agm f d fr pg p HS de v2) 7 [[],[],[1],[1,2],[1,2,3],[],[5]] [some 17,some 18,some 19,some 20,some 21,some 22,some 23,some 24,some 6] (by kernel_rfl) (by kernel_rfl) rfl (Dc f d fr pg p HS de v2) (TI f d fr pg p HS de v2) ?aoK ?_
  case aoK=>
   intro i hi o ho vs lo eX w' hg hp;have hsz:=hg.size;have hgB:Below y1.heap.size y1 w':=hg.below (fun k hk=>⟨hk,fun o=>by rintro⟨j,_,_,_,hw⟩;exact False.elim hw⟩);replace hp:=fun j hj=>(hp j hj).2.2.2
   match i,hi with
   | 0,_|1,_|5,_|2,_|3,_|4,_=>
    cases ho;simp only[aA,Dc]at hp
    first|simp only[ak,Act.put,aA,hp]|simp only[ak,Act.put,aA]
    try have e0:=(hg.cell (f) 1 bf.lt (by rintro⟨j,_,hne,hb,hw⟩;exact False.elim hw)).trans (bf.cell 1 _ rfl)
    go_wp2;exact⟨_,rfl,aB.refl _,rfl⟩
   | 6,_=>
    cases ho;simp only[ak,Act.put,aA];have h5:=hp 5 (by simp);simp only[Dc]at h5;rw[h5];go_wp2_with fail;refine(Oi w' ((p:Nat):Int) (p+1) (by omega) (by omega)).mono ?_;rintro e wh ⟨g,rfl,h1,h2,h3⟩;go_wp2;exact⟨_,rfl,aB.bK ⟨h3.os,h3.tape,h3.output,h3.size,fun k hk=>h3.block k hk (fun h=>h)⟩,g,rfl,by have:=hHS;omega,h1⟩
   | (q+7),hq=>exact absurd hq (by omega)
  intro vS lo hi w5 hg hp hd;have hP:=fun j hj=>(hp j hj).2.2.2;have h0:=hP 0 (by decide);have h1:=hP 1 (by decide);have h2:=hP 2 (by decide);have h3:=hP 3 (by decide);have h4:=hP 4 (by decide);have h5:=hP 5 (by decide);have h6:=hP 6 (by decide);clear hP;simp only[Dc]at h0 h1 h2 h3 h4 h5 h6;clear hp hd;have hsz:=hg.size;replace bf:=bf.grow hg (by intro i _;rintro⟨j,_,hw⟩;exact False.elim hw);replace hB:=hB.trans (hg.below (fun k hk=>⟨by omega,fun o=>by rintro⟨j,_,hw⟩;exact False.elim hw⟩));have hr:List.range 7=[0,1,2,3,4,5,6]:=rfl;rw[hr];clear hr;simp only[List.drop_succ_cons,List.drop_zero,List.drop_nil,ak,Act.put,aA,h0,h1,h2,h3,h4,h5];clear h0 h1 h2 h3 h4 h5;have hgr5:aj (fun _=>False) y1 w5:=aC hB;have HV5:Hid (DV W0 d D1 S1 w5):=hid (H1.out.below hB);have xO:Hid (iG w5 f d fr pg de):=hid bf;obtain⟨gh,eh,hgh,YL⟩:=h6;rw[eh];have VQ:=hid (Ij xO.out aoJ.out HV5.out YK.out.1 fr 1 (by omega) (by have:=HQ.out;have:=YK.out.2.1;omega) (by have:=YK.out.2.2;rw[this];simp) (fO (p+1) 8) (kQ _ (by omega)) (.slice (some ⟨gh,0,none⟩) 128 128) (YL.reads (kQ _ (by omega))) (fun q e hs=>by have e2:gh=q:=(by simpa[Value.ownBlock]using e);have:=(H1.out.lt q hs).2;omega));have HGH:=hid hgh;clear YL bf hB hg hsz hgh;go_wp2_with fail;obtain⟨r2,hr2⟩:∃r,Dv.dI fr (fO (p+1) 8) 1 0 D1=r:=⟨_,rfl⟩
  have FC2:Hid (r2.1=true->r2.2.dead=D1.dead/\r2.2.l.length=D1.l.length/\r2.2.c=[]):=hid (by rw[<-hr2];exact Dv.rU _ _ _);rw[hr2]at VQ;have E2:=hid hr2;clear hr2;obtain⟨b2,D2⟩:=r2;refine VQ.out.mono ?_;clear VQ;rintro e y2 ⟨S2,rfl,hdv,hft⟩;have H2:Hid (DV W0 d D2 S2 y2):=hid hdv;have G2:=hid (G1.out.trans ((aG.below hgr5).trans hft));clear hdv hft;cases b2 with
  | false=>
   simp only[jS];go_wp2_with fail;go_step3;refine⟨rfl,?_⟩;go_wp2;simp only[Exit.jump];go_ret;rw[Dv.afc E1.out E2.out];exact⟨S2,rfl,H2.out,G2.out⟩
  | true=>
   simp only[jS];have hfs:¬S2 f:=fun hs=>(G2.out.new f hs).elim CY.out (fun e=>by omega);have hbs:¬S2 bq:=fun hs=>(G2.out.new bq hs).elim HSL.out (fun e=>by omega);have agi:=hid hfs;have VN:=hid hbs;have HF2:Hid (iG y2 f d fr pg de):=hid (HF.out.aH G2.out.grow CY.out);have l7:Hid (Reads 1 y2 v2 512 (b.map B)):=hid (HV.out.aH G2.out.grow (fun q e hs=>HSL.out (hob q e▸hs)));have bf:Box y2 f [.pointer (some ⟨d,0,none⟩),.int .i64 (fr:Nat),.int .i64 (pg:Nat),.bool de]:=HF2.out;have YM:Hid (D2.dead=false/\D2.l.length=D.l.length/\D2.c=[]):=hid (by have:=FC2.out rfl;exact⟨this.1.trans YK.out.1,this.2.1.trans YK.out.2.1,this.2.2⟩);clear hfs hbs FC2;have c0:=bf.cell 0 _ rfl;have VR:=hid (Ij HF2.out agi.out H2.out YM.out.1 (fr+5+4*p) 4 (by decide) (by have:=HQ.out;have:=YM.out.2.1;omega) (by have:=YM.out.2.2;rw[this];simp) b HB.out v2 l7.out (fun k e hs=>VN.out (hob k e▸hs)));go_wp2_with fail;refine(Uy HF2.out (by omega) p (by omega)).mono ?_;rintro e wh ⟨rfl,rfl⟩;clear c0 bf;go_wp2_with fail;obtain⟨r3,hr3⟩:∃r,Dv.dI (fr+5+4*p) b 4 0 D2=r:=⟨_,rfl⟩
   have FC3:Hid (r3.1=true->r3.2.dead=D2.dead/\r3.2.l.length=D2.l.length/\r3.2.c=[]):=hid (by rw[<-hr3];exact Dv.rU _ _ _);rw[hr3]at VR;have E3:=hid hr3;clear hr3;obtain⟨b3,D3⟩:=r3;refine VR.out.mono ?_;clear VR;rintro e y3 ⟨S3,rfl,hdv,hft⟩;have H3:Hid (DV W0 d D3 S3 y3):=hid hdv;have G3:=hid (G2.out.trans hft);clear hdv hft;cases b3 with
   | false=>
    simp only[jS];go_wp2_with fail;go_step3;refine⟨rfl,?_⟩;go_wp2;simp only[Exit.jump];go_ret;rw[Dv.afd E1.out E2.out E3.out];exact⟨S3,rfl,H3.out,G3.out⟩
   | true=>
    simp only[jS];have hfs:¬S3 f:=fun hs=>(G3.out.new f hs).elim CY.out (fun e=>by omega);have hbs:¬S3 bq:=fun hs=>(G3.out.new bq hs).elim HSL.out (fun e=>by omega);have aoL:=hid hfs;have aum:=hid hbs;have HF3:Hid (iG y3 f d fr pg de):=hid (HF.out.aH G3.out.grow CY.out);have Af:Hid (Reads 1 y3 v2 512 (b.map B)):=hid (HV.out.aH G3.out.grow (fun q e hs=>HSL.out (hob q e▸hs)));have bf:Box y3 f [.pointer (some ⟨d,0,none⟩),.int .i64 (fr:Nat),.int .i64 (pg:Nat),.bool de]:=HF3.out;have DF3:Hid (D3.dead=false/\D3.l.length=D.l.length/\D3.c=[]):=hid (by have:=FC3.out rfl;exact⟨this.1.trans YM.out.1,this.2.1.trans YM.out.2.1,this.2.2⟩);clear hfs hbs FC3;go_upto_region 7 with (fail);have hB:Below y3.heap.size y3 y3:=Below.refl _ _;obtain⟨HS,hHS⟩:∃n,y3.heap.size=n:=⟨_,rfl⟩
    refine aQ (agn f d fr pg p HS de v2) 6 [[],[],[1],[1,2],[1,2,3],[]] [some 35,some 36,some 37,some 38,some 39,some 40,some 41,some 6] (by kernel_rfl) (by kernel_rfl) rfl (Gu f d fr pg p HS de v2) (TJ f d fr pg p HS de v2) ?aoM ?_
    case aoM=>
     intro i hi o ho vs lo eX w' hg hp;have hsz:=hg.size;have hgB:Below y3.heap.size y3 w':=hg.below (fun k hk=>⟨hk,fun o=>by rintro⟨j,_,_,_,hw⟩;exact False.elim hw⟩);replace hp:=fun j hj=>(hp j hj).2.2.2
     match i,hi with
     | 0,_|1,_|2,_|3,_|4,_=>
      cases ho;simp only[aA,Gu]at hp
      first|simp only[ak,Act.put,aA,hp]|simp only[ak,Act.put,aA]
      try have e0:=(hg.cell (f) 1 bf.lt (by rintro⟨j,_,hne,hb,hw⟩;exact False.elim hw)).trans (bf.cell 1 _ rfl)
      go_wp2;exact⟨_,rfl,aB.refl _,rfl⟩
     | 5,_=>
      cases ho;simp only[ak,Act.put,aA];go_wp2_with fail;refine(Oi w' (-1) 0 (by omega) (by omega)).mono ?_;rintro e wh ⟨g,rfl,h1,h2,h3⟩;go_wp2;exact⟨_,rfl,aB.bK ⟨h3.os,h3.tape,h3.output,h3.size,fun k hk=>h3.block k hk (fun h=>h)⟩,g,rfl,by have:=hHS;omega,h1⟩
     | (q+6),hq=>exact absurd hq (by omega)
    intro vS lo hi w5 hg hp hd;have hP:=fun j hj=>(hp j hj).2.2.2;have h0:=hP 0 (by decide);have h1:=hP 1 (by decide);have h2:=hP 2 (by decide);have h3:=hP 3 (by decide);have h4:=hP 4 (by decide);have h5:=hP 5 (by decide);clear hP;simp only[Gu]at h0 h1 h2 h3 h4 h5;clear hp hd;have hsz:=hg.size;replace bf:=bf.grow hg (by intro i _;rintro⟨j,_,hw⟩;exact False.elim hw);replace hB:=hB.trans (hg.below (fun k hk=>⟨by omega,fun o=>by rintro⟨j,_,hw⟩;exact False.elim hw⟩));have hr:List.range 6=[0,1,2,3,4,5]:=rfl;rw[hr];clear hr;simp only[List.drop_succ_cons,List.drop_zero,List.drop_nil,ak,Act.put,aA,h0,h1,h2,h3,h4];clear h0 h1 h2 h3 h4;have hgr5:aj (fun _=>False) y3 w5:=aC hB;have HV5:Hid (DV W0 d D3 S3 w5):=hid (H3.out.below hB);have xO:Hid (iG w5 f d fr pg de):=hid bf;obtain⟨gh,eh,hgh,YL⟩:=h5;rw[eh];have VT:=hid (Ij xO.out aoL.out HV5.out DF3.out.1 fr 1 (by omega) (by have:=HQ.out;have:=DF3.out.2.1;omega) (by have:=DF3.out.2.2;rw[this];simp) (fO 0 8) (kQ _ (by omega)) (.slice (some ⟨gh,0,none⟩) 128 128) (YL.reads (kQ _ (by omega))) (fun q e hs=>by have e2:gh=q:=(by simpa[Value.ownBlock]using e);have:=(H3.out.lt q hs).2;omega));have HGH:=hid hgh;clear YL bf hB hg hsz hgh;go_wp2_with fail;obtain⟨r4,hr4⟩:∃r,Dv.dI fr (fO 0 8) 1 0 D3=r:=⟨_,rfl⟩
    have FC4:Hid (r4.1=true->r4.2.dead=D3.dead/\r4.2.l.length=D3.l.length/\r4.2.c=[]):=hid (by rw[<-hr4];exact Dv.rU _ _ _);rw[hr4]at VT;have E4:=hid hr4;clear hr4;obtain⟨b4,D4⟩:=r4;refine VT.out.mono ?_;clear VT;rintro e y4 ⟨S4,rfl,hdv,hft⟩;have H4:Hid (DV W0 d D4 S4 y4):=hid hdv;have G4:=hid (G3.out.trans ((aG.below hgr5).trans hft));clear hdv hft;go_wp2_with fail;refine wp_label ?_;go_wp2;simp only[Exit.jump];go_ret;rw[Dv.afe E1.out E2.out E3.out,E4.out];exact⟨S4,rfl,H4.out,G4.out⟩
end
section
open Go.RowKit
theorem Dv.good.dQ{D:Dv}(h:D.good)(fr p:Nat)(b:List UInt8)(hb:b.length=512)(hq:fr+5+4*(p+1)<=D.l.length):
  (D.dQ fr p b).1=true/\(D.dQ fr p b).2.good/\(D.dQ fr p b).2.l.length=D.l.length/\(D.dQ fr p b).2.c=[]/\
  ∀i,fr+5<=i->(D.dQ fr p b).2.sec i=if fr+5+4*p<=i/\i<fr+5+4*p+4 then chunk b (i-(fr+5+4*p))else D.sec i:=by
 obtain⟨a1,a2,a3,a4,a5⟩:=Dv.good.dI (q:=fr+1) (b:=b) 4 0 D h (by omega) (by omega);obtain⟨b1,b2,b3,b4,b5⟩:=Dv.good.dI (q:=fr) (b:=fO (p+1) 8) 1 0 _ a2 (by omega) (by rw[kQ _ (by omega)]);obtain⟨c1,c2,c3,c4,c5⟩:=Dv.good.dI (q:=fr+5+4*p) (b:=b) 4 0 _ b2 (by omega) (by omega);obtain⟨d1,d2,d3,d4,d5⟩:=Dv.good.dI (q:=fr) (b:=fO 0 8) 1 0 _ c2 (by omega) (by rw[kQ _ (by omega)]);unfold Dv.dQ;rw[if_pos a1,if_pos b1,if_pos c1];refine⟨d1,d2,d3.trans (c3.trans (b3.trans a3)),d4,fun i hi=>?_⟩;rw[d5,if_neg (by omega),c5];by_cases hr:fr+5+4*p<=i/\i<fr+5+4*p+4
 ·rw[if_pos hr,if_pos (by omega)]
 ·rw[if_neg hr,if_neg (by omega),b5,if_neg (by omega),a5,if_neg (by omega)]
theorem Dv.good.Oj{D:Dv}(h:D.good)(fr p:Nat)(b:List UInt8)(hb:b.length=512)(hq:fr+5+4*(p+1)<=D.l.length)(q:Nat):
  dO (D.dQ fr p b).2 (fr+5+4*q) 4=if q=p then b else dO D (fr+5+4*q) 4:=by
 obtain⟨_,_,_,_,hs⟩:=h.dQ fr p b hb hq;by_cases e:q=p
 ·subst e;rw[if_pos rfl,C9 (b:=b) (by omega) (fun k hk=>?_)]
  ·exact List.take_of_length_le (by omega)
  ·rw[hs _ (by omega),if_pos (by omega)];congr 1;omega
 ·rw[if_neg e];exact kP (fun i h1 h2=>by rw[hs i (by omega),if_neg (by omega)])
def FV(W0:World)(f d fr pg:Nat)(P:Nat->List UInt8)(S:Nat->Prop)(w:World):Prop:=
 ∃D S0,iG w f d fr pg false/\¬S0 f/\W0.heap.size<=f/\DV W0 d D S0 w/\D.good/\D.c.length<=1000/\fr+5+4*pg<=D.l.length/\(∀q,q<pg->dO D (fr+5+4*q) 4=P q)/\S=fun k=>k=f\/S0 k
theorem FV.lt{W0 w:World}{f d fr pg:Nat}{P:Nat->List UInt8}{S:Nat->Prop}(h:FV W0 f d fr pg P S w):∀k,S k->W0.heap.size<=k/\k<w.heap.size:=by
 obtain⟨D,S0,h1,h2,h3,h4,h5,h6,h7,h8,rfl⟩:=h;rintro k (rfl|hk)
 ·exact⟨h3,h1.lt⟩
 ·exact h4.lt k hk
theorem FV.bel{W0 w:World}{f d fr pg:Nat}{P:Nat->List UInt8}{S:Nat->Prop}(h:FV W0 f d fr pg P S w):Below W0.heap.size W0 w:=by
 obtain⟨D,S0,h1,h2,h3,h4,h5,h6,h7,h8,rfl⟩:=h;exact h4.bel
theorem FV.grow{W0 w w':World}{f d fr pg:Nat}{P:Nat->List UInt8}{S X:Nat->Prop}(h:FV W0 f d fr pg P S w)(hg:aj X w w')(hX:dA S X)(hB:Below W0.heap.size W0 w'):FV W0 f d fr pg P S w':=by
 obtain⟨D,S0,h1,h2,h3,h4,h5,h6,h7,h8,rfl⟩:=h;exact⟨D,S0,h1.aH hg (fun hx=>hX f (.inl rfl) hx),h2,h3,h4.grow hg (fun k hk hx=>hX k (.inr hk) hx) hB,h5,h6,h7,h8,rfl⟩
theorem FV.below{W0 w w':World}{f d fr pg:Nat}{P:Nat->List UInt8}{S:Nat->Prop}(h:FV W0 f d fr pg P S w)(hb:Below w.heap.size w w'):FV W0 f d fr pg P S w':=
 h.grow (X:=fun _=>False) (aC hb) (fun _ _ h=>h) (h.bel.trans (hb.mono h.bel.size))
theorem FV.box{W0 w:World}{f d fr pg:Nat}{P:Nat->List UInt8}{S:Nat->Prop}(h:FV W0 f d fr pg P S w):iG w f d fr pg false:=by
 obtain⟨D,S0,h1,_⟩:=h;exact h1
theorem FV.self{W0 w:World}{f d fr pg:Nat}{P:Nat->List UInt8}{S:Nat->Prop}(h:FV W0 f d fr pg P S w):S f:=by
 obtain⟨D,S0,h1,h2,h3,h4,h5,h6,h7,h8,rfl⟩:=h;exact .inl rfl
theorem FV.small{W0 w:World}{f d fr pg:Nat}{P:Nat->List UInt8}{S:Nat->Prop}(h:FV W0 f d fr pg P S w):fr+5+4*pg<=8192:=by
 obtain⟨D,S0,h1,h2,h3,h4,h5,h6,h7,h8,rfl⟩:=h;have:=h5.ok.n;omega
theorem FV.len{W0 w:World}{f d fr pg:Nat}{P:Nat->List UInt8}{S:Nat->Prop}(h:FV W0 f d fr pg P S w){q:Nat}(hq:q<pg):(P q).length=512:=by
 obtain⟨D,S0,h1,h2,h3,h4,h5,h6,h7,h8,rfl⟩:=h;rw[<-h8 q hq,zh h5.ok (by omega)]
end
section
open Go.RowKit
theorem DV.size{W0 w:World}{d:Nat}{D:Dv}{S:Nat->Prop}(h:DV W0 d D S w):
  Calls Tryz.prog 77 #[.pointer (some ⟨d,0,none⟩)] w fun e w'=>e=.returned (.int .i64 (D.l.length:Nat))/\w'=w:=by
 obtain⟨vl,vc,EL,EC,K,h1,h2,h3,rfl⟩:=h;exact size_at h1
theorem DV.self{W0 w:World}{d:Nat}{D:Dv}{S:Nat->Prop}(h:DV W0 d D S w):S d:=by
 obtain⟨_,_,_,_,_,_,_,_,rfl⟩:=h;exact .inl rfl
end
section
def Dv.reads(D:Dv):Nat->Dv
 | 0=>D
 | k+1=>{ Dv.reads D k with calls:=iw (Dv.reads D k).calls }
structure Fm where
 page:Int
 b:List UInt8
 dirty:Bool
 marked:Bool
 rc:Int
 aN:Int
instance:Inhabited Fm:=⟨⟨-1,[],false,false,0,0⟩⟩
def Fm.free:Fm:=⟨-1,[],false,false,0,0⟩
structure Pq where
 F:List Fm
 hand:Nat
 wr:Nat
structure qc(T:Type) where
 step:T->Int->Int×T
 wr:T->Nat->List UInt8->T
 rd:T->T
 fJ:T->Nat->List UInt8
def zi(m:Int)(x:Fm):Bool:=if x.page=m then decide (0<=m)else false
def KN(x:Fm):Bool:=decide (x.page<0)
def fZ(F:List Fm)(m:Int):Option Nat:=F.findIdx? (zi m)
def wX(F:List Fm):Option Nat:=F.findIdx? KN
section
variable{T:Type}(O:qc T)
def Pq.clean(p:Pq)(s:T)(i:Nat):Int×Pq×T:=
 if (p.F.getD i Fm.free).dirty then
  if (O.step s (p.F.getD i Fm.free).aN).1=0 then
   (0,{ p with F:=p.F.set i { p.F.getD i Fm.free with dirty:=false },wr:=p.wr+1 },O.wr (O.step s (p.F.getD i Fm.free).aN).2 (p.F.getD i Fm.free).page.toNat (p.F.getD i Fm.free).b)
  else((O.step s (p.F.getD i Fm.free).aN).1,p,(O.step s (p.F.getD i Fm.free).aN).2)
 else(0,p,s)
def sweep(n:Nat):Nat->List Fm->Nat->List Fm×Nat×Nat
 | 0,F,h=>(F,h,h)
 | m+1,F,h=>if (F.getD h Fm.free).marked then sweep n m (F.set h { F.getD h Fm.free with marked:=false }) ((h+1) % n)else(F,(h+1) % n,h)
def Pq.iy(p:Pq):List Fm×Nat×Nat:=sweep p.F.length (p.F.length+1) p.F p.hand
def Pq.freed(r:Nat)(c:Int×Pq×T):Int×Nat×Pq×T:=
 if c.1=0 then(0,r,{ c.2.1 with F:=c.2.1.F.set r Fm.free },c.2.2)else(c.1,0,c.2.1,c.2.2)
def Pq.free(p:Pq)(s:T):Int×Nat×Pq×T:=
 match wX p.F with
 | some i=>(0,i,p,s)
 | none=>Pq.freed p.iy.2.2 (Pq.clean O { p with F:=p.iy.1,hand:=p.iy.2.1 } s p.iy.2.2)
def Pq.bQ(p:Pq)(s:T)(m:Int):Int×Pq×T:=
 match fZ p.F m with
 | none=>(0,p,s)
 | some i=>if (p.clean O s i).1=0 then(0,{ (p.clean O s i).2.1 with F:=(p.clean O s i).2.1.F.set i Fm.free },(p.clean O s i).2.2)else p.clean O s i
def Pq.got(m:Int)(b:List UInt8)(r:Int×Nat×Pq×T):Int×List UInt8×Pq×T:=
 if r.1=0 then(0,b,{ r.2.2.1 with F:=r.2.2.1.F.set r.2.1 ⟨m,b,false,true,0,0⟩ },r.2.2.2)else(r.1,[],r.2.2.1,r.2.2.2)
def Pq.get(pg:Nat)(p:Pq)(s:T)(m:Int):Int×List UInt8×Pq×T:=
 match fZ p.F m with
 | some i=>(0,(p.F.getD i Fm.free).b,{ p with F:=p.F.set i { p.F.getD i Fm.free with marked:=true } },s)
 | none=>if 0<=m/\m<(pg:Int)then Pq.got m (O.fJ s m.toNat) (p.free O (O.rd s))else(1,[],p,s)
def Pq.putAt(q:Pq)(i:Nat)(m:Int)(b:List UInt8)(l:Int):Pq:=
 { q with F:=q.F.set i ⟨m,b,true,true,if (q.F.getD i Fm.free).page=m/\(q.F.getD i Fm.free).dirty=true then(q.F.getD i Fm.free).rc else l,l⟩ }
def Pq.put(pg:Nat)(p:Pq)(s:T)(m:Int)(b:List UInt8)(l:Int):Int×Pq×T:=
 if 0<=m/\m<(pg:Int)/\b.length=512/\1<=l then
  match fZ p.F m with
  | some i=>(0,p.putAt i m b l,s)
  | none=>if (p.free O s).1=0 then(0,(p.free O s).2.2.1.putAt (p.free O s).2.1 m b l,(p.free O s).2.2.2)else((p.free O s).1,(p.free O s).2.2.1,(p.free O s).2.2.2)
 else(1,p,s)
def Pq.new(n:Nat):Pq:=⟨List.replicate n Fm.free,0,0⟩
end
end
end Go.Proofs.YtpajagkhmodbnaaGreat

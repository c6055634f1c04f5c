/- The law StoreLazy. Conditions: none. -/
import Derived.Test.YtpajagkhmodbnaaGreatCLzC
import Derived.Test.YtpajagkhmodbnaaGreatPr41
import Derived.Test.YtpajagkhmodbnaaGreatPr21
import Derived.Test.YtpajagkhmodbnaaGreatPr42
import Derived.Deep.DeepCutAuto
import Derived.Deep.CutBlock
import Derived.BigQuiet
namespace Go.Proofs.YtpajagkhmodbnaaGreat
set_option maxRecDepth 100000
set_option maxHeartbeats 12800000
open Lib(hid)
set_option linter.unusedSimpArgs false
set_option linter.unusedVariables false
open Go.RowKit
def ae1(A:bG)(bb oo cap jj n pp of nx wu:Nat)(dao:Option Addr)(op oof:Int)(j b o:Nat):Prop:=False
def aaq(A:bG)(bb oo cap jj n pp of nx wu:Nat)(dao:Option Addr)(op oof:Int)(i:Nat)(v:Value)(lo hi:Nat)(w:World):Prop:=
 match i with
 | 0=>v=.pointer (some ⟨A.sb,0,none⟩)
 | 1=>v=.int .i64 1
 | 2=>v=.slice (some ⟨bb,oo,none⟩) n cap
 | 3=>v=.int .i64 ((jj:Nat):Int)
 | 4=>v=.pointer (some ⟨bb,oo+jj*7,none⟩)
 | 5=>v=.pointer (some ⟨bb,oo+jj*7+2,none⟩)
 | 6=>v=.int .i64 op
 | 7=>v=.int .i64 (Int.tmod op 5)
 | 8=>v=.int .i64 (wrap64 (Int.tmod op 5+5))
 | 9=>v=.int .i64 ((pp:Nat):Int)
 | 10=>v=.slice (some ⟨bb,oo,none⟩) n cap
 | 11=>v=.int .i64 ((jj:Nat):Int)
 | 12=>v=.pointer (some ⟨bb,oo+jj*7,none⟩)
 | 13=>v=.pointer (some ⟨bb,oo+jj*7+3,none⟩)
 | 14=>v=.int .i64 oof
 | 15=>v=.int .i64 ((of:Nat):Int)
 | 16=>v=.slice dao nx wu
 | _=>True
theorem adg(A:bG)(bb oo cap jj n pp of nx wu:Nat)(dao:Option Addr)(op oof:Int)  : ∀i j,i<17->j<17->j≠i->j∉([[],[],[],[],[2,3],[2,3,4],[2,3,4,5],[2,3,4,5,6],[2,3,4,5,6,7],[2,3,4,5,6,7,8],[],[],[10,11],[10,11,12],[10,11,12,13],[10,11,12,13,14],[]]:List (List Nat)).getD i []->∀v lo hi w w',aaq A bb oo cap jj n pp of nx wu dao op oof i v lo hi w->aB (ae1 A bb oo cap jj n pp of nx wu dao op oof j) w w'->aaq A bb oo cap jj n pp of nx wu dao op oof i v lo hi w':=by
 intro i j hi hj hne hbs v lo hj2 w w' h hg
 match i,hi with
 | 0,_|1,_|2,_|3,_|4,_|5,_|6,_|7,_|8,_|9,_|10,_|11,_|12,_|13,_|14,_|15,_|16,_=>
  simp only[aaq]at h⊢;exact h
 | (q+17),hq=>exact absurd hq (by omega)
def af2(g0:Nat)(j b o:Nat):Prop:=False
def aak(g0:Nat)(i:Nat)(v:Value)(lo hi:Nat)(w:World):Prop:=
 match i with
 | 0=>v=.int .i64 0
 | 1=>v=.bool false
 | 2=>v=.bool false
 | 3=>v=.slice (some ⟨g0,0,none⟩) 128 128
 | 4=>v=.string ⟨(nz 128).toArray⟩
 | 5=>∃g,v=.slice (some ⟨g,0,none⟩) 128 128/\Buf w g (nz 128)
 | 6=>v=.string ⟨(nz 128).toArray⟩
 | 7=>v=.bool false
 | _=>True
theorem adh(g0:Nat)  : ∀i j,i<8->j<8->j≠i->j∉([[],[0],[0,1],[0,1,2],[0,1,2,3],[0,1,2],[0,1,2,5],[0,1,2,3,4,5,6]]:List (List Nat)).getD i []->∀v lo hi w w',aak g0 i v lo hi w->aB (af2 g0 j) w w'->aak g0 i v lo hi w':=by
 intro i j hi hj hne hbs v lo hj2 w w' h hg
 match i,hi with
 | 0,_|1,_|2,_|3,_|4,_|6,_|7,_=>
  simp only[aak]at h⊢;exact h
 | 5,_=>
  simp only[aak]at h⊢;obtain⟨g,h1,h2⟩:=h;exact⟨g,h1,h2.aH (aj.aK hg (Y:=fun _=>False) (fun k o h=>h)) (fun h=>h)⟩
 | (q+8),hq=>exact absurd hq (by omega)
theorem Buf.agq(w:World):Buf (w.alloc (.cells uf 5)) w.heap.size (nz 128):=by
 show Buf _ _ dB;exact heap_alloc_new w _
theorem aaN{w:World}{g k:Nat}{l:List UInt8}(h:Buf w g l)(hl:l.length=k):Reads 1 w (.slice (some ⟨g,0,none⟩) k k) k (l.map B):=
 ⟨_,_,rfl,by rw[List.length_map,hl,Nat.mul_one],Nat.le_refl _,fun _=>⟨g,0,rfl,h.lt,fun j u hu=>by rw[Nat.zero_add];exact h.cell j u hu⟩⟩
theorem aif(x:Int):∃q:Nat,q<5/\Int.tmod (wrap64 (Int.tmod x 5+5)) 5=(q:Int):=by
 have h1 : -5<Int.tmod x 5/\Int.tmod x 5<5:=by
  constructor
  ·have:=Int.lt_tmod_of_pos x (show(0:Int)<5 by decide);omega
  ·exact Int.tmod_lt_of_pos x (by decide)
 have h2:=Int.tmod_lt_of_pos (Int.tmod x 5+5) (show(0:Int)<5 by decide);have h3:=Int.tmod_nonneg 5 (show 0<=Int.tmod x 5+5 by omega);have h4:wrap64 (Int.tmod x 5+5)=Int.tmod x 5+5:=by rw[wrap64];omega
 rw[h4];exact⟨(Int.tmod (Int.tmod x 5+5) 5).toNat,by omega,by omega⟩
theorem amn(x:Int):∃q:Nat,q<=255/\bits BinOp.and IntKind.i64 x 255=(q:Int):=
 by
  have h:(BitVec.ofInt 64 x &&& BitVec.ofInt 64 255).toNat<=255:=by
   rw[BitVec.toNat_and];exact Nat.le_trans Nat.and_le_right (by decide)
  refine⟨(BitVec.ofInt 64 x &&& BitVec.ofInt 64 255).toNat,h,?_⟩;show IntKind.i64.wrap (((BitVec.ofInt 64 x &&& BitVec.ofInt 64 255).toNat:Nat):Int)=_;generalize (BitVec.ofInt 64 x &&& BitVec.ofInt 64 255).toNat=q at h⊢;rw[IntKind.wrap_i64];omega
theorem Reads.aij{w:World}{ao:Option Addr}{n c m:Nat}{l:List UInt8}(h:Reads 1 w (.slice ao n c) n (l.map B))(hm:m<=n):Reads 1 w (.slice ao m c) m ((l.take m).map B):=by
 obtain⟨ao',c',e,hl,hc,hcell⟩:=h;injection e with e1 e2 e3;subst e1 e3;refine⟨_,_,rfl,?_,by omega,fun h0=>?_⟩
 ·rw[List.length_map]at hl⊢;rw[List.length_take];omega
 ·obtain⟨b,o,e,hb,hc2⟩:=hcell (by omega);exact⟨b,o,e,hb,fun j u hu=>hc2 j u (by
   rw[List.getElem?_map,List.getElem?_take]at hu;split at hu
   ·rw[List.getElem?_map];exact hu
   ·cases hu)⟩
def ps5:List Int:=[0,1,2,3,4]
theorem agv{p:Nat}(h:p<5):(p:Int)∈ps5:=by
 have:p=0\/p=1\/p=2\/p=3\/p=4:=by omega
 rcases this with rfl|rfl|rfl|rfl|rfl<;>decide
structure LzA(w:World)(A:bG)(j:Nat)(σ:St)(S:Nat->Prop)(W V:Nat->List UInt8)(x:Tx)(us:List Rc)(wr:World):Prop where
 rw:Rw w A (Cf.of 1024) (1+3*j) (288+492*j) σ W S wr V (jA 1::us) ps5 1024
 li:LzI j σ x W us
theorem LzI.like{j:Nat}{σ σ':St}{x:Tx}{W:Nat->List UInt8}{us:List Rc}(h:LzI j σ x W us)(hl:Like σ σ'):LzI j σ' x W us:=
 ⟨hl.opn.trans h.op,h.id,h.ups,h.len,h.w,h.rc,h.sz.trans hl.tail.symm,by rw[hl.tail];exact h.tl,by rw[hl.tail];exact h.last⟩
theorem Yv(D:Dv)(k q m:Nat):dO (D.reads k) q m=dO D q m:=kP (fun i _ _=>by rw[fU])
theorem aay{b:Nat}(h:b<=20000):b+2048<=((Cf.of 1024).n-1)*118:=by rw[aai];show _<=(256-1)*118;omega
theorem aeC {w:World} (l:List MK) (v:Value) (n:Nat) (hl:l.length=n/\∀x∈l,x.ok w) (hm:n<=9223372036854775807) (hr:Reads 7 w v n (afR l)):
  Calls Tryz.prog 10 #[v] w fun e w'=>e=.returned (.bool true)/\Below w.heap.size w w':=by
 have HL:=hid hl.1;have HI:=hid hl.2;have HR:=hid hr;have HO:=hid (MI w w (Below.refl _ _) 1024 64 (by decide) (by decide) (by decide) (by decide));have hsh:∃ao cap,v=.slice ao n cap:=by obtain⟨ao,cap,e,_⟩:=hr;exact⟨ao,cap,e⟩
 obtain⟨ao,cap,hv⟩:=hsh;have HV:=hid hv;rw[hv];clear hr hl hv;go_enter Tryz.func10,Tryz.ntmps10;go_wp2_with fail;refine HO.out.mono ?_;rintro e y1 ⟨A,S1,rfl,hnf,hsv,hsd,_,hbl⟩;have hrw:=ak4 (w:=y1) 1024 (by decide) (by decide) hnf hsv hsd ps5 (by show 5<64;decide);have HBG:=hid (acY hrw (by decide) (aay (by decide)));clear hsv hsd hbl HO hnf hrw;go_wp2_with fail;refine HBG.out.mono ?_;rintro e y2 ⟨σ2,S2,rfl,h2,_,hop,_,htl,_⟩;have hat:LzA w A 0 σ2 S2 (fun _=>nz 504) (fun _=>nz 512) ⟨1,1,1,[]⟩ [] y2:=
  ⟨h2,⟨hop,rfl,fun r hr=>(by cases hr),Nat.le_refl _,rfl,fun r hr=>(by cases hr),htl.symm,by rw[htl];decide,by rw[htl];decide⟩⟩
 have HAT:=hid hat;have hnx:(St.new 1024 64).next=1:=rfl;rw[hnx];clear h2 hop htl hat HBG hnx;go_wp2_with fail;go_loopw [7,8] (fun z7 z8 wr=>∃(j:Nat)(σ:St)(S:Nat->Prop)(W V:Nat->List UInt8)(x:Tx)(us:List Rc),j<=n/\j<=12/\z7=.int .i64 (j:Nat)/\LzA w A j σ S W V x us wr) (fun z7 _ _=>n-(intOf z7).toNat)
 case atStart=>exact⟨0,σ2,S2,_,_,_,_,Nat.zero_le _,Nat.zero_le _,rfl,HAT.out⟩
 case round=>
  obtain⟨j,σ,S,W,V,x,us,hjn,aio,rfl,hat⟩:=hrel;have HA:=hid hat;clear hat HAT;by_cases h1:j<n/\j<12
  ·have b1:decide ((j:Int)<(n:Int))=true:=by simpa using h1.1
   have b1n:decide (j<n)=true:=by simpa using h1.1
   have b2:decide ((j:Int)<12)=true:=by simp;omega
   have b2n:decide (j<12)=true:=by simpa using h1.2
   obtain⟨o7,Zi⟩:∃q,l[j]? = some q:=⟨_,List.getElem?_eq_getElem (by rw[HL.out];exact h1.1)⟩
   have hok:=HI.out o7 (List.mem_of_getElem? Zi);have KQ:=hid hok;have hbw:Below w.heap.size w wr:=HA.out.rw.st.bel;obtain⟨bb,oo,cc,hv2,hbb,hcl⟩:=MK.at HR.out j h1.1 o7 Zi;rw[HV.out]at hv2;injection hv2 with e1 e2 e3;subst e1 e3;obtain⟨dao,wu,hvd,_⟩:=hok.rd;have HVD:=hid hvd;have k2:wr.cell? ⟨bb,oo+j*7+2,none⟩=some (.int .i64 o7.p):=(hbw.cell (p:=⟨bb,oo+j*7+2,none⟩) hbb).trans (hcl 2 _ rfl);have k3:wr.cell? ⟨bb,oo+j*7+3,none⟩=some (.int .i64 o7.off):=(hbw.cell (p:=⟨bb,oo+j*7+3,none⟩) hbb).trans (hcl 3 _ rfl);have k6:wr.cell? ⟨bb,oo+j*7+6,none⟩=some (.slice dao o7.bs.length wu):=by rw[<-HVD.out];exact(hbw.cell (p:=⟨bb,oo+j*7+6,none⟩) hbb).trans (hcl 6 _ rfl)
   have kbb:bb<wr.heap.size:=Nat.lt_of_lt_of_le hbb hbw.size;clear hok Zi hcl hvd e2 hbw hbb;obtain⟨nd,hnd⟩:∃q,o7.bs.length=q:=⟨_,rfl⟩
   have AA:=hid hnd;rw[hnd]at k6;have ajS:nd<=9223372036854775807:=by rw[<-hnd];exact KQ.out.le
   clear hnd;have hdc:nd<=wu:=by
    obtain⟨_,_,e1,_,e3,_⟩:=KQ.out.rd;rw[HVD.out]at e1;injection e1 with _ _ e4;have:=AA.out;omega
   obtain⟨nx,hnx⟩:∃x,min nd 100=x:=⟨_,rfl⟩
   have sH:=hid hnx;clear hnx;go_upto_if 52 with (fail);go_cut [8] (fun z wx=>z=.slice dao nx wu/\wx=wr)
   case first=>
    by_cases h40:100<nd
    ·have b6:decide ((nd:Int)>100)=true:=by simp;omega
     have b6n:decide (100<nd)=true:=by simpa using h40
     have ajA:100<=wu:=by omega
     have ajT:¬wu=0:=by omega
     obtain rfl:nx=100:=by rw[<-sH.out];omega
     go_wp2;go_meet;exact⟨rfl,rfl⟩
    ·have b6:decide ((nd:Int)>100)=false:=by simp;omega
     have b6n:decide (100<nd)=false:=by simpa using h40
     obtain rfl:nx=nd:=by rw[<-sH.out];omega
     go_wp2;go_meet;exact⟨rfl,rfl⟩
   case rest=>
    obtain⟨rfl,hw⟩:=hcut;obtain rfl:=hw.symm;clear hw;obtain⟨pp,agy,hpp⟩:=aif o7.p;obtain⟨of,ajq,hof⟩:=amn o7.off;obtain⟨bx,hbx⟩:∃q,o7.bs.take nx=q:=⟨_,rfl⟩
    have HRX:Hid (Reads 1 w (.slice dao nx wu) nx (bx.map B)):=hid (by
     have h5:=KQ.out.rd;rw[HVD.out,AA.out]at h5;rw[<-hbx];exact Reads.aij h5 (by have:=sH.out;omega))
    have iC:Hid (bx.length=nx):=hid (by rw[<-hbx,List.length_take,AA.out];have:=sH.out;omega);have agz:Hid (nx<=100):=hid (by have:=sH.out;omega);clear hbx k6;go_upto_region 13 with (fail);have hB:Below wr.heap.size wr wr:=Below.refl _ _;refine aQ (ae1 A bb oo cap j n pp of nx wu dao o7.p o7.off) 17 [[],[],[],[],[2,3],[2,3,4],[2,3,4,5],[2,3,4,5,6],[2,3,4,5,6,7],[2,3,4,5,6,7,8],[],[],[10,11],[10,11,12],[10,11,12,13],[10,11,12,13,14],[]] [some 55,some 56,some 57,some 58,some 59,some 60,some 61,some 62,some 63,some 64,some 65,some 66,some 67,some 68,some 69,some 70,some 71,some 72,some 73] (by kernel_rfl) (by kernel_rfl) rfl (aaq A bb oo cap j n pp of nx wu dao o7.p o7.off) (adg A bb oo cap j n pp of nx wu dao o7.p o7.off) ?ahe ?_
    case ahe=>
     intro i hi o ho vs lo eX w' hg hp;have hsz:=hg.size;have hgB:Below wr.heap.size wr w':=hg.below (fun k hk=>⟨hk,fun o=>by rintro⟨j,_,_,_,hw⟩;exact False.elim hw⟩);replace hp:=fun j hj=>(hp j hj).2.2.2
     match i,hi with
     | 0,_|1,_|2,_|3,_|10,_|11,_|16,_|4,_|5,_|6,_|7,_|8,_|12,_|13,_|14,_=>
      cases ho;simp only[aA,aaq]at hp
      first|simp only[ak,Act.put,aA,hp]|simp only[ak,Act.put,aA]
      try have e0:=(hg.cell _ _ kbb (by rintro⟨j,_,hne,hb,hw⟩;exact hw)).trans k2
      try have e1:=(hg.cell _ _ kbb (by rintro⟨j,_,hne,hb,hw⟩;exact hw)).trans k3
      go_wp2;exact⟨_,rfl,aB.refl _,rfl⟩
     | 9,_=>
      cases ho;simp only[ak,Act.put,aA];have h8:=hp 8 (by simp);simp only[aaq]at h8;rw[h8];go_wp2;exact⟨_,rfl,aB.refl _,by show Value.int .i64 _=Value.int .i64 _;first|rfl|rw[hpp]⟩
     | 15,_=>
      cases ho;simp only[ak,Act.put,aA];have dH:=hp 14 (by simp);simp only[aaq]at dH;rw[dH];go_wp2;exact⟨_,rfl,aB.refl _,by show Value.int .i64 _=Value.int .i64 _;first|rfl|rw[hof]⟩
     | (q+17),hq=>exact absurd hq (by omega)
    intro vS lo hi z13 hg hp hd;have hP:=fun j hj=>(hp j hj).2.2.2;have h0:=hP 0 (by decide);have h1:=hP 1 (by decide);have h2:=hP 2 (by decide);have h3:=hP 3 (by decide);have h4:=hP 4 (by decide);have h5:=hP 5 (by decide);have h6:=hP 6 (by decide);have h7:=hP 7 (by decide);have h8:=hP 8 (by decide);have h9:=hP 9 (by decide);have h10:=hP 10 (by decide);have h11:=hP 11 (by decide);have h12:=hP 12 (by decide);have h13:=hP 13 (by decide);have dH:=hP 14 (by decide);have h15:=hP 15 (by decide);have h16:=hP 16 (by decide);clear hP;simp only[aaq]at h0 h1 h2 h3 h4 h5 h6 h7 h8 h9 h10 h11 h12 h13 dH h15 h16;clear hp hd;have hsz:=hg.size;replace hB:=hB.trans (hg.below (fun k hk=>⟨by omega,fun o=>by rintro⟨j,_,hw⟩;exact False.elim hw⟩));have hr:List.range 17=[0,1,2,3,4,5,6,7,8,9,10,11,12,13,14,15,16]:=rfl;rw[hr];clear hr;simp only[List.drop_succ_cons,List.drop_zero,List.drop_nil,ak,Act.put,aA,h0,h1,h2,h3,h4,h5,h6,h7,h8,h9,h10,h11,h12,h13,dH,h15,h16];clear h0 h1 h2 h3 h4 h5 h6 h7 h8 h9 h10 h11 h12 h13 dH h15 h16;have af6:=HA.out.rw.below (hB);have hnx2:=agz.out;have aeX:pp<(Cf.of 1024).pg:=by rw[aai];show pp<190;omega
    have hwr:=ac1 af6 (by omega) HA.out.li.op pp of bx (.slice dao nx wu) (by rw[iC.out];exact HRX.out) aeX (agv agy) (by rw[iC.out];omega) (aay (by rw[iC.out];omega));rw[show((x.id:Nat):Int)=((1:Nat):Int) by rw[HA.out.li.id]]at hwr;have HW:=hid hwr;have Qn:=hid agy;have lN:=hid aeX;clear hwr aeX af6 hB hg hsz k2 k3 hnx2;go_wp2_with fail;refine HW.out.mono ?_;rintro e y5 ⟨σ5,S5,V5_9,rc5,rfl,h5,_,_,h8⟩;have H5:=hid h5;have H8:=hid h8;clear h5 h8 HW;go_wp2_with fail;go_roundw
    ·have hnx2:=agz.out;obtain⟨x5,us5,m1,m2⟩:=HA.out.li.step (by omega) pp of Qn.out bx (by rw[iC.out];omega) (by rw[iC.out];omega) (HA.out.rw.st.std.len lN.out) H8.out rfl;subst m2;exact⟨j+1,σ5,S5,_,V5_9,x5,us5,by omega,by omega,by go_num,⟨H5.out.le (by omega) (by rw[iC.out];omega) (aay (by omega)),m1⟩⟩
    ·simp[intOf];omega
  ·go_upto_region 8 with (fail);go_cut [42] (fun z wx=>z=.bool false/\wx=wr)
   case first=>
    by_cases aeY:j<n
    ·have b1:decide ((j:Int)<(n:Int))=true:=by simpa using aeY
     have b1n:decide (j<n)=true:=by simpa using aeY
     have b2:decide ((j:Int)<12)=false:=by simp;omega
     have b2n:decide (j<12)=false:=by simp;omega
     go_wp2;go_meet;exact⟨rfl,rfl⟩
    ·have b1:decide ((j:Int)<(n:Int))=false:=by simp;omega
     have b1n:decide (j<n)=false:=by simpa using aeY
     go_wp2;go_meet;exact⟨rfl,rfl⟩
   case rest=>
    obtain⟨rfl,hw⟩:=hcut;obtain rfl:=hw.symm;clear hw h1;have hpw:∀q,q<5->(W q).length=504:=fun q hq=>HA.out.rw.st.std.len (by rw[aai];show q<190;omega);have har:=area_any (w:=wr) (S:=S) A.sb 5 (by decide) W hpw (fun i S' w'=>∃σ',Rw w A (Cf.of 1024) (1+3*j+i) (288+492*j) σ' W S' w' V (jA 1::us) ps5 1024/\Like σ σ')
     (fun i S' w' hi ⟨σ',h,hk⟩=>(agc h i (by rw[aai];show i<190;omega) (agv hi) (by omega)).mono (fun er w2 ⟨v2,σ3,S3,e,g1,g2,g3,g4⟩=>⟨v2,S3,e,g1,⟨σ3,g2,hk.trans g4⟩,g3⟩)) ⟨σ,HA.out.rw,Like.refl _⟩
    obtain⟨na,hna⟩:∃q,aal W 5=q:=⟨_,rfl⟩
    rw[hna]at har;have HAR:=hid har;have rD:=hid hna;have HPW:=hid hpw;clear har hna hpw;go_wp2_with fail;refine HAR.out.mono ?_;rintro e y3 ⟨S3,rfl,⟨σ3,h3,hlk⟩,_⟩;have hli:=HA.out.li.like hlk;have hx0:σ3.opn[0]? = some x:=by rw[hli.op];rfl
    have hcm:=adN h3.st.sv h3.st.fine (by omega) hx0;rw[show((x.id:Nat):Int)=((1:Nat):Int) by rw[hli.id]]at hcm;have hch:=adi h3 hli.op (aay (by omega));obtain⟨σ4,hσ4⟩:∃s,(St.commit (Cf.of 1024) σ3 0 x).2=s:=⟨_,rfl⟩
    rw[hσ4]at hcm hch;rw[hli.id]at hch;have HCM:=hid hcm;have HCH:=hid hch;have HLI:=hid hli;clear h3 hlk hli hx0 hcm hch hσ4 HAR;go_wp2_with fail;refine HCM.out.mono ?_;rintro e y4 ⟨S4,rfl,agH,_⟩;obtain⟨Sd,hdv,_⟩:=agH.dev;obtain⟨ae4,hdl,hzs⟩:=HCH.out;obtain⟨D,hD⟩:∃D,σ4.io.D=D:=⟨_,rfl⟩
    rw[hD]at hdv ae4 hdl hzs;have lF:=hid hdv;have Oq:=hid ae4;have ZV:=hid hdl;have HZS:=hid hzs;have FQ:=hid (show Calls Tryz.prog 16 #[.int .i64 1024] y4 fun e w'=>e=.returned (.tuple #[.int .i64 256,.int .i64 190])/\w'=y4 from(BF y4 1024 (by decide) (by decide)).mono (fun e w' h=>h));clear agH hdv ae4 hdl hzs hD HCM HCH;go_wp2_with fail;refine FQ.out.mono ?_;rintro e y5 ⟨rfl,hy⟩;obtain rfl:y4=y5:=hy.symm;clear FQ;go_wp2_with fail;go_loopw [13,14,15] (fun z13 Vr z15 w5=>∃(i q:Nat),i<=20/\q=263+i/\z13=.int .i64 (q:Nat)/\DV w A.d (D.reads i) Sd w5) (fun z13 _ _ _=>(283-intOf z13).toNat)
    case atStart=>exact⟨0,263,by decide,rfl,rfl,lF.out⟩
    case round=>
     obtain⟨i,q,ajV,hq,rfl,hdv⟩:=hrel;have hqb:q<=283:=by omega
     have Jr:=hid hdv;have HQ:=hid hq;clear hdv hq;rcases Nat.lt_or_ge i 20 with hi|hi
     ·have k1:decide (q<283)=true:=by have:=HQ.out;simp;omega
      have k2:decide ((q:Int)<283)=true:=by have:=HQ.out;simp;omega
      have hrd:=ug Jr.out (Oq.out.good.reads i).dead q (by rw[Dv.fM,ZV.out];have:=HQ.out;omega);have hzq:D.sec q=nz 128:=HZS.out q (by rw[aai];show 2+256<=q;have:=HQ.out;omega);rw[fU,hzq]at hrd;have jD:=hid hrd;clear hrd hzq;go_wp2_with fail;refine jD.out.mono ?_;rintro e y6 ⟨g,rfl,CZ,hbuf,_,_⟩;have zY:=hid (show DV w A.d (D.reads (i+1)) Sd y6 from CZ);have HR8:=hid (aaN hbuf (jE 128));clear CZ hbuf jD k1 k2;go_wp2_with fail;go_upto_region 23 with (fail);have hB:Below y6.heap.size y6 y6:=Below.refl _ _;refine aQ (af2 g) 8 [[],[0],[0,1],[0,1,2],[0,1,2,3],[0,1,2],[0,1,2,5],[0,1,2,3,4,5,6]] [some 107,some 108,some 109,some 110,some 111,some 112,some 113,some 114,some 115] (by kernel_rfl) (by kernel_rfl) rfl (aak g) (adh g) ?ahw ?_
      case ahw=>
       intro i hi o ho vs lo eX w' hg hp;have hsz:=hg.size;have hgB:Below y6.heap.size y6 w':=hg.below (fun k hk=>⟨hk,fun o=>by rintro⟨j,_,_,_,hw⟩;exact False.elim hw⟩);replace hp:=fun j hj=>(hp j hj).2.2.2
       match i,hi with
       | 0,_|1,_|2,_|3,_=>
        cases ho;simp only[aA,aak]at hp
        first|simp only[ak,Act.put,aA,hp]|simp only[ak,Act.put,aA]
        go_wp2;exact⟨_,rfl,aB.refl _,rfl⟩
       | 4,_=>
        cases ho;simp only[ak,Act.put,aA];have h2:=hp 2 (by simp);have h3:=hp 3 (by simp);simp only[aak]at h2 h3;rw[h2,h3];have hq:=dJ (P:=Tryz.prog) Tryz.underlying48 Tryz.underlying5 Tryz.underlying9 (nz 128) (HR8.out.below hgB (Nat.le_refl _));go_wp2;exact⟨_,rfl,aB.refl _,rfl⟩
       | 5,_=>
        cases ho;simp only[ak,Act.put,aA];have h2:=hp 2 (by simp);simp only[aak]at h2;rw[h2];have hmk:=JG;have hbl:=(Below.refl w'.heap.size w').alloc (Nat.le_refl _) (.cells uf 5);go_wp2;exact⟨_,rfl,aB.bK ⟨hbl.os,hbl.tape,hbl.output,hbl.size,hbl.block⟩,w'.heap.size,rfl,Buf.agq _⟩
       | 6,_=>
        cases ho;simp only[ak,Act.put,aA];have h2:=hp 2 (by simp);have h5:=hp 5 (by simp);simp only[aak]at h2 h5;rw[h2];obtain⟨g5,e5,hb5⟩:=h5;rw[e5];have hq:=dJ (P:=Tryz.prog) Tryz.underlying48 Tryz.underlying5 Tryz.underlying9 (nz 128) (aaN hb5 (jE 128));go_wp2;exact⟨_,rfl,aB.refl _,rfl⟩
       | 7,_=>
        cases ho;simp only[ak,Act.put,aA];have h2:=hp 2 (by simp);have h4:=hp 4 (by simp);have h6:=hp 6 (by simp);simp only[aak]at h2 h4 h6;rw[h2,h4,h6];have hss:=yc (nz 128);go_wp2;exact⟨_,rfl,aB.refl _,rfl⟩
       | (q+8),hq=>exact absurd hq (by omega)
      intro vS lo hi w9 hg hp hd;have hP:=fun j hj=>(hp j hj).2.2.2;have h0:=hP 0 (by decide);have h1:=hP 1 (by decide);have h2:=hP 2 (by decide);have h3:=hP 3 (by decide);have h4:=hP 4 (by decide);have h5:=hP 5 (by decide);have h6:=hP 6 (by decide);have h7:=hP 7 (by decide);clear hP;simp only[aak]at h0 h1 h2 h3 h4 h5 h6 h7;clear hp hd;have hsz:=hg.size;replace hB:=hB.trans (hg.below (fun k hk=>⟨by omega,fun o=>by rintro⟨j,_,hw⟩;exact False.elim hw⟩));have hr:List.range 8=[0,1,2,3,4,5,6,7]:=rfl;rw[hr];clear hr;simp only[List.drop_succ_cons,List.drop_zero,List.drop_nil,ak,Act.put,aA,h0,h1,h2,h3,h4,h6,h7];clear h0 h1 h2 h3 h4 h6 h7;have aiq:=hid (zY.out.below hB);clear hB hg hsz;go_wp2_with fail;go_roundw
      ·exact⟨i+1,q+1,by omega,by have:=HQ.out;omega,by go_num,aiq.out⟩
      ·have hq3:q<283:=by have:=HQ.out;omega
       simp[intOf];omega
     ·obtain rfl:i=20:=by omega
      obtain rfl:q=283:=HQ.out;have k1:decide ((283:Nat)<283)=false:=by decide
      have k2:decide (((283:Nat):Int)<283)=false:=by decide
      have k3:decide ((283:Int)<283)=false:=by decide
      have U8:=hid (aaI Jr.out (Oq.out.good.reads 20) ((Ib D 20).trans Oq.out.c0));go_wp2_with fail;refine U8.out.mono ?_;rintro e y7 ⟨⟨_,rfl⟩,S7,hd7,_,_⟩;have hop:=ad4 hd7 (by rw[Dv.fM,ZV.out]) HLI.out aio (by have:=HLI.out.last;have:=HLI.out.tl;omega) (Oq.out.reads 20) (fun q hq=>by
       rw[Yv];exact aml D _ (fun i h1 h2=>HZS.out i (by rw[aai]at h1⊢;simp only at h1⊢;omega)))
      have HOP:=hid hop;clear hd7 hop U8;go_wp2_with fail;refine HOP.out.mono ?_;rintro e y8 ⟨A8,S8,rfl,hup⟩;have har:=area_any (w:=y8) (S:=S8) A8.sb 5 (by decide) W HPW.out (fun i S' w'=>UpR w A8 (Cf.of 1024) (300064+i) W 1 0 S' w')
       (fun i S' w' hi h=>(agp h i (by rw[aai];show i<190;omega) (by omega)).mono (fun er w2 ⟨v2,S3,e,g1,g2,g3⟩=>⟨v2,S3,e,g1,g2,g3⟩)) hup
      rw[rD.out]at har;have HAR:=hid har;clear hup har HOP;go_wp2_with fail;refine HAR.out.mono ?_;rintro e y9 ⟨S9,rfl,agI,_⟩;obtain⟨σ9,ac6,_,_,agJ,agP⟩:=agI.ex;have hrs:=adk ac6;rw[agP]at hrs;obtain⟨rd,hrd⟩:∃q,σ9.aW=q:=⟨_,rfl⟩
      rw[hrd]at hrs;have nP:=hid hrs;have agR:=hid ac6;have air:=hid agJ;clear agI ac6 agJ agP hrs hrd HAR;go_wp2_with fail;refine nP.out.mono ?_;rintro e IW ⟨rfl,uM⟩;have hcc:Calls Tryz.prog 39 #[.pointer (some ⟨A8.sb,0,none⟩)] IW fun e w'=>e=.returned (.int .i64 1)/\w'=IW:=by
       obtain⟨vl,vo,EL,EO,K,Sq,hat,rfl⟩:=agR.out.below uM;have hx:=TP hat;rw[air.out]at hx;exact hx
      have wO:=hid hcc;have agS:=hid (agR.out.below uM).bel;have hss:=yc na;clear uM hcc nP;go_wp2_with fail;refine wO.out.mono ?_;rintro e CB ⟨rfl,hy⟩;obtain rfl:IW=CB:=hy.symm;go_wp2_with fail;refine(Jz _).mono ?_;rintro e zD ⟨rfl,hb⟩;have acy:=hid hb;clear hb;go_wp2_with fail;go_ret;exact⟨rfl,agS.out.trans (acy.out.mono agS.out.size)⟩
end Go.Proofs.YtpajagkhmodbnaaGreat

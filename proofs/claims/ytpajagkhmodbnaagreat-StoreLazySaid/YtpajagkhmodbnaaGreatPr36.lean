/- Pr: texts of the store seat laid together by program: ReSec. Conditions: each theorem names its own. -/
import Derived.Test.YtpajagkhmodbnaaGreatPr17
namespace Go.Proofs.YtpajagkhmodbnaaGreat
set_option maxRecDepth 100000
set_option maxHeartbeats 3200000
open Lib(hid)
set_option linter.unusedSimpArgs false
set_option linter.unusedVariables false
section
open Go.RowKit
def vg(W0:World)(r d n k HZ:Nat)(D:Dv)(S:Nat->Prop)(b:List UInt8)(j b o:Nat):Prop:=(j=15/\b=d)
def jU(W0:World)(r d n k HZ:Nat)(D:Dv)(S:Nat->Prop)(b:List UInt8)(i:Nat)(VS:Nat->Value)(LO HI:Nat->Nat)(v:Value)(lo hi:Nat)(w:World):Prop:=
 match i with
 | 0=>v=.pointer (some ⟨r,0,none⟩)
 | 1=>v=.pointer (some ⟨r,0,none⟩)
 | 2=>v=.pointer (some ⟨r,0,none⟩)
 | 3=>v=.pointer (some ⟨d,0,none⟩)
 | 4=>v=.pointer (some ⟨r,0,none⟩)
 | 5=>v=.pointer (some ⟨r,0,none⟩)
 | 6=>v=.pointer (some ⟨r,1,none⟩)
 | 7=>v=.int .i64 2
 | 8=>v=.int .i64 ((k:Nat):Int)
 | 9=>v=.pointer (some ⟨r,0,none⟩)
 | 10=>v=.pointer (some ⟨r,0,none⟩)
 | 11=>v=.pointer (some ⟨r,2,none⟩)
 | 12=>v=.int .i64 ((n:Nat):Int)
 | 13=>v=.int .i64 ((k % n:Nat):Int)
 | 14=>v=.int .i64 ((2+k % n:Nat):Int)
 | 15=>∃g,v=.tuple #[.slice (some ⟨g,0,none⟩) 128 128,.int .i64 0]/\Buf w g b/\HZ<=g/\DV W0 d (D.reads 1) S w
 | 16=>v=VS 15
 | 17=>∃g,VS 15=.tuple #[.slice (some ⟨g,0,none⟩) 128 128,.int .i64 0]/\v=.slice (some ⟨g,0,none⟩) 128 128
 | 18=>v=.int .i64 0
 | 19=>v=VS 17
 | 20=>v=.int .i64 0
 | _=>True
abbrev Yd:List (List Nat):=[[],[0],[0,1],[0,1,2],[],[4],[4,5],[4,5,6],[],[],[9],[9,10],[9,10,11],[8,9,10,11,12],[4,5,6,7,8,9,10,11,12,13],[0,1,2,3,4,5,6,7,8,9,10,11,12,13,14],[0,1,2,3,4,5,6,7,8,9,10,11,12,13,14,15],[0,1,2,3,4,5,6,7,8,9,10,11,12,13,14,15,16],[0,1,2,3,4,5,6,7,8,9,10,11,12,13,14,15,16],[0,1,2,3,4,5,6,7,8,9,10,11,12,13,14,15,16,17],[0,1,2,3,4,5,6,7,8,9,10,11,12,13,14,15,16,17,18,19]]
theorem SK(W0:World)(r d n k HZ:Nat)(D:Dv)(S:Nat->Prop)(b:List UInt8)  : ∀i j,i<21->j<21->j≠i->j∉Yd.getD i []->(i,j)∉([]:List (Nat×Nat))->∀VS LO HI v lo hi w w',jU W0 r d n k HZ D S b i VS LO HI v lo hi w->aB (vg W0 r d n k HZ D S b j) w w'->jU W0 r d n k HZ D S b i VS LO HI v lo hi w':=by
 intro i j hi hj hne hbs hx VS LO HI v lo hj2 w w' h hg
 match i,hi with
 | 0,_|1,_|2,_|3,_|4,_|5,_|6,_|7,_|8,_|9,_|10,_|11,_|12,_|13,_|14,_|16,_|17,_|18,_|19,_|20,_=>
  simp only[jU]at h⊢;exact h
 | 15,_=>
  simp only[jU]at h⊢;obtain⟨g,h1,h2,h3,h4⟩:=h;have hgx:aj (fun _=>False) w w':=aj.aK hg (fun k o h=>by simp only[vg]at h;omega);exact⟨g,h1,h2.aH hgx (fun h=>h),h3,h4.grow hgx (fun _ _ h=>h) (h4.bel.trans (hgx.below (fun k hk=>⟨Nat.lt_of_lt_of_le hk h4.bel.size,fun h=>h⟩)))⟩
 | (q+21),hq=>exact absurd hq (by omega)
theorem Ye(W0:World)(r d n k HZ:Nat)(D:Dv)(S:Nat->Prop)(b:List UInt8):∀i,i<21->∀VS dZ LO eu HI eF v lz hz w,(∀j∈Yd.getD i [],VS j=dZ j/\LO j=eu j/\HI j=eF j)->jU W0 r d n k HZ D S b i VS LO HI v lz hz w->jU W0 r d n k HZ D S b i dZ eu eF v lz hz w:=by
 intro i hi VS dZ LO eu HI eF v lz hz w he h
 match i,hi with
 | 0,_|1,_|2,_|3,_|4,_|5,_|6,_|7,_|8,_|9,_|10,_|11,_|12,_|13,_|14,_|15,_|18,_|20,_=>
  simp only[jU]at h⊢;exact h
 | 16,_|17,_=>
  simp only[jU]at h⊢;obtain⟨Pv,Px,Py⟩:=he 15 (by decide);simp only[<-Pv,<-Px,<-Py];exact h
 | 19,_=>
  simp only[jU]at h⊢;obtain⟨aa9,abb,abd⟩:=he 17 (by decide);simp only[<-aa9,<-abb,<-abd];exact h
 | (q+21),hq=>exact absurd hq (by omega)
def aeO(g k HZ:Nat)(tk nk:List UInt8)(nb:Bool)(j b o:Nat):Prop:=False
def nZ(g k HZ:Nat)(tk nk:List UInt8)(nb:Bool)(i:Nat)(v:Value)(lo hi:Nat)(w:World):Prop:=
 match i with
 | 0=>v=.slice (some ⟨g,0,none⟩) 128 128
 | 1=>v=.slice (bY (some ⟨g,0,none⟩) 0 128 1) 8 128
 | 2=>v=.string ⟨tk.toArray⟩
 | 3=>v=.int .i64 ((k:Nat):Int)
 | 4=>v=.int .i64 ((k+1:Nat):Int)
 | 5=>∃g2,v=.slice (some ⟨g2,0,none⟩) 8 8/\Buf w g2 nk
 | 6=>v=.string ⟨nk.toArray⟩
 | 7=>v=.bool nb
 | _=>True
theorem SL(g k HZ:Nat)(tk nk:List UInt8)(nb:Bool)  : ∀i j,i<8->j<8->j≠i->j∉([[],[0],[0,1],[],[3],[3,4],[3,4,5],[0,1,2,3,4,5,6]]:List (List Nat)).getD i []->∀v lo hi w w',nZ g k HZ tk nk nb i v lo hi w->aB (aeO g k HZ tk nk nb j) w w'->nZ g k HZ tk nk nb i v lo hi w':=by
 intro i j hi hj hne hbs v lo hj2 w w' h hg
 match i,hi with
 | 0,_|1,_|2,_|3,_|4,_|6,_|7,_=>
  simp only[nZ]at h⊢;exact h
 | 5,_=>
  simp only[nZ]at h⊢;obtain⟨g2,h1,h2⟩:=h;exact⟨g2,h1,h2.aH (aj.aK hg (Y:=fun _=>False) (fun k o h=>h)) (fun h=>h)⟩
 | (q+8),hq=>exact absurd hq (by omega)
section
variable{W0 w:World}{r d n:Nat}{D:Dv}{S:Nat->Prop}
theorem SN(v3 v4 v5 v6 v7:Value)(hb:Box w r [.pointer (some ⟨d,0,none⟩),.int .i64 2,.int .i64 (n:Nat),v3,v4,v5,v6,v7])(h:DV W0 d D S w)(Dt:¬S r)(hg:D.good)(hn:2<=n)(hn2:n<=8192)(hl:2+n<=D.l.length)(k:Nat)(hk:k<=1099511627776)
  (b:List UInt8) (hbs:D.sec (2+k % n)=b) (hnm:b.take 8=aJ (k+1)) (x8 x9:UInt8) (h8:b[8]? = some x8) (h9:b[9]? = some x9) (ct:Nat) (hct:x8.toNat*256+x9.toNat=ct) (hc1:1<=ct/\ct<=118):
  Calls Tryz.prog 111 #[.pointer (some ⟨r,0,none⟩),.int .i64 (k:Nat)] w fun e w'=>∃v,e=.returned (.tuple #[v,.int .i64 (ct:Nat),.int .i64 0])/\Reads 1 w' v 118 ((b.drop 10).map B)/\(∀q,v.ownBlock=some q->w.heap.size<=q)/\DV W0 d (D.reads 1) S w'/\aj (fun k=>k=d) w w':=by
 have FH:2+k % n<D.l.length:=by have:=Nat.mod_lt k (show 0<n by omega);omega
 have hbl:b.length=128:=by rw[<-hbs];exact Dv.je hg.ok FH
 have hrd:=PD hb h Dt;have HD:=hid h;have HG:=hid hg;have vM:=hid hbs;have dP:=hid hbl;have HIQ:=hid FH;have br:=hb;have hlt:=hb.lt;have hstr:=Y2 (aJ (k+1));have rZ:Hid ((aJ (k+1)==aJ (k+1))=true):=hid (by simp);have HNM:=hid hnm;have H8:=hid h8;have H9:=hid h9;have UU:=hid hct;clear hnm h8 h9 hct;clear h hg hbs hbl FH hl hb;go_enter Tryz.func111,Tryz.ntmps111;go_wp2_with fail;refine jC 0 rfl ?_;go_upto_region 1 with (fail);have hB:Below 0 w w:=Below.refl _ _;refine eP (vg W0 r d n k (w.heap.size) D S b) 21 Yd [some 9,some 10,some 11,some 12,some 13,some 14,some 15,some 16,some 17,some 18,some 19,some 20,some 21,some 22,some 23,some 24,some 8,some 25,some 26,some 7,some 6] [[],[0],[1],[2],[],[4],[5],[6],[],[],[9],[10],[11],[8,12],[7,13],[3,14],[15],[15,16],[15,16],[17],[18]] [0,1,2,3,4,5,6,7,8,9,10,11,12,13,14,15,16,17,18,19,20] [] (by decide) (by kernel_rfl) (by kernel_rfl) rfl (jU W0 r d n k (w.heap.size) D S b) (Ye W0 r d n k (w.heap.size) D S b) (SK W0 r d n k (w.heap.size) D S b) ?al4 ?_
 case al4=>
  intro i hi o ho vs lo eX w' hg hp hdd;have hsz:=hg.size;replace hp:=fun j hj=>(hp j hj).2.2.2
  match i,hi with
  | 0,_|4,_|8,_|9,_|1,_|2,_|3,_|5,_|6,_|7,_|10,_|11,_|12,_|16,_|19,_|20,_=>
   cases ho;simp only[aA,jU]at hp
   first|simp only[ak,Act.put,aA,hp]|simp only[ak,Act.put,aA]
   try have e0:=(hg.cell (r) 0 br.lt (by rintro⟨j,_,hne,hb,hw⟩;simp only[vg]at hw;omega)).trans (br.cell 0 _ rfl)
   try have e1:=(hg.cell (r) 1 br.lt (by rintro⟨j,_,hne,hb,hw⟩;simp only[vg]at hw;omega)).trans (br.cell 1 _ rfl)
   try have e2:=(hg.cell (r) 2 br.lt (by rintro⟨j,_,hne,hb,hw⟩;simp only[vg]at hw;omega)).trans (br.cell 2 _ rfl)
   go_wp2;exact⟨_,rfl,aB.refl _,rfl⟩
  | 13,_=>
   cases ho;simp only[ak,Act.put,aA];have h8:=hp 8 (by simp);have h12:=hp 12 (by simp);simp only[jU]at h8 h12;rw[h8,h12];have hn0:¬(n:Int)=0:=by omega
   have hn1:decide ((n:Int)=0)=false:=by simpa using hn0
   go_wp2;refine⟨_,rfl,aB.refl _,?_⟩;simp only[jU];congr 1
  | 14,_=>
   cases ho;simp only[ak,Act.put,aA];have h7:=hp 7 (by simp);have h13:=hp 13 (by simp);simp only[jU]at h7 h13;rw[h7,h13];go_wp2;refine⟨_,rfl,aB.refl _,?_⟩;simp only[jU];congr 1;have hn9:k % n<n:=Nat.mod_lt _ (by omega);have vK:(k:Int) % (n:Int)=((k % n:Nat):Int):=rfl;rw[vK,wrap64];omega
  | 15,_=>
   cases ho;simp only[ak,Act.put,aA];have h3:=hp 3 (by simp);have dH:=hp 14 (by simp);simp only[jU]at h3 dH;rw[h3,dH];have hgw:aj (fun _=>False) w w':=aj.aK hg (fun k o ⟨j,_,hne,_,hw⟩=>by simp only[vg]at hw;omega);have hbw:Below w.heap.size w w':=hgw.below (fun k hk=>⟨hk,fun h=>h⟩);have hcall:=ug (HD.out.below hbw) HG.out.dead (2+k % n) HIQ.out;rw[vM.out]at hcall;have cO:=hid hcall;clear hcall;go_wp2_with fail;refine cO.out.mono ?_;rintro e y ⟨g,rfl,hdv,hbuf,hg5,hgr⟩;go_wp2;exact⟨_,rfl,adu hgr (fun o=>(hdv.free o).trans ((HD.out.below hbw).free o).symm) (fun o=>⟨rfl,rfl⟩),g,rfl,hbuf,by have:=hbw.size;omega,hdv⟩
  | 17,_=>
   cases ho;simp only[ak,Act.put,aA];have h15:=hp 15 (by simp);have h16:=hp 16 (by simp);simp only[jU]at h15 h16;obtain⟨g,e15,_⟩:=h15;rw[h16,e15];go_wp2;exact⟨_,rfl,aB.refl _,g,e15,rfl⟩
  | 18,_=>
   cases ho;simp only[ak,Act.put,aA];have h15:=hp 15 (by simp);have h16:=hp 16 (by simp);simp only[jU]at h15 h16;obtain⟨g,e15,_⟩:=h15;rw[h16,e15];go_wp2;exact⟨_,rfl,aB.refl _,rfl⟩
  | (q+21),hq=>exact absurd hq (by omega)
 intro vS lo hi w5 hg hp hd;have hP:=fun j hj=>(hp j hj).2.2.2;have h0:=hP 0 (by decide) (by decide);have h1:=hP 1 (by decide) (by decide);have h2:=hP 2 (by decide) (by decide);have h3:=hP 3 (by decide) (by decide);have h4:=hP 4 (by decide) (by decide);have h5:=hP 5 (by decide) (by decide);have h6:=hP 6 (by decide) (by decide);have h7:=hP 7 (by decide) (by decide);have h8:=hP 8 (by decide) (by decide);have h9:=hP 9 (by decide) (by decide);have h10:=hP 10 (by decide) (by decide);have h11:=hP 11 (by decide) (by decide);have h12:=hP 12 (by decide) (by decide);have h13:=hP 13 (by decide) (by decide);have dH:=hP 14 (by decide) (by decide);have h15:=hP 15 (by decide) (by decide);have h16:=hP 16 (by decide) (by decide);have h17:=hP 17 (by decide) (by decide);have h18:=hP 18 (by decide) (by decide);have h19:=hP 19 (by decide) (by decide);have h20:=hP 20 (by decide) (by decide);clear hP;simp only[jU]at h0 h1 h2 h3 h4 h5 h6 h7 h8 h9 h10 h11 h12 h13 dH h15 h16 h17 h18 h19 h20;clear hp hd;have hsz:=hg.size;replace br:=br.grow hg (by intro i _;rintro⟨j,_,hw⟩;simp only[vg]at hw;omega);replace hB:=hB.trans (hg.below (fun k hk=>⟨by omega,fun o=>by rintro⟨j,_,hw⟩;simp only[vg]at hw;omega⟩));have hr:List.range 21=[0,1,2,3,4,5,6,7,8,9,10,11,12,13,14,15,16,17,18,19,20]:=rfl;rw[hr];clear hr;simp only[List.drop_succ_cons,List.drop_zero,List.drop_nil,ak,Act.put,aA,h0,h1,h2,h3,h4,h5,h6,h7,h8,h9,h10,h11,h12,h13,dH,h18,h20];clear h0 h1 h2 h3 h4 h5 h6 h7 h8 h9 h10 h11 h12 h13 dH h18 h20;obtain⟨g,e15,hbuf,hg0,hdv⟩:=h15;have e17:vS 17=.slice (some ⟨g,0,none⟩) 128 128:=by
  obtain⟨g',e1,e2⟩:=h17;rw[e15]at e1;injection e1 with e1;injection e1 with e1;injection e1 with e1;injection e1 with e1;injection e1 with e1;injection e1 with e1;rw[e2,e1]
 rw[h19,h16,e17,e15];have lF:=hid hdv;have PE:=hid hbuf;have vP:Hid (aj (fun k=>k=d) w w5):=hid (aj.aK hg (fun k o ⟨j,_,hw⟩=>by simp only[vg]at hw;exact hw.2));obtain⟨y,PG⟩:∃y,y=w5:=⟨_,rfl⟩
 subst PG;have jD:Hid (Reads 1 y (.slice (some ⟨g,0,none⟩) 128 128) 128 (b.map B)):=hid (Reads.aY (hbuf.own (base:=0) dP.out (Nat.zero_le _) (by decide)));have hyl:=vP.out.size;have hcut:=jD.out.bY 0 8 (by omega) (by omega);have hcx:((b.map B).drop (0*1)).take ((8-0)*1)=(b.take 8).map B:=by rw[List.map_take];rfl
 rw[hcx,HNM.out]at hcut;have mO:Hid (Reads 1 y (.slice (bY (some ⟨g,0,none⟩) 0 128 1) 8 128) 8 ((aJ (k+1)).map B)):=hid hcut;clear hdv hbuf hcut hcx h16 h17 h19 e15 e17 hB hg hsz br;go_upto_region 4 with (fail);have hB:Below y.heap.size y y:=Below.refl _ _;refine aQ (aeO g k (y.heap.size) (aJ (k+1)) (aJ (k+1)) false) 8 [[],[0],[0,1],[],[3],[3,4],[3,4,5],[0,1,2,3,4,5,6]] [some 30,some 31,some 32,some 33,some 34,some 35,some 36,some 37] (by kernel_rfl) (by kernel_rfl) rfl (nZ g k (y.heap.size) (aJ (k+1)) (aJ (k+1)) false) (SL g k (y.heap.size) (aJ (k+1)) (aJ (k+1)) false) ?al5 ?_
 case al5=>
  intro i hi o ho vs lo eX w' hg hp;have hsz:=hg.size;have hgB:Below y.heap.size y w':=hg.below (fun k hk=>⟨hk,fun o=>by rintro⟨j,_,_,_,hw⟩;exact False.elim hw⟩);replace hp:=fun j hj=>(hp j hj).2.2.2
  match i,hi with
  | 0,_|3,_=>
   cases ho;simp only[ak,Act.put,aA];go_wp2;exact⟨_,rfl,aB.refl _,rfl⟩
  | 1,_=>
   cases ho;simp only[ak,Act.put,aA];have h0:=hp 0 (by simp);simp only[nZ]at h0;rw[h0];refine nD bytesOf (.tmp 30) (.const (.int .i64 8)) rfl rfl rfl (h:=8) rfl (by omega) ?_;go_wp2;exact⟨_,rfl,aB.refl _,rfl⟩
  | 2,_=>
   cases ho;simp only[ak,Act.put,aA];have h1:=hp 1 (by simp);simp only[nZ]at h1;rw[h1];have hrd:=mO.out.below hgB (Nat.le_refl _);have hcv:=dJ Tryz.underlying48 Tryz.underlying5 Tryz.underlying9 _ hrd;go_wp2;exact⟨_,rfl,aB.refl _,rfl⟩
  | 4,_=>
   cases ho;simp only[ak,Act.put,aA];have h3:=hp 3 (by simp);simp only[nZ]at h3;rw[h3];go_wp2;refine⟨_,rfl,aB.refl _,?_⟩;simp only[nZ]
   first|omega|(congr 1<;>omega)|skip
  | 5,_=>
   cases ho;simp only[ak,Act.put,aA];have h4:=hp 4 (by simp);simp only[nZ]at h4;rw[h4];go_wp2_with fail;refine(GK w' (k+1) (by omega)).mono ?_;rintro e wh ⟨g2,rfl,hbuf,hg2,hbl⟩;go_wp2;exact⟨_,rfl,aB.bK ⟨hbl.os,hbl.tape,hbl.output,hbl.size,hbl.block⟩,g2,rfl,hbuf⟩
  | 6,_=>
   cases ho;simp only[ak,Act.put,aA];have h5:=hp 5 (by simp);simp only[nZ]at h5;obtain⟨g2,e5,b5⟩:=h5;rw[e5];have hrd:=Reads.aY (b5.own (base:=0) (dL _) (Nat.zero_le _) (by decide));have hcv:=dJ Tryz.underlying48 Tryz.underlying5 Tryz.underlying9 _ hrd;go_wp2;exact⟨_,rfl,aB.refl _,rfl⟩
  | 7,_=>
   cases ho;simp only[ak,Act.put,aA];have h2:=hp 2 (by simp);have h6:=hp 6 (by simp);simp only[nZ]at h2 h6;rw[h2,h6];go_wp2;refine⟨_,rfl,aB.refl _,?_⟩;simp only[nZ]
   all_goals (first|(rw[rZ.out];done)|(rw[rZ.out];rfl))
  | (q+8),hq=>exact absurd hq (by omega)
 intro vS lo hi w7 hg hp hd;have hP:=fun j hj=>(hp j hj).2.2.2;have h0:=hP 0 (by decide);have h1:=hP 1 (by decide);have h2:=hP 2 (by decide);have h3:=hP 3 (by decide);have h4:=hP 4 (by decide);have h5:=hP 5 (by decide);have h6:=hP 6 (by decide);have h7:=hP 7 (by decide);clear hP;simp only[nZ]at h0 h1 h2 h3 h4 h5 h6 h7;clear hp hd;have hsz:=hg.size;replace hB:=hB.trans (hg.below (fun k hk=>⟨by omega,fun o=>by rintro⟨j,_,hw⟩;exact False.elim hw⟩));have hr:List.range 8=[0,1,2,3,4,5,6,7]:=rfl;rw[hr];clear hr;simp only[List.drop_succ_cons,List.drop_zero,List.drop_nil,ak,Act.put,aA,h0,h1,h2,h3,h4,h6,h7];clear h0 h1 h2 h3 h4 h6 h7;have jo:=hid hB;have hs7:=hB.size;clear hB hg hsz;have hb8:=PE.out.aH (X:=fun _=>False) (aC jo.out) (fun h=>h);have e8:=hb8.cell 8 (B x8) (by rw[List.getElem?_map,H8.out];rfl);have e9:=hb8.cell 9 (B x9) (by rw[List.getElem?_map,H9.out];rfl);have eg:=hb8.lt;have FM:=hid hb8;simp only[B]at e8 e9;have ho:=agY x8.toNat x9 (by have:=x8.toNat_lt;omega);rw[UU.out]at ho;have hsh:((x8.toNat:Int))*256=((x8.toNat*256:Nat):Int):=by omega
 have hx8:=x8.toNat_lt;have hx9:=x9.toNat_lt;clear hb8;go_upto_region 5 with (fail);go_quiet (fail);have hw8:IntKind.i64.wrap (x8.toNat:Int)=(x8.toNat:Int):=by simp[IntKind.wrap,IntKind.signed,IntKind.bits];omega
 have hw9:IntKind.i64.wrap (x9.toNat:Int)=(x9.toNat:Int):=by simp[IntKind.wrap,IntKind.signed,IntKind.bits];omega
 have akF:IntKind.i64.wrap ((x8.toNat:Int)*256)=(x8.toNat:Int)*256:=by simp[IntKind.wrap,IntKind.signed,IntKind.bits];omega
 rw[hw8,hw9,akF,ho];have b1:decide ((ct:Int)<1)=false:=by simp;omega
 have b2:decide ((118:Int)<(ct:Int))=false:=by simp;omega
 have b3:decide (ct<1)=false:=by simp;omega
 have b4:decide (118<ct)=false:=by simp;omega
 have hq:=jW (Below.refl w7.heap.size w7) nq;have HQ:=hid hq;clear hw8 hw9 akF ho hsh e8 e9 eg hq;go_wp2_with (first|(refine iI bytesOf (.tmp 54) (.const (.int .i64 10)) rfl rfl rfl (l:=10) rfl (by omega) ?_)|fail);simp only[Exit.jump];refine bodyPost_ret (v:=.tuple #[.slice (bY (some ⟨g,0,none⟩) 10 128 1) 118 118,.int .i64 (ct:Nat),.int .i64 0]) (by simp[results,Tryz.results111,go_sem]) rfl ?_;have abe:=lF.out.below (jo.out.trans (HQ.out.mono jo.out.size));have abf:aj (fun k=>k=d) y (w7.drewN nq):=(aC (jo.out.trans (HQ.out.mono jo.out.size)):aj (fun _=>False) y _).mono (fun _ h=>h.elim);have SQ:=(jD.out.below (jo.out.trans (HQ.out.mono jo.out.size)) (Nat.le_refl _)).bY 10 128 (by omega) (by omega);have aqR:((b.map B).drop (10*1)).take ((128-10)*1)=(b.drop 10).map B:=by rw[<-List.map_drop];exact List.take_of_length_le (by rw[List.length_map,List.length_drop,dP.out];omega)
 rw[aqR]at SQ;exact⟨_,rfl,SQ,fun q e=>by have e2:=mM _ _ _ _ _ _ q e 128 128;have e3:g=q:=(by simpa[Value.ownBlock]using e2);omega,abe,vP.out.trans abf⟩
end
end
end Go.Proofs.YtpajagkhmodbnaaGreat

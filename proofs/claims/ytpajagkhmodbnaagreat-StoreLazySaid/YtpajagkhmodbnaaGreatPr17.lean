/- Pr: texts of the store seat laid together by program: RgSec RgOpen IoKit IoFile AppC RcNum. Conditions: each theorem names its own. -/
import Derived.Test.YtpajagkhmodbnaaGreatPr14
import Derived.Test.YtpajagkhmodbnaaGreatPr15
import Derived.Test.YtpajagkhmodbnaaGreatPr16
import Derived.Test.YtpajagkhmodbnaaGreatPr11
import Derived.Outline
namespace Go.Proofs.YtpajagkhmodbnaaGreat
set_option maxRecDepth 100000
set_option maxHeartbeats 3200000
open Lib(hid)
set_option linter.unusedSimpArgs false
set_option linter.unusedVariables false
section
open Go.RowKit
theorem agY(a:Nat)(c:UInt8)(h:a<16777216):bits BinOp.or IntKind.i64 ((a:Int)*256) (c.toNat:Int)=((a*256+c.toNat:Nat):Int):=by
 have hc:=c.toNat_lt;have e0:((a:Int)*256)=((a*256:Nat):Int):=by omega
 have e1:(BitVec.ofInt 64 ((a*256:Nat):Int) ||| BitVec.ofInt 64 (c.toNat:Int)).toNat=a*256+c.toNat:=by
  rw[BitVec.toNat_or,BitVec.ofInt_natCast,BitVec.ofInt_natCast,BitVec.toNat_ofNat,BitVec.toNat_ofNat,Nat.mod_eq_of_lt (by omega),Nat.mod_eq_of_lt (by omega)];have:=Nat.two_pow_add_eq_or_of_lt (i:=8) (b:=c.toNat) (by omega) a;rw[show a*256=2 ^ 8*a by omega,this]
 rw[e0];show IntKind.i64.wrap ((BitVec.ofInt 64 ((a*256:Nat):Int) ||| BitVec.ofInt 64 (c.toNat:Int)).toNat:Int)=_;rw[e1];simp[IntKind.wrap,IntKind.signed,IntKind.bits];omega
def JM:Array Value:=((List.replicate 118 (0:UInt8)).map B).toArray
theorem afm(w:World):(Instr.makeSlice 48 (.int .i64 118) (.int .i64 118)).run Tryz.prog w=.ok (.slice (some ⟨w.heap.size,0,none⟩) 118 118) (w.alloc (.cells JM 5)):=by
 obtain⟨i0,hi,hz0,hz1,hz2⟩:=info_parts (P:=Tryz.prog) (e:=5) (z:=.int .u8 0) (size:=1) (bytes:=1) (by kernel_rfl);have h:=run_make (P:=Tryz.prog) w 48 5 i0 (.int .u8 0) Tryz.underlying48 hi hz0 .i64 .i64 118 118 (by decide) (by decide) (by rw[hz2];decide) (by decide);rw[h,hz1];have e:madeCells (Value.int .u8 0).cells (Int.toNat 118*1)=JM:=by
  apply Array.ext';have e1:=toList_madeCells_one (.int .u8 0) 118;show(madeCells #[.int .u8 0] 118).toList=_;rw[e1];unfold JM;simp only[List.map_replicate];rfl
 rw[e];rfl
theorem Buf.afn(w:World):Buf (w.alloc (.cells JM 5)) w.heap.size (List.replicate 118 0):=by
 unfold Buf World.alloc;simp[JM]
theorem adu{d:Nat}{a b:World}{W:Nat->Nat->Prop}(h:aj (fun k=>k=d) a b)(hf:∀o,b.frozen? ⟨d,o,none⟩=a.frozen? ⟨d,o,none⟩)(hW:∀o,W d o):aB W a b:=
 ⟨h.os,h.tape,h.output,h.size,fun k hk hx=>h.block k hk (fun e=>hx 0 (e▸hW 0)),fun k o hk hx=>by
  have:=h.block k hk (fun e=>hx (e▸hW o));simp only[World.cell?,this],fun k o hk=>by
  by_cases e:k=d
  ·subst e;exact hf o
  ·have:=h.block k hk e;simp only[World.frozen?,this]⟩
def uP(W0:World)(r d n k HZ:Nat)(D:Dv)(S:Nat->Prop)(b:List UInt8)(j b o:Nat):Prop:=(j=15/\b=d)
def jT(W0:World)(r d n k HZ:Nat)(D:Dv)(S:Nat->Prop)(b:List UInt8)(i:Nat)(VS:Nat->Value)(LO HI:Nat->Nat)(v:Value)(lo hi:Nat)(w:World):Prop:=
 match i with
 | 0=>v=.pointer (some ⟨r,0,none⟩)
 | 1=>v=.pointer (some ⟨r,0,none⟩)
 | 2=>v=.pointer (some ⟨r,0,none⟩)
 | 3=>v=.pointer (some ⟨d,0,none⟩)
 | 4=>v=.pointer (some ⟨r,0,none⟩)
 | 5=>v=.pointer (some ⟨r,0,none⟩)
 | 6=>v=.pointer (some ⟨r,1,none⟩)
 | 7=>v=.int .i64 2
 | 8=>v=.int .i64 ((k:Nat):Int)
 | 9=>v=.pointer (some ⟨r,0,none⟩)
 | 10=>v=.pointer (some ⟨r,0,none⟩)
 | 11=>v=.pointer (some ⟨r,2,none⟩)
 | 12=>v=.int .i64 ((n:Nat):Int)
 | 13=>v=.int .i64 ((k % n:Nat):Int)
 | 14=>v=.int .i64 ((2+k % n:Nat):Int)
 | 15=>∃g,v=.tuple #[.slice (some ⟨g,0,none⟩) 128 128,.int .i64 0]/\Buf w g b/\HZ<=g/\DV W0 d (D.reads 1) S w
 | 16=>v=VS 15
 | 17=>∃g,VS 15=.tuple #[.slice (some ⟨g,0,none⟩) 128 128,.int .i64 0]/\v=.slice (some ⟨g,0,none⟩) 128 128
 | 18=>v=.int .i64 0
 | 19=>v=VS 17
 | 20=>v=.int .i64 0
 | _=>True
abbrev Wq:List (List Nat):=[[],[0],[0,1],[0,1,2],[],[4],[4,5],[4,5,6],[],[],[9],[9,10],[9,10,11],[8,9,10,11,12],[4,5,6,7,8,9,10,11,12,13],[0,1,2,3,4,5,6,7,8,9,10,11,12,13,14],[0,1,2,3,4,5,6,7,8,9,10,11,12,13,14,15],[0,1,2,3,4,5,6,7,8,9,10,11,12,13,14,15,16],[0,1,2,3,4,5,6,7,8,9,10,11,12,13,14,15,16],[0,1,2,3,4,5,6,7,8,9,10,11,12,13,14,15,16,17],[0,1,2,3,4,5,6,7,8,9,10,11,12,13,14,15,16,17,18,19]]
theorem Po(W0:World)(r d n k HZ:Nat)(D:Dv)(S:Nat->Prop)(b:List UInt8)  : ∀i j,i<21->j<21->j≠i->j∉Wq.getD i []->(i,j)∉([]:List (Nat×Nat))->∀VS LO HI v lo hi w w',jT W0 r d n k HZ D S b i VS LO HI v lo hi w->aB (uP W0 r d n k HZ D S b j) w w'->jT W0 r d n k HZ D S b i VS LO HI v lo hi w':=by
 intro i j hi hj hne hbs hx VS LO HI v lo hj2 w w' h hg
 match i,hi with
 | 0,_|1,_|2,_|3,_|4,_|5,_|6,_|7,_|8,_|9,_|10,_|11,_|12,_|13,_|14,_|16,_|17,_|18,_|19,_|20,_=>
  simp only[jT]at h⊢;exact h
 | 15,_=>
  simp only[jT]at h⊢;obtain⟨g,h1,h2,h3,h4⟩:=h;have hgx:aj (fun _=>False) w w':=aj.aK hg (fun k o h=>by simp only[uP]at h;omega);exact⟨g,h1,h2.aH hgx (fun h=>h),h3,h4.grow hgx (fun _ _ h=>h) (h4.bel.trans (hgx.below (fun k hk=>⟨Nat.lt_of_lt_of_le hk h4.bel.size,fun h=>h⟩)))⟩
 | (q+21),hq=>exact absurd hq (by omega)
theorem Ws(W0:World)(r d n k HZ:Nat)(D:Dv)(S:Nat->Prop)(b:List UInt8):∀i,i<21->∀VS dZ LO eu HI eF v lz hz w,(∀j∈Wq.getD i [],VS j=dZ j/\LO j=eu j/\HI j=eF j)->jT W0 r d n k HZ D S b i VS LO HI v lz hz w->jT W0 r d n k HZ D S b i dZ eu eF v lz hz w:=by
 intro i hi VS dZ LO eu HI eF v lz hz w he h
 match i,hi with
 | 0,_|1,_|2,_|3,_|4,_|5,_|6,_|7,_|8,_|9,_|10,_|11,_|12,_|13,_|14,_|15,_|18,_|20,_=>
  simp only[jT]at h⊢;exact h
 | 16,_|17,_=>
  simp only[jT]at h⊢;obtain⟨Pv,Px,Py⟩:=he 15 (by decide);simp only[<-Pv,<-Px,<-Py];exact h
 | 19,_=>
  simp only[jT]at h⊢;obtain⟨aa9,abb,abd⟩:=he 17 (by decide);simp only[<-aa9,<-abb,<-abd];exact h
 | (q+21),hq=>exact absurd hq (by omega)
def adv(g k HZ:Nat)(tk nk:List UInt8)(nb:Bool)(j b o:Nat):Prop:=False
def nO(g k HZ:Nat)(tk nk:List UInt8)(nb:Bool)(i:Nat)(v:Value)(lo hi:Nat)(w:World):Prop:=
 match i with
 | 0=>v=.slice (some ⟨g,0,none⟩) 128 128
 | 1=>v=.slice (bY (some ⟨g,0,none⟩) 0 128 1) 8 128
 | 2=>v=.string ⟨tk.toArray⟩
 | 3=>v=.int .i64 ((k:Nat):Int)
 | 4=>v=.int .i64 ((k+1:Nat):Int)
 | 5=>∃g2,v=.slice (some ⟨g2,0,none⟩) 8 8/\Buf w g2 nk
 | 6=>v=.string ⟨nk.toArray⟩
 | 7=>v=.bool nb
 | _=>True
theorem Pz(g k HZ:Nat)(tk nk:List UInt8)(nb:Bool)  : ∀i j,i<8->j<8->j≠i->j∉([[],[0],[0,1],[],[3],[3,4],[3,4,5],[0,1,2,3,4,5,6]]:List (List Nat)).getD i []->∀v lo hi w w',nO g k HZ tk nk nb i v lo hi w->aB (adv g k HZ tk nk nb j) w w'->nO g k HZ tk nk nb i v lo hi w':=by
 intro i j hi hj hne hbs v lo hj2 w w' h hg
 match i,hi with
 | 0,_|1,_|2,_|3,_|4,_|6,_|7,_=>
  simp only[nO]at h⊢;exact h
 | 5,_=>
  simp only[nO]at h⊢;obtain⟨g2,h1,h2⟩:=h;exact⟨g2,h1,h2.aH (aj.aK hg (Y:=fun _=>False) (fun k o h=>h)) (fun h=>h)⟩
 | (q+8),hq=>exact absurd hq (by omega)
theorem DV.box{W0 w:World}{d:Nat}{D:Dv}{S:Nat->Prop}(h:DV W0 d D S w):∃vs,Box w d vs:=by
 obtain⟨vl,vc,_,_,_,h1,_⟩:=h;exact⟨_,h1.box⟩
theorem DV.free{W0 w:World}{d:Nat}{D:Dv}{S:Nat->Prop}(h:DV W0 d D S w)(o:Nat):w.frozen? ⟨d,o,none⟩=false:=by obtain⟨_,h1⟩:=h.box;exact h1.free o
theorem PD{W0 w:World}{r d:Nat}{D:Dv}{S:Nat->Prop}{vs:List Value}(hb:Box w r vs)(h:DV W0 d D S w)(Dt:¬S r):r≠d:=by
 rintro rfl;obtain⟨_,_,_,_,_,_,_,_,rfl⟩:=h;exact Dt (.inl rfl)
section
variable{W0 w:World}{r d n:Nat}{D:Dv}{S:Nat->Prop}
theorem Du(v3 v4 v5 v6 v7:Value)(hb:Box w r [.pointer (some ⟨d,0,none⟩),.int .i64 2,.int .i64 (n:Nat),v3,v4,v5,v6,v7])(h:DV W0 d D S w)(Dt:¬S r)(hg:D.good)(hn:2<=n)(hn2:n<=8192)(hl:2+n<=D.l.length)(k:Nat)(hk:k<=1099511627776)
  (b:List UInt8) (hbs:D.sec (2+k % n)=b) (hne:b.take 8≠aJ (k+1)):
  Calls Tryz.prog 111 #[.pointer (some ⟨r,0,none⟩),.int .i64 (k:Nat)] w fun e w'=>∃v,e=.returned (.tuple #[v,.int .i64 (0:Nat),.int .i64 0])/\Reads 1 w' v 118 ((List.replicate 118 0).map B)/\(∀q,v.ownBlock=some q->w.heap.size<=q)/\DV W0 d (D.reads 1) S w'/\aj (fun k=>k=d) w w':=by
 have FH:2+k % n<D.l.length:=by have:=Nat.mod_lt k (show 0<n by omega);omega
 have hbl:b.length=128:=by rw[<-hbs];exact Dv.je hg.ok FH
 have hrd:=PD hb h Dt;have HD:=hid h;have HG:=hid hg;have vM:=hid hbs;have dP:=hid hbl;have HIQ:=hid FH;have br:=hb;have hlt:=hb.lt;have hstr:=Wn hne;have rZ:Hid ((b.take 8==aJ (k+1))=false):=hid (by simpa using hne);clear hne;clear h hg hbs hbl FH hl hb;go_enter Tryz.func111,Tryz.ntmps111;go_wp2_with fail;refine jC 0 rfl ?_;go_upto_region 1 with (fail);have hB:Below 0 w w:=Below.refl _ _;refine eP (uP W0 r d n k (w.heap.size) D S b) 21 Wq [some 9,some 10,some 11,some 12,some 13,some 14,some 15,some 16,some 17,some 18,some 19,some 20,some 21,some 22,some 23,some 24,some 8,some 25,some 26,some 7,some 6] [[],[0],[1],[2],[],[4],[5],[6],[],[],[9],[10],[11],[8,12],[7,13],[3,14],[15],[15,16],[15,16],[17],[18]] [0,1,2,3,4,5,6,7,8,9,10,11,12,13,14,15,16,17,18,19,20] [] (by decide) (by kernel_rfl) (by kernel_rfl) rfl (jT W0 r d n k (w.heap.size) D S b) (Ws W0 r d n k (w.heap.size) D S b) (Po W0 r d n k (w.heap.size) D S b) ?alm ?_
 case alm=>
  intro i hi o ho vs lo eX w' hg hp hdd;have hsz:=hg.size;replace hp:=fun j hj=>(hp j hj).2.2.2
  match i,hi with
  | 0,_|4,_|8,_|9,_|1,_|2,_|3,_|5,_|6,_|7,_|10,_|11,_|12,_|16,_|19,_|20,_=>
   cases ho;simp only[aA,jT]at hp
   first|simp only[ak,Act.put,aA,hp]|simp only[ak,Act.put,aA]
   try have e0:=(hg.cell (r) 0 br.lt (by rintro⟨j,_,hne,hb,hw⟩;simp only[uP]at hw;omega)).trans (br.cell 0 _ rfl)
   try have e1:=(hg.cell (r) 1 br.lt (by rintro⟨j,_,hne,hb,hw⟩;simp only[uP]at hw;omega)).trans (br.cell 1 _ rfl)
   try have e2:=(hg.cell (r) 2 br.lt (by rintro⟨j,_,hne,hb,hw⟩;simp only[uP]at hw;omega)).trans (br.cell 2 _ rfl)
   go_wp2;exact⟨_,rfl,aB.refl _,rfl⟩
  | 13,_=>
   cases ho;simp only[ak,Act.put,aA];have h8:=hp 8 (by simp);have h12:=hp 12 (by simp);simp only[jT]at h8 h12;rw[h8,h12];have hn0:¬(n:Int)=0:=by omega
   have hn1:decide ((n:Int)=0)=false:=by simpa using hn0
   go_wp2;refine⟨_,rfl,aB.refl _,?_⟩;simp only[jT];congr 1
  | 14,_=>
   cases ho;simp only[ak,Act.put,aA];have h7:=hp 7 (by simp);have h13:=hp 13 (by simp);simp only[jT]at h7 h13;rw[h7,h13];go_wp2;refine⟨_,rfl,aB.refl _,?_⟩;simp only[jT];congr 1;have hn9:k % n<n:=Nat.mod_lt _ (by omega);have vK:(k:Int) % (n:Int)=((k % n:Nat):Int):=rfl;rw[vK,wrap64];omega
  | 15,_=>
   cases ho;simp only[ak,Act.put,aA];have h3:=hp 3 (by simp);have dH:=hp 14 (by simp);simp only[jT]at h3 dH;rw[h3,dH];have hgw:aj (fun _=>False) w w':=aj.aK hg (fun k o ⟨j,_,hne,_,hw⟩=>by simp only[uP]at hw;omega);have hbw:Below w.heap.size w w':=hgw.below (fun k hk=>⟨hk,fun h=>h⟩);have hcall:=ug (HD.out.below hbw) HG.out.dead (2+k % n) HIQ.out;rw[vM.out]at hcall;have cO:=hid hcall;clear hcall;go_wp2_with fail;refine cO.out.mono ?_;rintro e y ⟨g,rfl,hdv,hbuf,hg5,hgr⟩;go_wp2;exact⟨_,rfl,adu hgr (fun o=>(hdv.free o).trans ((HD.out.below hbw).free o).symm) (fun o=>⟨rfl,rfl⟩),g,rfl,hbuf,by have:=hbw.size;omega,hdv⟩
  | 17,_=>
   cases ho;simp only[ak,Act.put,aA];have h15:=hp 15 (by simp);have h16:=hp 16 (by simp);simp only[jT]at h15 h16;obtain⟨g,e15,_⟩:=h15;rw[h16,e15];go_wp2;exact⟨_,rfl,aB.refl _,g,e15,rfl⟩
  | 18,_=>
   cases ho;simp only[ak,Act.put,aA];have h15:=hp 15 (by simp);have h16:=hp 16 (by simp);simp only[jT]at h15 h16;obtain⟨g,e15,_⟩:=h15;rw[h16,e15];go_wp2;exact⟨_,rfl,aB.refl _,rfl⟩
  | (q+21),hq=>exact absurd hq (by omega)
 intro vS lo hi w5 hg hp hd;have hP:=fun j hj=>(hp j hj).2.2.2;have h0:=hP 0 (by decide) (by decide);have h1:=hP 1 (by decide) (by decide);have h2:=hP 2 (by decide) (by decide);have h3:=hP 3 (by decide) (by decide);have h4:=hP 4 (by decide) (by decide);have h5:=hP 5 (by decide) (by decide);have h6:=hP 6 (by decide) (by decide);have h7:=hP 7 (by decide) (by decide);have h8:=hP 8 (by decide) (by decide);have h9:=hP 9 (by decide) (by decide);have h10:=hP 10 (by decide) (by decide);have h11:=hP 11 (by decide) (by decide);have h12:=hP 12 (by decide) (by decide);have h13:=hP 13 (by decide) (by decide);have dH:=hP 14 (by decide) (by decide);have h15:=hP 15 (by decide) (by decide);have h16:=hP 16 (by decide) (by decide);have h17:=hP 17 (by decide) (by decide);have h18:=hP 18 (by decide) (by decide);have h19:=hP 19 (by decide) (by decide);have h20:=hP 20 (by decide) (by decide);clear hP;simp only[jT]at h0 h1 h2 h3 h4 h5 h6 h7 h8 h9 h10 h11 h12 h13 dH h15 h16 h17 h18 h19 h20;clear hp hd;have hsz:=hg.size;replace br:=br.grow hg (by intro i _;rintro⟨j,_,hw⟩;simp only[uP]at hw;omega);replace hB:=hB.trans (hg.below (fun k hk=>⟨by omega,fun o=>by rintro⟨j,_,hw⟩;simp only[uP]at hw;omega⟩));have hr:List.range 21=[0,1,2,3,4,5,6,7,8,9,10,11,12,13,14,15,16,17,18,19,20]:=rfl;rw[hr];clear hr;simp only[List.drop_succ_cons,List.drop_zero,List.drop_nil,ak,Act.put,aA,h0,h1,h2,h3,h4,h5,h6,h7,h8,h9,h10,h11,h12,h13,dH,h18,h20];clear h0 h1 h2 h3 h4 h5 h6 h7 h8 h9 h10 h11 h12 h13 dH h18 h20;obtain⟨g,e15,hbuf,hg0,hdv⟩:=h15;have e17:vS 17=.slice (some ⟨g,0,none⟩) 128 128:=by
  obtain⟨g',e1,e2⟩:=h17;rw[e15]at e1;injection e1 with e1;injection e1 with e1;injection e1 with e1;injection e1 with e1;injection e1 with e1;injection e1 with e1;rw[e2,e1]
 rw[h19,h16,e17,e15];have lF:=hid hdv;have PE:=hid hbuf;have vP:Hid (aj (fun k=>k=d) w w5):=hid (aj.aK hg (fun k o ⟨j,_,hw⟩=>by simp only[uP]at hw;exact hw.2));obtain⟨y,PG⟩:∃y,y=w5:=⟨_,rfl⟩
 subst PG;have jD:Hid (Reads 1 y (.slice (some ⟨g,0,none⟩) 128 128) 128 (b.map B)):=hid (Reads.aY (hbuf.own (base:=0) dP.out (Nat.zero_le _) (by decide)));have hyl:=vP.out.size;have hcut:=jD.out.bY 0 8 (by omega) (by omega);have hcx:((b.map B).drop (0*1)).take ((8-0)*1)=(b.take 8).map B:=by rw[List.map_take];rfl
 rw[hcx]at hcut;have mO:Hid (Reads 1 y (.slice (bY (some ⟨g,0,none⟩) 0 128 1) 8 128) 8 ((b.take 8).map B)):=hid hcut;clear hdv hbuf hcut hcx h16 h17 h19 e15 e17 hB hg hsz br;go_upto_region 4 with (fail);have hB:Below y.heap.size y y:=Below.refl _ _;refine aQ (adv g k (y.heap.size) (b.take 8) (aJ (k+1)) true) 8 [[],[0],[0,1],[],[3],[3,4],[3,4,5],[0,1,2,3,4,5,6]] [some 30,some 31,some 32,some 33,some 34,some 35,some 36,some 37] (by kernel_rfl) (by kernel_rfl) rfl (nO g k (y.heap.size) (b.take 8) (aJ (k+1)) true) (Pz g k (y.heap.size) (b.take 8) (aJ (k+1)) true) ?aln ?_
 case aln=>
  intro i hi o ho vs lo eX w' hg hp;have hsz:=hg.size;have hgB:Below y.heap.size y w':=hg.below (fun k hk=>⟨hk,fun o=>by rintro⟨j,_,_,_,hw⟩;exact False.elim hw⟩);replace hp:=fun j hj=>(hp j hj).2.2.2
  match i,hi with
  | 0,_|3,_=>
   cases ho;simp only[ak,Act.put,aA];go_wp2;exact⟨_,rfl,aB.refl _,rfl⟩
  | 1,_=>
   cases ho;simp only[ak,Act.put,aA];have h0:=hp 0 (by simp);simp only[nO]at h0;rw[h0];refine nD bytesOf (.tmp 30) (.const (.int .i64 8)) rfl rfl rfl (h:=8) rfl (by omega) ?_;go_wp2;exact⟨_,rfl,aB.refl _,rfl⟩
  | 2,_=>
   cases ho;simp only[ak,Act.put,aA];have h1:=hp 1 (by simp);simp only[nO]at h1;rw[h1];have hrd:=mO.out.below hgB (Nat.le_refl _);have hcv:=dJ Tryz.underlying48 Tryz.underlying5 Tryz.underlying9 _ hrd;go_wp2;exact⟨_,rfl,aB.refl _,rfl⟩
  | 4,_=>
   cases ho;simp only[ak,Act.put,aA];have h3:=hp 3 (by simp);simp only[nO]at h3;rw[h3];go_wp2;refine⟨_,rfl,aB.refl _,?_⟩;simp only[nO]
   first|omega|(congr 1<;>omega)|skip
  | 5,_=>
   cases ho;simp only[ak,Act.put,aA];have h4:=hp 4 (by simp);simp only[nO]at h4;rw[h4];go_wp2_with fail;refine(GK w' (k+1) (by omega)).mono ?_;rintro e wh ⟨g2,rfl,hbuf,hg2,hbl⟩;go_wp2;exact⟨_,rfl,aB.bK ⟨hbl.os,hbl.tape,hbl.output,hbl.size,hbl.block⟩,g2,rfl,hbuf⟩
  | 6,_=>
   cases ho;simp only[ak,Act.put,aA];have h5:=hp 5 (by simp);simp only[nO]at h5;obtain⟨g2,e5,b5⟩:=h5;rw[e5];have hrd:=Reads.aY (b5.own (base:=0) (dL _) (Nat.zero_le _) (by decide));have hcv:=dJ Tryz.underlying48 Tryz.underlying5 Tryz.underlying9 _ hrd;go_wp2;exact⟨_,rfl,aB.refl _,rfl⟩
  | 7,_=>
   cases ho;simp only[ak,Act.put,aA];have h2:=hp 2 (by simp);have h6:=hp 6 (by simp);simp only[nO]at h2 h6;rw[h2,h6];go_wp2;refine⟨_,rfl,aB.refl _,?_⟩;simp only[nO];rw[rZ.out];rfl
  | (q+8),hq=>exact absurd hq (by omega)
 intro vS lo hi w7 hg hp hd;have hP:=fun j hj=>(hp j hj).2.2.2;have h0:=hP 0 (by decide);have h1:=hP 1 (by decide);have h2:=hP 2 (by decide);have h3:=hP 3 (by decide);have h4:=hP 4 (by decide);have h5:=hP 5 (by decide);have h6:=hP 6 (by decide);have h7:=hP 7 (by decide);clear hP;simp only[nO]at h0 h1 h2 h3 h4 h5 h6 h7;clear hp hd;have hsz:=hg.size;replace hB:=hB.trans (hg.below (fun k hk=>⟨by omega,fun o=>by rintro⟨j,_,hw⟩;exact False.elim hw⟩));have hr:List.range 8=[0,1,2,3,4,5,6,7]:=rfl;rw[hr];clear hr;simp only[List.drop_succ_cons,List.drop_zero,List.drop_nil,ak,Act.put,aA,h0,h1,h2,h3,h4,h6,h7];clear h0 h1 h2 h3 h4 h6 h7;have jo:=hid hB;have hs7:=hB.size;clear hB hg hsz;have hmk:=afm;go_wp2_with fail;go_step3;refine⟨rfl,?_⟩;go_wp2_with fail;simp only[Exit.jump];refine bodyPost_ret (v:=.tuple #[.slice (some ⟨w7.heap.size,0,none⟩) 118 118,.int .i64 0,.int .i64 0]) (by simp[results,Tryz.results111,go_sem]) rfl ?_;have abe:=lF.out.below jo.out;have abf:aj (fun k=>k=d) w w7:=vP.out.trans (aC jo.out);have hal:Below w7.heap.size w7 (w7.alloc (.cells JM 5)):=(Below.refl _ _).alloc (Nat.le_refl _) _;exact⟨_,rfl,Reads.aY ((Buf.afn w7).own (base:=0) (by simp) (Nat.zero_le _) (by decide)),fun q e=>by have e2:w7.heap.size=q:=(by simpa[Value.ownBlock]using e);omega,abe.below hal,abf.trans (aC hal)⟩
end
end
section
open Go.RowKit
theorem afo:dB.take 8≠aJ (0+1):=by decide
def Y4(r d n cv G:Nat)(av:Option Addr)(j b o:Nat):Prop:=False
def su(r d n cv G:Nat)(av:Option Addr)(i:Nat)(v:Value)(lo hi:Nat)(w:World):Prop:=
 match i with
 | 0=>v=.pointer (some ⟨r,0,none⟩)
 | 1=>v=.pointer (some ⟨r,0,none⟩)
 | 2=>v=.pointer (some ⟨r,0,none⟩)
 | 3=>v=.pointer (some ⟨r,4,none⟩)
 | 4=>v=.slice none 0 0
 | 5=>v=.slice av 118 cv
 | 6=>v=.int .i64 0
 | 7=>v=.slice (bY av 0 cv 1) 0 cv
 | 8=>∃ao cp,v=.slice ao 0 cp/\w.ownsRow G 5 1 (.slice ao 0 cp) 0 []
 | 9=>v=.pointer (some ⟨r,0,none⟩)
 | 10=>v=.pointer (some ⟨r,4,none⟩)
 | _=>True
theorem MW(r d n cv G:Nat)(av:Option Addr)  : ∀i j,i<11->j<11->j≠i->j∉([[],[],[1],[1,2],[1,2,3],[],[],[5,6],[1,2,3,4,5,6,7],[0,1,2,3,4,5,6,7,8],[0,1,2,3,4,5,6,7,8,9]]:List (List Nat)).getD i []->∀v lo hi w w',su r d n cv G av i v lo hi w->aB (Y4 r d n cv G av j) w w'->su r d n cv G av i v lo hi w':=by
 intro i j hi hj hne hbs v lo hj2 w w' h hg
 match i,hi with
 | 0,_|1,_|2,_|3,_|4,_|5,_|6,_|7,_|9,_|10,_=>
  simp only[su]at h⊢;exact h
 | 8,_=>
  simp only[su]at h⊢;obtain⟨ao,cp,h1,h2⟩:=h;exact⟨ao,cp,h1,aI h2 (aj.aK hg (Y:=fun _=>False) (fun k o h=>h)) (fun _ _ h=>h)⟩
 | (q+11),hq=>exact absurd hq (by omega)
section
variable{W0 w:World}{r d n:Nat}{D:Dv}{S:Nat->Prop}
theorem EI(h:DV W0 d D S w):Calls Tryz.prog 77 #[.pointer (some ⟨d,0,none⟩)] w fun e w'=>e=.returned (.int .i64 (D.l.length:Nat))/\w'=w:=by
 obtain⟨vl,vc,EL,EC,K,h1,_⟩:=h;exact size_at h1
theorem Ld(h:DV W0 d D S w)(hg:D.good)(hn:2<=n)(hn2:n<=8192)(hl:2+n<=D.l.length)(hz:D.sec 2=dB):
  Calls Tryz.prog 79 #[.pointer (some ⟨d,0,none⟩),.int .i64 2,.int .i64 (n:Nat),.int .i64 0] w fun e w'=>∃r S',e=.returned (.tuple #[.pointer (some ⟨r,0,none⟩),.int .i64 0])/\dY W0 r d n ⟨D.reads 1,⟨0,[],0,0⟩⟩ S' w'/\aG S S' w w':=by
 have hsz:=EI h;obtain⟨L,hL⟩:∃L,D.l.length=L:=⟨_,rfl⟩
 rw[hL]at hl hsz;have hLb:L<=8192:=by rw[<-hL];exact hg.ok.n
 have b1:decide ((n:Int)<2)=false:=by simp;omega
 have b2:decide ((n:Int)>8192)=false:=by simp;omega
 have b3:decide ((2:Int)>(L:Int))=false:=by simp;omega
 have b4:decide ((n:Int)>(L:Int)-2)=false:=by simp;omega
 have b5:decide ((8192:Int)<(n:Int))=false:=by simp;omega
 have b6:decide ((L:Int)<2)=false:=by simp;omega
 have b7:decide ((L:Int)-2<(n:Int))=false:=by simp;omega
 have HS:=hid hsz;have HD:=hid h;have HG:=hid hg;have HL:=hid hL;have HZ:=hid hz;clear hsz h hg hL hz;go_enter Tryz.func79,Tryz.ntmps79;go_wp2_with fail;refine HS.out.mono ?_;rintro e y ⟨rfl,rfl⟩;go_wp2_with fail;refine HS.out.mono ?_;rintro e y ⟨rfl,rfl⟩;go_wp2_with fail
 --CUT
 have hal:Below y.heap.size y (y.alloc (.cells #[.pointer (some ⟨d,0,none⟩),.int .i64 2,.int .i64 (n:Nat),.int .i64 0,.slice none 0 0,.int .i64 0,.int .i64 0,.bool false] 152)):=(Below.refl _ _).alloc (Nat.le_refl _) _;have hbx:=Box.new y #[.pointer (some ⟨d,0,none⟩),.int .i64 2,.int .i64 (n:Nat),.int .i64 0,.slice none 0 0,.int .i64 0,.int .i64 0,.bool false] 152 rfl;have hd1:=HD.out.below hal;obtain⟨r,hr⟩:∃r,y.heap.size=r:=⟨_,rfl⟩
 have Dt:¬S r:=fun hs=>by have:=(HD.out.lt r hs).2;omega
 have HR:=hid hr;rw[hr]at hbx;rw[hr];have ji:=hid hal;have iC:=hid hbx;have HD1:=hid hd1;have nP:=hid Dt;clear hal hbx hd1 Dt hr;generalize y.alloc (.cells #[.pointer (some ⟨d,0,none⟩),.int .i64 2,.int .i64 (n:Nat),.int .i64 0,.slice none 0 0,.int .i64 0,.int .i64 0,.bool false] 152)=w1 at *;refine wp_loop_rounds 1 ?_;rw[rounds_succ];have hn0:decide ((0:Int)<(n:Int))=true:=by simp;omega
 have hmod:0 % n=0:=Nat.zero_mod n;have hcall:=Du _ _ _ _ _ iC.out HD1.out nP.out HG.out hn hn2 (by rw[HL.out];exact hl) 0 (by decide) dB (by rw[hmod];exact HZ.out) afo;have cO:=hid hcall;clear hcall hmod;go_wp2_with fail;refine cO.out.mono ?_;rintro e y2 ⟨v,rfl,hrd,Ad,hdv,hgr⟩;obtain⟨av,cv,oh⟩:=hrd.shape;subst oh;have HRV:Hid (Reads 1 y2 (.slice av 118 cv) 118 ((List.replicate 118 (0:UInt8)).map B)):=hid hrd;have lF:=hid hdv;have vP:=hid hgr;have PI:r≠d:=PD iC.out HD1.out nP.out;have HB2:=hid (iC.out.aH hgr PI);have hw1:y.heap.size<=w1.heap.size:=ji.out.size;have hw2:w1.heap.size<=y2.heap.size:=hgr.size;clear hrd Ad hdv hgr;go_upto_region 15 with (fail);have br:=HB2.out;have hB:Below y2.heap.size y2 y2:=Below.refl _ _;refine aQ (Y4 r d n cv (y2.heap.size) av) 11 [[],[],[1],[1,2],[1,2,3],[],[],[5,6],[1,2,3,4,5,6,7],[0,1,2,3,4,5,6,7,8],[0,1,2,3,4,5,6,7,8,9]] [some 87,some 88,some 89,some 90,some 91,some 92,some 93,some 94,some 95,some 96,some 97,none] (by kernel_rfl) (by kernel_rfl) rfl (su r d n cv (y2.heap.size) av) (MW r d n cv (y2.heap.size) av) ?ag0 ?_
 case ag0=>
  intro i hi o ho vs lo eX w' hg hp;have hsz:=hg.size;have hgB:Below y2.heap.size y2 w':=hg.below (fun k hk=>⟨hk,fun o=>by rintro⟨j,_,_,_,hw⟩;exact False.elim hw⟩);replace hp:=fun j hj=>(hp j hj).2.2.2
  match i,hi with
  | 0,_|1,_|5,_|6,_|2,_|3,_|4,_|9,_|10,_=>
   cases ho;simp only[aA,su]at hp
   first|simp only[ak,Act.put,aA,hp]|simp only[ak,Act.put,aA]
   try have e0:=(hg.cell (r) 4 br.lt (by rintro⟨j,_,hne,hb,hw⟩;exact False.elim hw)).trans (br.cell 4 _ rfl)
   go_wp2;exact⟨_,rfl,aB.refl _,rfl⟩
  | 7,_=>
   cases ho;simp only[ak,Act.put,aA];have h5:=hp 5 (by simp);have h6:=hp 6 (by simp);simp only[su]at h5 h6;rw[h5,h6];refine nD bytesOf (.tmp 92) (.tmp 93) rfl rfl rfl (h:=0) rfl (by omega) ?_;go_wp2;exact⟨_,rfl,aB.refl _,rfl⟩
  | 8,_=>
   cases ho;simp only[ak,Act.put,aA];have h4:=hp 4 (by simp);have h7:=hp 7 (by simp);simp only[su]at h4 h7;rw[h4,h7];have hcut:=(HRV.out.below hgB (Nat.le_refl _)).bY 0 0 (Nat.le_refl _) (by omega);have alo:Reads 1 w' (.slice (bY av 0 cv 1) 0 cv) 0 (([]:List UInt8).map B):=hcut;go_wp2_with (at_builtin;refine bI bytesOf (.tmp 91) (.tmp 94) rfl rfl (base:=y2.heap.size) rfl (World.ownsRow_nil _ _ _ _) rfl alo (eU _) (by omega) (by omega) (by have:=hgB.size;omega) ?_;intro ob cq wq ho2 hg2 hn2);exact⟨_,rfl,aB.bK ⟨hg2.os,hg2.tape,hg2.output,hg2.size,fun k hk=>hg2.block k hk (fun e=>by cases e)⟩,ob,cq,rfl,ho2⟩
  | (q+11),hq=>exact absurd hq (by omega)
 intro vS lo hi w6 hg hp hd;have hP:=fun j hj=>(hp j hj).2.2.2;have h0:=hP 0 (by decide);have h1:=hP 1 (by decide);have h2:=hP 2 (by decide);have h3:=hP 3 (by decide);have h4:=hP 4 (by decide);have h5:=hP 5 (by decide);have h6:=hP 6 (by decide);have h7:=hP 7 (by decide);have h8:=hP 8 (by decide);have h9:=hP 9 (by decide);have h10:=hP 10 (by decide);clear hP;simp only[su]at h0 h1 h2 h3 h4 h5 h6 h7 h8 h9 h10;clear hp hd;have hsz:=hg.size;replace br:=br.grow hg (by intro i _;rintro⟨j,_,hw⟩;exact False.elim hw);replace hB:=hB.trans (hg.below (fun k hk=>⟨by omega,fun o=>by rintro⟨j,_,hw⟩;exact False.elim hw⟩));have hr:List.range 11=[0,1,2,3,4,5,6,7,8,9,10]:=rfl;rw[hr];clear hr;simp only[List.drop_succ_cons,List.drop_zero,List.drop_nil,ak,Act.put,aA,h0,h1,h2,h3,h4,h5,h6,h7,h9,h10];clear h0 h1 h2 h3 h4 h5 h6 h7 h9 h10;obtain⟨ao,cp,e8,o8⟩:=h8;rw[e8];have O8:=hid o8;have BR:=hid br;have Ai:=hid hB;have hw6:=hB.size;have d4:=br.cell 4 _ rfl;have KY:=br.free;have mg:=br.lt;have k3:=aF w6 r 4 (.slice ao 0 cp);have hrb:r<w1.heap.size:=iC.out.lt;obtain⟨HW0,aus⟩:∃x,y.heap.size=x:=⟨_,rfl⟩
 clear br e8 o8 hB hg hsz k3;go_wp2_with fail;have k3:=aF w6 r 4 (.slice ao 0 cp);have hWy:W0.heap.size<=y.heap.size:=HD.out.bel.size;have UJ:y.heap.size=r:=HR.out;have hro:∀q,(Value.slice ao 0 cp).ownBlock=some q->q≠r:=fun q e e2=>by have:=(O8.out.lt q e).1;omega
 have hat:kF (w6.setCell ⟨r,4,none⟩ (.slice ao 0 cp)) W0.heap.size r d n (.slice ao 0 cp) ⟨0,[],0,0⟩:=⟨BR.out.setCell 4 _,aI (own_base O8.out (by omega)) k3 hro,hro,by omega⟩
 have htl:=kZ hat (by decide);rw[show(⟨0,[],0,0⟩:Rg).tail=0 from rfl]at htl;refine htl.mono ?_;rintro e z ⟨rfl,hq⟩;have oC:=hat.grow (X:=fun _=>False) hq.grow (fun h=>h) (fun _ _ h=>h);have HAT:=hid oC;have HQ:=hid hq;have c6:=oC.box.cell 6 _ rfl;have cfz:=oC.box.free;have bU:=oC.box.lt;have K3:=hid k3;have Dw:=hid hro;clear hat oC hq d4 KY mg k3 hro UJ htl;go_wp2_with fail;go_ret2;have k6:=aF z r 6 (.int .i64 ((0:Nat):Int));have UJ:y.heap.size=r:=HR.out;have hd:S d:=by obtain⟨_,_,_,_,_,_,_,_,rfl⟩:=HD.out;exact .inl rfl
 have g1:aj (fun k=>k=r) w6 (z.setCell ⟨r,6,none⟩ (.int .i64 ((0:Nat):Int))):=(K3.out.trans HQ.out.grow).trans k6;have hb6:Below W0.heap.size W0 w6:=lF.out.bel.trans (Ai.out.mono (by have:=lF.out.bel.size;omega));have hbz:Below W0.heap.size W0 (z.setCell ⟨r,6,none⟩ (.int .i64 ((0:Nat):Int))):=hb6.trans (g1.below (fun k hk=>⟨Nat.lt_of_lt_of_le hk hb6.size,fun e=>by omega⟩));have hdz:=(lF.out.below Ai.out).grow g1 (fun k hk e=>nP.out (e▸hk)) hbz;have hok0:Rg.ok n ⟨0,[],0,0⟩:=⟨hn,hn2,by decide,by decide,by decide,by decide,by show 0<=_;omega⟩
 refine⟨r,_,rfl,⟨.slice ao 0 cp,S,⟨HAT.out.box.setCell 6 _,aI HAT.out.row k6 (fun q e=>Dw.out q e),Dw.out,by omega⟩,hdz,HG.out.reads 1,hok0,by rw[(D.kH 1).1,HL.out];exact hl,nP.out,fun q e hs=>by have:=(O8.out.lt q e).1;have:=(HD.out.lt q hs).2;omega,rfl⟩,?_,?_⟩
 ·exact((((aC ji.out:aj S y w1).trans (vP.out.mono (fun k e=>e▸hd))).trans (aC Ai.out))).step g1 (fun q h1 e=>by omega)
 ·rintro k (hk|rfl|hk)
  ·exact .inl hk
  ·exact .inr (by omega)
  ·exact .inr (by have:=(O8.out.lt k hk).1;omega)
end
end
section
open Go.RowKit
def OpsC(n fr:Nat):qc (Io×List Value) where
 step s l:=(0,(((Io.ops n fr).step s.1 l).2,s.2))
 wr s p b:=((Io.ops n fr).wr s.1 p b,s.2)
 rd s:=((Io.ops n fr).rd s.1,s.2)
 fJ s p:=(Io.ops n fr).fJ s.1 p
theorem Rg.uQ{n:Nat}{R:Rg}{D:Dv}(h:D.good)(hn:2<=n)(hD:2+n<=D.l.length):(R.jm n D).good/\(R.jm n D).l.length=D.l.length/\(R.jm n D).c=[]:=by
 unfold Rg.jm;simp only[];generalize R.fin / 118=a;generalize (R.tail-1) / 118=b;obtain⟨h1,h2,h3⟩:=Rg.ou (R:=R) h hn hD (a+1) (b-a);have hm:∀k,2+k % n<D.l.length:=fun k=>by have:=Nat.mod_lt k (show 0<n by omega);omega
 obtain⟨f1,f2,f3⟩:=h1.write (2+(b+1) % n) dB (by rw[h2];exact hm _) (by simp[dB]);obtain⟨g1,g2,g3,g4⟩:=f1.sync;obtain⟨i1,i2,i3⟩:=g1.write (2+a % n) (R.sec a) (by rw[g2,f2,h2];exact hm _) (R.je a);obtain⟨j1,j2,j3,j4⟩:=i1.sync;exact⟨j1,by rw[j2,i2,g2,f2,h2],j3⟩
theorem UK{n:Nat}{s:Io}(h:s.D.good)(hc:s.D.c=[])(hn:2<=n)(hD:2+n<=s.D.l.length):(s.R.flush n s.D).2.c=[]:=by
 unfold Rg.flush;split
 ·exact hc
 ·exact(Rg.uQ h hn hD).2.2
theorem UL{n:Nat}{s:Io}(h:s.D.good)(hn:2<=n)(hD:2+n<=s.D.l.length):(s.R.flush n s.D).2.l.length=s.D.l.length:=by
 unfold Rg.flush;split
 ·rfl
 ·exact(Rg.uQ h hn hD).2.1
structure Wu(W0 w:World)(r d f sb cv n fr pg:Nat)(s:Io×List Value)(S1:Nat->Prop):Prop where
 rg:dY W0 r d n s.1 S1 w
 c0:s.1.D.c=[]
 fb:iG w f d fr pg false
 bC:Box w sb s.2
 log:s.2[1]? = some (.pointer (some ⟨r,0,none⟩))
 IB:Box w cv [.pointer (some ⟨sb,0,none⟩)]
 nf:¬S1 f
 ns:¬S1 sb
 nc:¬S1 cv
 fs:f≠sb
 fc:f≠cv
 sc:sb≠cv
 gf:W0.heap.size<=f
 gs:W0.heap.size<=sb
 gc:W0.heap.size<=cv
 fit:fr+5+4*pg<=s.1.D.l.length
def jO(W0:World)(r d f sb cv n fr pg:Nat)(s:Io×List Value)(S:Nat->Prop)(w:World):Prop:=
 ∃S1,Wu W0 w r d f sb cv n fr pg s S1/\S=fun k=>S1 k\/k=f\/k=sb\/k=cv
section
variable{W0 w w':World}{r d f sb cv n fr pg:Nat}{s:Io×List Value}{S S1:Nat->Prop}
theorem jO.bel(h:jO W0 r d f sb cv n fr pg s S w):Below W0.heap.size W0 w:=by obtain⟨S1,h1,_⟩:=h;exact h1.rg.bel
theorem jO.lt(h:jO W0 r d f sb cv n fr pg s S w):∀k,S k->W0.heap.size<=k/\k<w.heap.size:=by
 obtain⟨S1,h1,rfl⟩:=h;rintro k (hk|rfl|rfl|rfl)
 ·exact h1.rg.lt k hk
 ·exact⟨h1.gf,h1.fb.lt⟩
 ·exact⟨h1.gs,h1.bC.lt⟩
 ·exact⟨h1.gc,h1.IB.lt⟩
theorem jO.grow{X:Nat->Prop}(h:jO W0 r d f sb cv n fr pg s S w)(hg:aj X w w')(hX:dA S X)(hB:Below W0.heap.size W0 w'):jO W0 r d f sb cv n fr pg s S w':=by
 obtain⟨S1,h1,rfl⟩:=h;exact⟨S1,⟨h1.rg.grow hg (fun k hk hx=>hX k (.inl hk) hx) hB,h1.c0,h1.fb.aH hg (fun hx=>hX f (.inr (.inl rfl)) hx),h1.bC.aH hg (fun hx=>hX sb (.inr (.inr (.inl rfl))) hx),h1.log,
  h1.IB.aH hg (fun hx=>hX cv (.inr (.inr (.inr rfl))) hx),h1.nf,h1.ns,h1.nc,h1.fs,h1.fc,h1.sc,h1.gf,h1.gs,h1.gc,h1.fit⟩,rfl⟩
theorem jO.below(h:jO W0 r d f sb cv n fr pg s S w)(hb:Below w.heap.size w w'):jO W0 r d f sb cv n fr pg s S w':=
 h.grow (X:=fun _=>False) (aC hb) (fun _ _ h=>h) (h.bel.trans (hb.mono h.bel.size))
theorem Wu.put{s':Io}{aT:Nat->Prop}(h:Wu W0 w r d f sb cv n fr pg s S1)(hr:dY W0 r d n s' aT w')(hc:s'.D.c=[])(hl:fr+5+4*pg<=s'.D.l.length)(hf:aG S1 aT w w'):
  jO W0 r d f sb cv n fr pg (s',s.2) (fun k=>aT k\/k=f\/k=sb\/k=cv) w'/\aG (fun k=>S1 k\/k=f\/k=sb\/k=cv) (fun k=>aT k\/k=f\/k=sb\/k=cv) w w':=by
 have no:∀b,¬S1 b->b<w.heap.size->¬aT b:=fun b h1 h2 h3=>(hf.new b h3).elim h1 (fun h=>by omega);refine⟨⟨aT,⟨hr,hc,h.fb.aH hf.grow h.nf,h.bC.aH hf.grow h.ns,h.log,h.IB.aH hf.grow h.nc,no _ h.nf h.fb.lt,no _ h.ns h.bC.lt,no _ h.nc h.IB.lt,h.fs,h.fc,h.sc,h.gf,h.gs,h.gc,hl⟩,rfl⟩,hf.grow.mono (fun k hk=>.inl hk),?_⟩;rintro k (hk|hk)
 ·exact(hf.new k hk).imp .inl id
 ·exact .inl (.inr hk)
theorem ag1(h:jO W0 r d f sb cv n fr pg s S w)(l:Int):
  Calls Tryz.prog 82 #[.int .i64 l,.pointer (some ⟨cv,0,none⟩)] w fun e w'=>∃S',e=.returned (.int .i64 0)/\jO W0 r d f sb cv n fr pg ((OpsC n fr).step s l).2 S' w'/\aG S S' w w':=by
 obtain⟨S1,h1,rfl⟩:=h;have c0:=h1.IB.cell 0 _ rfl;have bU:=h1.IB.lt;have d1:=h1.bC.cell 1 _ h1.log;have mg:=h1.bC.lt;obtain⟨vb,hat⟩:=h1.rg.at;have hend:=JK hat;obtain⟨fi,hfi⟩:∃x,s.1.R.fin=x:=⟨_,rfl⟩
 rw[hfi]at hend;have HE:=hid hend;have H1:=hid h1;by_cases hl:(fi:Int)<l
 ·have hb1:decide (l>(fi:Int))=true:=by simpa using hl
  have hb2:decide ((fi:Int)<l)=true:=by simpa using hl
  have HST:Hid (((OpsC n fr).step s l).2=({ D:=(s.1.R.flush n s.1.D).2,R:=(s.1.R.flush n s.1.D).1 },s.2)):=hid (by show(((Io.ops n fr).step s.1 l).2,s.2)=_;unfold Io.ops;simp only[hfi];rw[if_pos hl]);have hcall:=Iz h1.rg h1.c0;have cO:=hid hcall;clear hend hat h1 hcall hl hfi;go_enter Tryz.func82,Tryz.ntmps82;go_wp2_with fail;refine HE.out.mono ?_;rintro e y ⟨rfl,rfl⟩;go_wp2_with fail;refine cO.out.mono ?_;rintro e z ⟨S',rfl,hv,hf⟩;have HV:=hid hv;have HF:=hid hf;clear hv hf c0 bU d1 mg;go_wp2_with fail;go_ret;rw[HST.out];obtain⟨z1,z2⟩:=H1.out.put HV.out (UK H1.out.rg.good H1.out.c0 H1.out.rg.ok.n2 H1.out.rg.fits) (by rw[UL H1.out.rg.good H1.out.rg.ok.n2 H1.out.rg.fits];exact H1.out.fit) HF.out;exact⟨_,rfl,z1,z2⟩
 ·have hb1:decide (l>(fi:Int))=false:=by simpa using hl
  have hb2:decide ((fi:Int)<l)=false:=by simpa using hl
  have HST:Hid (((OpsC n fr).step s l).2=s):=hid (by show(((Io.ops n fr).step s.1 l).2,s.2)=_;unfold Io.ops;simp only[hfi];rw[if_neg hl]);clear hend hat h1 hl hfi;go_enter Tryz.func82,Tryz.ntmps82;go_wp2_with fail;refine HE.out.mono ?_;rintro e y ⟨rfl,rfl⟩;clear c0 bU d1 mg;go_wp2_with fail;go_ret;rw[HST.out];exact⟨_,rfl,⟨S1,H1.out,rfl⟩,aG.below (aj.refl _)⟩
end
end
section
open Go.RowKit
section
variable{W0 w w':World}{r d f sb cv n fr pg:Nat}{s:Io×List Value}{S S1:Nat->Prop}
theorem jO.small(h:jO W0 r d f sb cv n fr pg s S w):fr+5+4*pg<=8192:=by
 obtain⟨S1,h1,_⟩:=h;have:=h1.rg.good.ok.n;have:=h1.fit;omega
theorem alp(h:jO W0 r d f sb cv n fr pg s S w)(p:Nat)(hp:p<pg):
  Calls Tryz.prog 105 #[.pointer (some ⟨f,0,none⟩),.int .i64 (p:Nat)] w fun e w'=>∃v:Value,e=.returned (.tuple #[v,.int .i64 0])/\w'.ownsRow w.heap.size 5 1 v 512 (((OpsC n fr).fJ s p).map B)/\jO W0 r d f sb cv n fr pg ((OpsC n fr).rd s) S w'/\aj S w w':=by
 have hsm:=h.small;obtain⟨S1,h1,rfl⟩:=h;have hrg:=h1.rg;have hgd:=h1.rg.good;obtain⟨vb,S0,i1,i2,i3,i4,i5,i6,i7,rfl⟩:=hrg;have c2:=h1.fb.cell 2 _ rfl;have hlt:=h1.fb.lt;have hfS:¬S0 f:=fun hs=>h1.nf (.inl hs);have hq:fr+5+4*p+4<=s.1.D.l.length:=by have:=h1.fit;omega
 have hhome:=Uy h1.fb (by omega) p (by omega);have hgat:=Y3 h1.fb hfS i2 i3.dead (fr+5+4*p) hq;have HH:=hid hhome;have HG:=hid hgat;have H1:=hid h1;have I1:=hid i1;have I2:=hid i2;have I3:=hid i3;have I4:=hid i4;have I5:=hid i5;have I6:=hid i6;have I7:=hid i7;have hb1:decide ((p:Int)<0)=false:=by simp
 have hb2:decide ((p:Int)>=(pg:Int))=false:=by simp;omega
 have hb3:decide ((pg:Int)<=(p:Int))=false:=by simp;omega
 have hb4:decide (pg<=p)=false:=by simp;omega
 clear h1 i1 i2 i3 i4 i5 i6 i7 hhome hgat hgd hq hfS;go_enter Tryz.func105,Tryz.ntmps105;go_wp2_with fail;refine HH.out.mono ?_;rintro e wh ⟨rfl,rfl⟩;go_wp2_with fail;refine HG.out.mono ?_;rintro e w2 ⟨v,rfl,ho,hdv,hg⟩;have HO:=hid ho;have HV:=hid hdv;have vP:=hid hg;clear ho hdv hg;go_wp2_with fail;go_ret2;have hd:S0 d:=I2.out.self;have hft:aG S0 S0 wh w2:=aG.same vP.out (fun k e=>e▸hd);obtain⟨f1,f2,f3,f4,f5⟩:=s.1.D.kH 4;obtain⟨g1,g2⟩:=dY.dev (s:=s.1) I1.out I2.out I4.out I6.out I7.out HV.out (I3.out.reads 4) (by rw[f1];exact I5.out) hft;obtain⟨z1,z2⟩:=H1.out.put g1 (by show(s.1.D.reads 4).c=[];rw[f2];exact H1.out.c0) (by show _<=(s.1.D.reads 4).l.length;rw[f1];exact H1.out.fit) g2;exact⟨v,rfl,HO.out,z1,z2.grow⟩
theorem ag2(h:jO W0 r d f sb cv n fr pg s S w)(p:Int)(hp:p<0\/(pg:Int)<=p):
  Calls Tryz.prog 105 #[.pointer (some ⟨f,0,none⟩),.int .i64 p] w fun e w'=>e=.returned (.tuple #[.slice none 0 0,.int .i64 1])/\w'=w:=by
 obtain⟨S1,h1,rfl⟩:=h;have c2:=h1.fb.cell 2 _ rfl;have hlt:=h1.fb.lt;clear h1;by_cases hn:p<0
 ·have hb1:decide (p<0)=true:=by simpa using hn
  go_enter Tryz.func105,Tryz.ntmps105;go_wp2_with fail;go_ret2;exact⟨rfl,rfl⟩
 ·have hb1:decide (p<0)=false:=by simpa using hn
  have hb2:decide (p>=(pg:Int))=true:=by simp;omega
  have hb3:decide ((pg:Int)<=p)=true:=by simp;omega
  clear hp;go_enter Tryz.func105,Tryz.ntmps105;go_wp2_with fail;go_ret2;exact⟨rfl,rfl⟩
theorem ag3(h:jO W0 r d f sb cv n fr pg s S w)(p:Nat)(b:List UInt8)(v:Value)(hp:p<pg)(hb:b.length=512)(hv:Reads 1 w v 512 (b.map B))(hsl:∀k,v.ownBlock=some k->¬S k):
  Calls Tryz.prog 135 #[.pointer (some ⟨f,0,none⟩),.int .i64 (p:Nat),v] w fun e w'=>∃S',e=.returned (.int .i64 0)/\jO W0 r d f sb cv n fr pg ((OpsC n fr).wr s p b) S' w'/\aG S S' w w':=by
 have hsm:=h.small;obtain⟨S1,h1,rfl⟩:=h;have hrg:=h1.rg;obtain⟨vb,S0,i1,i2,i3,i4,i5,i6,i7,rfl⟩:=hrg;have c2:=h1.fb.cell 2 _ rfl;have c3:=h1.fb.cell 3 _ rfl;have hlt:=h1.fb.lt;have hfS:¬S0 f:=fun hs=>h1.nf (.inl hs);have hcall:=YJ h1.fb hfS i2 i3.dead p hp h1.fit (by rw[h1.c0];decide) b hb v hv (fun k e hs=>hsl k e (.inl (.inl hs)));obtain⟨g1,g2,g3,g4,g5⟩:=i3.dQ fr p b hb (by have:=h1.fit;omega);rw[g1]at hcall;obtain⟨av,cvv,rfl,_⟩:=hv;have HC:=hid hcall;have H1:=hid h1;have I1:=hid i1;have I2:=hid i2;have I4:=hid i4;have I5:=hid i5;have I6:=hid i6;have I7:=hid i7;have CY:=hid hfS;have G2:=hid g2;have G3:=hid g3;have G4:=hid g4;have hb1:decide ((p:Int)<0)=false:=by simp
 have hb2:decide ((p:Int)>=(pg:Int))=false:=by simp;omega
 have hb3:decide ((pg:Int)<=(p:Int))=false:=by simp;omega
 have hb4:decide (pg<=p)=false:=by simp;omega
 clear h1 i1 i2 i3 i4 i5 i6 i7 g1 g2 g3 g4 g5 hcall hsl hfS;go_enter Tryz.func135,Tryz.ntmps135;go_wp2_with fail;refine HC.out.mono ?_;rintro e w2 ⟨S2,rfl,hdv,hft⟩;have HV:=hid hdv;have HF:=hid hft;have hbx:iG w2 f d fr pg false:=H1.out.fb.aH hft.grow CY.out;have iC:=hid hbx;have cx3:=hbx.cell 3 _ rfl;have cxf:=hbx.free;have hlx:=hbx.lt;clear hdv hft hbx;simp only[jS];go_wp2_with fail;go_ret;obtain⟨q1,q2⟩:=dY.dev (s:=s.1) I1.out I2.out I4.out I6.out I7.out HV.out G2.out (by rw[G3.out];exact I5.out) HF.out;obtain⟨z1,z2⟩:=H1.out.put q1 G4.out (by show _<=(Dv.dQ _ _ _ _).2.l.length;rw[G3.out];exact H1.out.fit) q2;obtain⟨k1,k2⟩:=Box.set1 iC.out 3 (.bool false);have k3:aj (fun k=>k=f) w2 (w2.setCell ⟨f,3,none⟩ (.bool false)):=aj.aK k2 (fun k o h=>h.1);obtain⟨S5,m1,hS5⟩:=z1;have hself:∀k,k=f->S5 k\/k=f\/k=sb\/k=cv:=fun k e=>.inr (.inl e);have hbz:=m1.rg.bel.trans (k3.below (fun k hk=>⟨Nat.lt_of_lt_of_le hk m1.rg.bel.size,fun e=>by have:=m1.gf;omega⟩));have m2:Wu W0 (w2.setCell ⟨f,3,none⟩ (.bool false)) r d f sb cv n fr pg ((OpsC n fr).wr s p b) S5:=
  ⟨m1.rg.grow k3 (fun k hk e=>m1.nf (e▸hk)) hbz,m1.c0,k1,m1.bC.aH k3 m1.fs.symm,m1.log,m1.IB.aH k3 m1.fc.symm,m1.nf,m1.ns,m1.nc,m1.fs,m1.fc,m1.sc,m1.gf,m1.gs,m1.gc,m1.fit⟩
 refine⟨_,rfl,⟨S5,m2,rfl⟩,?_⟩;rw[<-hS5];exact z2.trans (aG.same k3 (fun k e=>.inr (.inl e)))
theorem adw(hpg:pg<=8192):nI W0 f pg 82 #[.pointer (some ⟨cv,0,none⟩)] (jO W0 r d f sb cv n fr pg) (OpsC n fr) where
 enter:=enters_of Tryz.func82 (by kernel_rfl) rfl
 ans s S w l h:=ag1 h l
 rd s S w q h hq:=alp h q hq
 wrt s S w q b v h hq hb hv hs:=ag3 h q b v hq hb hv hs
 bad s S w m h hm:=ag2 h m hm
 pages s S w h:=by obtain⟨S1,h1,_⟩:=h;exact aaT h1.fb
 len s S w h q hq:=by
  obtain⟨S1,h1,_⟩:=h;show(dO s.1.D (fr+5+4*q) 4).length=512;rw[zh h1.rg.good.ok (by have:=h1.fit;omega)]
 small:=hpg
 grow s S X w w' h hg hX hB:=h.grow hg hX hB
 lt s S w h:=h.lt
 bel s S w h:=h.bel
end
end
section
open Go.RowKit
def lG(base:Nat)(b _o:Nat):Prop:=base<=b
theorem lG.below{base:Nat}{w w':World}(h:aB (lG base) w w')(hb:base<=w.heap.size):Below base w w':=
 ⟨h.os,h.tape,h.output,h.size,fun k hk=>h.block k (by omega) (fun o hx=>by have:base<=k:=hx;omega)⟩
theorem lG.alloc{base:Nat}(w:World)(o:Obj):aB (lG base) w (w.alloc o):=by
 have hbl:=(Below.refl w.heap.size w).alloc (Nat.le_refl _) o;exact aB.bK ⟨hbl.os,hbl.tape,hbl.output,hbl.size,hbl.block⟩
theorem lG.app{base:Nat}{w w':World}{v:Value}(hg:aB (fun b _=>v.ownBlock=some b) w w')(hv:∀q,v.ownBlock=some q->base<=q):aB (lG base) w w':=hg.mono (fun b o e=>hv b e)
theorem IC{P:Program}{t e:TypeId}{z:Value}{size bytes:Nat}(T:SliceOf P t e z size bytes)(w:World)(ty:TypeId)(base:Nat)(v:Value)(n:Nat)(xs:List Value)(hown:w.ownsRow base e size v n xs)
  (y:Value) (m:Nat) (news:List Value) (hr:Reads size w y m news) (h1:∀u∈news,u.oneCell'=true) (h63:n+m<=1152921504606846976) (hbytes:(n+m)*bytes<=140737488355328) (hbase:base<=w.heap.size):
  ∃v' w',(Builtin.append_ #[t,t] ty #[v,y]).run P w=.ok v' w'/\w'.ownsRow base e size v' (n+m) (xs++news)/\aB (fun b _=>v.ownBlock=some b) w w'/\(∀q,v'.ownBlock=some q->v.ownBlock=some q\/w.heap.size<=q):=by
 obtain⟨i,hi,hz0,hz1,hz2⟩:=info_parts T.info;obtain⟨ao,c,rfl,hl,hmc,hcells⟩:=hr;rcases Nat.eq_zero_or_pos m with hm|hm
 ·subst hm;have hnews:news=[]:=List.eq_nil_of_length_eq_zero (by simpa using hl);subst hnews;refine⟨v,w,?_,by simpa using hown,aB.refl _,fun q h=>.inl h⟩;rcases hown.2 with ⟨rfl,_⟩|⟨g,cap,cur,rfl,_,_,hnc,hcm,_,_⟩
  ·exact kJ t ty e i T.und hi none ao 0 0 c (Nat.le_refl _) (fun _=>⟨rfl,rfl⟩)
  ·exact kJ t ty e i T.und hi (some ⟨g,0,none⟩) ao n cap c hnc (fun h=>by cases h)
 ·obtain⟨b,off,rfl,hlt,hc⟩:=hcells hm;obtain⟨g,cap,w',hrun,h2,h3,h4⟩:=xI (P:=P) w base t ty e i z size bytes T.und hi hz0 hz1 hz2 T.cells T.pos v n xs hown ⟨b,off,none⟩ m c news hl (fun j u hu=>by rw[Addr.add_lit];exact hc j u hu) h1 (by unfold maxLen;omega) hbytes hbase (by omega);refine⟨_,w',hrun,h2,h3.mono (fun k o h=>h.1),fun q hq=>?_⟩;have e2:g=q:=by simpa[Value.ownBlock]using hq
  subst e2;exact h4
theorem dU{P:Program}{w:World}{ops:Array Oper}{rest:List Oper}{o:Oper}{a:Act}{Q:Exit->Act->World->Prop}
  {t e:TypeId} {z:Value} {size bytes:Nat} (T:SliceOf P t e z size bytes) (s x:Operand) (hgd:o.guard=none)
  (ho:o.op=.call { callee:=.builtin .append,args:=#[s,x],argTypes:=#[t,t] })
  {base:Nat} {v:Value} {n:Nat} {xs:List Value} (hs:a.eval s=v) (hown:w.ownsRow base e size v n xs)
  {y:Value} {m:Nat} {news:List Value} (hx:a.eval x=y) (hr:Reads size w y m news) (h1:∀u∈news,u.oneCell'=true)
  (h63:n+m<=1152921504606846976) (hbytes:(n+m)*bytes<=140737488355328) (hbase:base<=w.heap.size)
  (h:∀ao cap w',w'.ownsRow base e size (.slice ao (n+m) cap) (n+m) (xs++news)->aB (fun b _=>v.ownBlock=some b) w w'->(∀q,(Value.slice ao (n+m) cap).ownBlock=some q->v.ownBlock=some q\/w.heap.size<=q)->
   wpList P ops Q rest (a.put o.dst (.slice ao (n+m) cap)) w'):wpList P ops Q (o::rest) a w:=by
 obtain⟨v',w',hrun,h2,h3,h4⟩:=IC T w o.type base v n xs hown y m news hr h1 h63 hbytes hbase;obtain⟨ao,cap,rfl⟩:=bF h2;refine wpList_plain hgd fun K hK=>?_;unfold Oper.wp;simp[execOp,ho,resolve,invoke,builtin,hs,hx,hrun,Result.andThen];exact hK _ _ (h ao cap w' h2 h3 h4)
end
section
open Go.RowKit
theorem abg(n k:Nat)(hk:k<8):(aJ n).take (k+1)=(aJ n).take k++[hbyte n k]:=by
 rw[List.take_succ_eq_append_getElem (by rw[dL];exact hk)];simp[aJ]
theorem abh(n k:Nat):(([hbyte n k]).map B)=[.int .u8 ((n:Int) / 2 ^ (56-8*k) % 256)]:=by
 rw[List.map_cons,List.map_nil,EG]
section
variable{w:World}{base:Nat}
theorem iW(v:Value)(m:Nat)(l:List UInt8)(hown:w.ownsRow base 5 1 v m (l.map B))(hb:base<=w.heap.size)(hm:m<=1099511627776)(n:Nat)(hn:n<=4611686018427387904):
  Calls Tryz.prog 129 #[v,.int .i64 (n:Nat)] w fun e w'=>∃ao c,e=.returned (.slice ao (m+8) c)/\w'.ownsRow base 5 1 (.slice ao (m+8) c) (m+8) ((l++aJ n).map B)/\aB (lG base) w w':=by
 obtain⟨ao,c,e⟩:=bF hown;subst e;have HO:=hid hown;have hmx:(if (0:Int)>(n:Int)then(0:Int)else(n:Int))=(n:Int):=by split<;>omega
 have aut:(if (n:Int)<0 then(0:Int)else(n:Int))=(n:Int):=by split<;>omega
 clear hown;go_enter Tryz.func129,Tryz.ntmps129;go_wp2_with fail;go_loopw [0,8] (fun s z wr=>∃(k c2:Nat)(pV:Option Addr),k<=8/\z=.int .i64 k/\s=.slice pV (m+k) c2/\wr.ownsRow base 5 1 (.slice pV (m+k) c2) (m+k) ((l++(aJ n).take k).map B)/\aB (lG base) w wr) (fun _ z _=>8-(intOf z).toNat)
 case atStart=>exact⟨0,c,ao,Nat.zero_le _,rfl,rfl,by rw[List.take_zero,List.append_nil];exact HO.out,aB.refl _⟩
 case round=>
  obtain⟨k,c2,pV,hk,rfl,rfl,hown,hbw⟩:=hrel;have HOW:=hid hown;have HB:=hid hbw;have hsz:=hbw.size;clear hown hbw;by_cases hk8:k<8
  case neg=>
   obtain rfl:k=8:=by omega
   go_wp2_with fail;go_ret;refine⟨pV,c2,rfl,?_,HB.out⟩;have:=HOW.out;rw[List.take_of_length_le (by rw[dL];decide)]at this;exact this
  have hkb:decide ((k:Int)<8)=true:=by simp;omega
  have hkb2:decide (k<8)=true:=by simpa using hk8
  go_wp2_with (at_builtin;refine dU bytesOf (.tmp 11) (.tmp 18) rfl rfl (base:=base) rfl (HOW.out.alloc _) rfl (Reads.lit (l:=([hbyte n k]).map B) (by rw[abh]) rfl (Nat.le_refl _) rfl) (eU _) (by omega) (by omega) (by simp;omega) ?_;intro ob cq wq ho2 hg2 hn2;have rP:Hid (wq.ownsRow base 5 1 (.slice ob (m+k+1) cq) (m+k+1) ((l++(aJ n).take k).map B++([hbyte n k]).map B)):=hid ho2;have HB2:Hid (aB (lG base) w wq):=hid ((HB.out.trans (lG.alloc _ _)).trans (lG.app hg2 (fun q e=>(HOW.out.lt q e).1)));clear ho2 hg2 hn2);go_roundw
  ·refine⟨k+1,cq,ob,by omega,by go_num,rfl,?_,HB2.out⟩;rw[abg n k hk8,<-List.append_assoc,List.map_append];exact rP.out
  ·simp[intOf];omega
theorem FI(v:Value)(m:Nat)(l:List UInt8)(hown:w.ownsRow base 5 1 v m (l.map B))(hb:base<=w.heap.size)(hm:m<=1099511627776)(ao:Option Addr)(k c:Nat)(x:List UInt8)(hx:∀w',aB (lG base) w w'->Reads 1 w' (.slice ao k c) k (x.map B))(hk:k<=1099511627776):
  Calls Tryz.prog 130 #[v,.slice ao k c] w fun e w'=>∃pV c2,e=.returned (.slice pV (m+8+k) c2)/\w'.ownsRow base 5 1 (.slice pV (m+8+k) c2) (m+8+k) ((l++(aJ k++x)).map B)/\aB (lG base) w w':=by
 have HX:=hid hx;have hcall:=iW v m l hown hb hm k (by omega);have HC:=hid hcall;clear hcall hx hown;go_enter Tryz.func130,Tryz.ntmps130;go_wp2_with fail;refine HC.out.mono ?_;rintro e y ⟨ao1,c1,rfl,ho,hbl⟩;have HO:=hid ho;have HB:=hid hbl;have hsz:=hbl.size;clear ho hbl;go_wp2_with (at_builtin;refine dU bytesOf (.tmp 8) (.tmp 9) rfl rfl (base:=base) rfl HO.out rfl (HX.out _ HB.out) (eU _) (by omega) (by omega) (by omega) ?_;intro ob cq wq ho2 hg2 hn2;have rP:Hid (wq.ownsRow base 5 1 (.slice ob (m+8+k) cq) (m+8+k) ((l++aJ k).map B++x.map B)):=hid ho2;have HB2:Hid (aB (lG base) w wq):=hid (HB.out.trans (lG.app hg2 (fun q e=>(HO.out.lt q e).1)));clear ho2 hg2 hn2);go_ret;refine⟨ob,cq,rfl,?_,HB2.out⟩;rw[<-List.append_assoc,List.map_append];exact rP.out
end
end
end Go.Proofs.YtpajagkhmodbnaaGreat

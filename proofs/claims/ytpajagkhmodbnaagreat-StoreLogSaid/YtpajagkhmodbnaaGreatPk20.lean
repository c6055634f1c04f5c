/- Pk: texts of the store seat laid together by program: RgSec RgOpen IoKit IoFile AppC RcNum. Conditions: each theorem names its own. -/
import Derived.Test.YtpajagkhmodbnaaGreatPk17
import Derived.Test.YtpajagkhmodbnaaGreatPk18
import Derived.Test.YtpajagkhmodbnaaGreatPk19
import Derived.Test.YtpajagkhmodbnaaGreatPk14
import Derived.Outline
namespace Go.Proofs.YtpajagkhmodbnaaGreat
set_option linter.unusedSimpArgs false
set_option linter.unusedVariables false
section
open Go.RowKit
theorem or_i64(a:Nat)(c:UInt8)(h:a<16777216):bits BinOp.or IntKind.i64 ((a:Int)*256) (c.toNat:Int)=((a*256+c.toNat:Nat):Int):=by
 have hc:=c.toNat_lt
 have e0:((a:Int)*256)=((a*256:Nat):Int):=by omega
 have e1:(BitVec.ofInt 64 ((a*256:Nat):Int) ||| BitVec.ofInt 64 (c.toNat:Int)).toNat=a*256+c.toNat:=by
  rw[BitVec.toNat_or,BitVec.ofInt_natCast,BitVec.ofInt_natCast,BitVec.toNat_ofNat,BitVec.toNat_ofNat,Nat.mod_eq_of_lt (by omega),Nat.mod_eq_of_lt (by omega)]
  have:=Nat.two_pow_add_eq_or_of_lt (i:=8) (b:=c.toNat) (by omega) a
  rw[show a*256=2 ^ 8*a by omega,this]
 rw[e0]
 show IntKind.i64.wrap ((BitVec.ofInt 64 ((a*256:Nat):Int) ||| BitVec.ofInt 64 (c.toNat:Int)).toNat:Int)=_
 rw[e1]
 simp[IntKind.wrap,IntKind.signed,IntKind.bits];omega
def Z118:Array Value:=((List.replicate 118 (0:UInt8)).map B).toArray
theorem make118(w:World):(Instr.makeSlice 48 (.int .i64 118) (.int .i64 118)).run Tryz.prog w=.ok (.slice (some ⟨w.heap.size,0,none⟩) 118 118) (w.alloc (.cells Z118 5)):=by
 obtain⟨i0,hi,hz0,hz1,hz2⟩:=info_parts (P:=Tryz.prog) (e:=5) (z:=.int .u8 0) (size:=1) (bytes:=1) (by kernel_rfl)
 have h:=run_make (P:=Tryz.prog) w 48 5 i0 (.int .u8 0) Tryz.underlying48 hi hz0 .i64 .i64 118 118 (by decide) (by decide) (by rw[hz2];decide) (by decide)
 rw[h,hz1]
 have e:madeCells (Value.int .u8 0).cells (Int.toNat 118*1)=Z118:=by
  apply Array.ext'
  have e1:=toList_madeCells_one (.int .u8 0) 118
  show(madeCells #[.int .u8 0] 118).toList=_
  rw[e1]
  unfold Z118
  simp only[List.map_replicate]
  rfl
 rw[e]
 rfl
theorem Buf.zero118(w:World):Buf (w.alloc (.cells Z118 5)) w.heap.size (List.replicate 118 0):=by
 unfold Buf World.alloc
 simp[Z118]
theorem hgr_c{d:Nat}{a b:World}{W:Nat→Nat→Prop}(h:GrowX (fun k=>k=d) a b)(hf:∀o,b.frozen? ⟨d,o,none⟩=a.frozen? ⟨d,o,none⟩)(hW:∀o,W d o):GrowC W a b:=
 ⟨h.os,h.tape,h.output,h.size,fun k hk hx=>h.block k hk (fun e=>hx 0 (e▸hW 0)),fun k o hk hx=>by
  have:=h.block k hk (fun e=>hx (e▸hW o))
  simp only[World.cell?,this],fun k o hk=>by
  by_cases e:k=d
  ·subst e;exact hf o
  ·have:=h.block k hk e
   simp only[World.frozen?,this]⟩
def WRSe1(W0:World)(r d n k HZ:Nat)(D:Dv)(S:Nat→Prop)(b:List UInt8)(j b o:Nat):Prop:=(j=15∧b=d)
def PRSe1(W0:World)(r d n k HZ:Nat)(D:Dv)(S:Nat→Prop)(b:List UInt8)(i:Nat)(VS:Nat→Value)(LO HI:Nat→Nat)(v:Value)(lo hi:Nat)(w:World):Prop:=
 match i with
 | 0=>v=.pointer (some ⟨r,0,none⟩)
 | 1=>v=.pointer (some ⟨r,0,none⟩)
 | 2=>v=.pointer (some ⟨r,0,none⟩)
 | 3=>v=.pointer (some ⟨d,0,none⟩)
 | 4=>v=.pointer (some ⟨r,0,none⟩)
 | 5=>v=.pointer (some ⟨r,0,none⟩)
 | 6=>v=.pointer (some ⟨r,1,none⟩)
 | 7=>v=.int .i64 2
 | 8=>v=.int .i64 ((k:Nat):Int)
 | 9=>v=.pointer (some ⟨r,0,none⟩)
 | 10=>v=.pointer (some ⟨r,0,none⟩)
 | 11=>v=.pointer (some ⟨r,2,none⟩)
 | 12=>v=.int .i64 ((n:Nat):Int)
 | 13=>v=.int .i64 ((k % n:Nat):Int)
 | 14=>v=.int .i64 ((2+k % n:Nat):Int)
 | 15=>∃g,v=.tuple #[.slice (some ⟨g,0,none⟩) 128 128,.int .i64 0]∧Buf w g b∧HZ≤g∧DV W0 d (D.reads 1) S w
 | 16=>v=VS 15
 | 17=>∃g,VS 15=.tuple #[.slice (some ⟨g,0,none⟩) 128 128,.int .i64 0]∧v=.slice (some ⟨g,0,none⟩) 128 128
 | 18=>v=.int .i64 0
 | 19=>v=VS 17
 | 20=>v=.int .i64 0
 | _=>True
abbrev bRSe1:List (List Nat):=[[],[0],[0,1],[0,1,2],[],[4],[4,5],[4,5,6],[],[],[9],[9,10],[9,10,11],[8,9,10,11,12],[4,5,6,7,8,9,10,11,12,13],[0,1,2,3,4,5,6,7,8,9,10,11,12,13,14],[0,1,2,3,4,5,6,7,8,9,10,11,12,13,14,15],[0,1,2,3,4,5,6,7,8,9,10,11,12,13,14,15,16],[0,1,2,3,4,5,6,7,8,9,10,11,12,13,14,15,16],[0,1,2,3,4,5,6,7,8,9,10,11,12,13,14,15,16,17],[0,1,2,3,4,5,6,7,8,9,10,11,12,13,14,15,16,17,18,19]]
theorem PRSe1_stable(W0:World)(r d n k HZ:Nat)(D:Dv)(S:Nat→Prop)(b:List UInt8)  : ∀i j,i<21→j<21→j≠i→j∉bRSe1.getD i []→(i,j)∉([]:List (Nat×Nat))→∀VS LO HI v lo hi w w',PRSe1 W0 r d n k HZ D S b i VS LO HI v lo hi w→GrowC (WRSe1 W0 r d n k HZ D S b j) w w'→PRSe1 W0 r d n k HZ D S b i VS LO HI v lo hi w':=by
 intro i j hi hj hne hbs hx VS LO HI v lo hj2 w w' h hg
 match i,hi with
 | 0,_|1,_|2,_|3,_|4,_|5,_|6,_|7,_|8,_|9,_|10,_|11,_|12,_|13,_|14,_|16,_|17,_|18,_|19,_|20,_=>
  simp only[PRSe1]at h⊢
  exact h
 | 15,_=>
  simp only[PRSe1]at h⊢
  obtain⟨g,h1,h2,h3,h4⟩:=h
  have hgx:GrowX (fun _=>False) w w':=GrowX.of_growC hg (fun k o h=>by simp only[WRSe1]at h;omega)
  exact⟨g,h1,h2.growx hgx (fun h=>h),h3,h4.grow hgx (fun _ _ h=>h) (h4.bel.trans (hgx.below (fun k hk=>⟨Nat.lt_of_lt_of_le hk h4.bel.size,fun h=>h⟩)))⟩
 | (q+21),hq=>exact absurd hq (by omega)
theorem PRSe1_cong(W0:World)(r d n k HZ:Nat)(D:Dv)(S:Nat→Prop)(b:List UInt8):∀i,i<21→∀VS VS' LO LO' HI HI' v lz hz w,(∀j∈bRSe1.getD i [],VS j=VS' j∧LO j=LO' j∧HI j=HI' j)→PRSe1 W0 r d n k HZ D S b i VS LO HI v lz hz w→PRSe1 W0 r d n k HZ D S b i VS' LO' HI' v lz hz w:=by
 intro i hi VS VS' LO LO' HI HI' v lz hz w he h
 match i,hi with
 | 0,_|1,_|2,_|3,_|4,_|5,_|6,_|7,_|8,_|9,_|10,_|11,_|12,_|13,_|14,_|15,_|18,_|20,_=>
  simp only[PRSe1]at h⊢
  exact h
 | 16,_|17,_=>
  simp only[PRSe1]at h⊢
  obtain⟨e15a,e15b,e15c⟩:=he 15 (by decide)
  simp only[←e15a,←e15b,←e15c]
  exact h
 | 19,_=>
  simp only[PRSe1]at h⊢
  obtain⟨e17a,e17b,e17c⟩:=he 17 (by decide)
  simp only[←e17a,←e17b,←e17c]
  exact h
 | (q+21),hq=>exact absurd hq (by omega)
def WRSe4(g k HZ:Nat)(tk nk:List UInt8)(nb:Bool)(j b o:Nat):Prop:=False
def PRSe4(g k HZ:Nat)(tk nk:List UInt8)(nb:Bool)(i:Nat)(v:Value)(lo hi:Nat)(w:World):Prop:=
 match i with
 | 0=>v=.slice (some ⟨g,0,none⟩) 128 128
 | 1=>v=.slice (cutA (some ⟨g,0,none⟩) 0 128 1) 8 128
 | 2=>v=.string ⟨tk.toArray⟩
 | 3=>v=.int .i64 ((k:Nat):Int)
 | 4=>v=.int .i64 ((k+1:Nat):Int)
 | 5=>∃g2,v=.slice (some ⟨g2,0,none⟩) 8 8∧Buf w g2 nk
 | 6=>v=.string ⟨nk.toArray⟩
 | 7=>v=.bool nb
 | _=>True
theorem PRSe4_stable(g k HZ:Nat)(tk nk:List UInt8)(nb:Bool)  : ∀i j,i<8→j<8→j≠i→j∉([[],[0],[0,1],[],[3],[3,4],[3,4,5],[0,1,2,3,4,5,6]]:List (List Nat)).getD i []→∀v lo hi w w',PRSe4 g k HZ tk nk nb i v lo hi w→GrowC (WRSe4 g k HZ tk nk nb j) w w'→PRSe4 g k HZ tk nk nb i v lo hi w':=by
 intro i j hi hj hne hbs v lo hj2 w w' h hg
 match i,hi with
 | 0,_|1,_|2,_|3,_|4,_|6,_|7,_=>
  simp only[PRSe4]at h⊢
  exact h
 | 5,_=>
  simp only[PRSe4]at h⊢
  obtain⟨g2,h1,h2⟩:=h
  exact⟨g2,h1,h2.growx (GrowX.of_growC hg (Y:=fun _=>False) (fun k o h=>h)) (fun h=>h)⟩
 | (q+8),hq=>exact absurd hq (by omega)
theorem DV.box{W0 w:World}{d:Nat}{D:Dv}{S:Nat→Prop}(h:DV W0 d D S w):∃vs,Box w d vs:=by
 obtain⟨vl,vc,_,_,_,h1,_⟩:=h
 exact⟨_,h1.box⟩
theorem DV.free{W0 w:World}{d:Nat}{D:Dv}{S:Nat→Prop}(h:DV W0 d D S w)(o:Nat):w.frozen? ⟨d,o,none⟩=false:=by obtain⟨_,h1⟩:=h.box;exact h1.free o
theorem r_ne{W0 w:World}{r d:Nat}{D:Dv}{S:Nat→Prop}{vs:List Value}(hb:Box w r vs)(h:DV W0 d D S w)(hrS:¬S r):r≠d:=by
 rintro rfl
 obtain⟨_,_,_,_,_,_,_,_,rfl⟩:=h
 exact hrS (.inl rfl)
section
variable{W0 w:World}{r d n:Nat}{D:Dv}{S:Nat→Prop}
set_option maxRecDepth 100000 in
set_option maxHeartbeats 3200000 in
theorem rsector_none(v3 v4 v5 v6 v7:Value)(hb:Box w r [.pointer (some ⟨d,0,none⟩),.int .i64 2,.int .i64 (n:Nat),v3,v4,v5,v6,v7])(h:DV W0 d D S w)(hrS:¬S r)(hg:D.good)(hn:2≤n)(hn2:n≤8192)(hl:2+n≤D.l.length)(k:Nat)(hk:k≤1099511627776)
  (b:List UInt8) (hbs:D.sec (2+k % n)=b) (hne:b.take 8≠be8 (k+1)):
  Calls Tryz.prog 111 #[.pointer (some ⟨r,0,none⟩),.int .i64 (k:Nat)] w fun e w'=>∃v,e=.returned (.tuple #[v,.int .i64 (0:Nat),.int .i64 0])∧Reads 1 w' v 118 ((List.replicate 118 0).map B)∧(∀q,v.ownBlock=some q→w.heap.size≤q)∧DV W0 d (D.reads 1) S w'∧GrowX (fun k=>k=d) w w':=by
 have hiq:2+k % n<D.l.length:=by have:=Nat.mod_lt k (show 0<n by omega);omega
 have hbl:b.length=128:=by rw[←hbs];exact Dv.sec_len hg.ok hiq
 have hrd:=r_ne hb h hrS
 have HD:=Lib.hid h
 have HG:=Lib.hid hg
 have HBS:=Lib.hid hbs
 have HBL:=Lib.hid hbl
 have HIQ:=Lib.hid hiq
 have br:=hb
 have hlt:=hb.lt
 have hstr:=str_napart hne
 have HST2:Hid ((b.take 8==be8 (k+1))=false):=Lib.hid (by simpa using hne)
 clear hne
 clear h hg hbs hbl hiq hl hb
 go_enter Tryz.func111,Tryz.ntmps111
 go_wp2_with fail
 refine wp_scope_fwd 0 rfl ?_
 go_upto_region 1 with (fail)
 have hB:Below 0 w w:=Below.refl _ _
 refine wp_region_partsDV (WRSe1 W0 r d n k (w.heap.size) D S b) 21 bRSe1 [some 9,some 10,some 11,some 12,some 13,some 14,some 15,some 16,some 17,some 18,some 19,some 20,some 21,some 22,some 23,some 24,some 8,some 25,some 26,some 7,some 6] [[],[0],[1],[2],[],[4],[5],[6],[],[],[9],[10],[11],[8,12],[7,13],[3,14],[15],[15,16],[15,16],[17],[18]] [0,1,2,3,4,5,6,7,8,9,10,11,12,13,14,15,16,17,18,19,20] [] (by decide) (by kernel_rfl) (by kernel_rfl) rfl (PRSe1 W0 r d n k (w.heap.size) D S b) (PRSe1_cong W0 r d n k (w.heap.size) D S b) (PRSe1_stable W0 r d n k (w.heap.size) D S b) ?pRSe1 ?_
 case pRSe1=>
  intro i hi o ho vs lo hx_ w' hg hp hdd
  match i,hi with
  | 0,_|4,_|8,_|9,_=>
   obtain rfl:=Option.some.inj ho
   clear ho
   simp only[actsD,Act.put,actL]
   have hsz:=hg.size
   go_wp2
   exact⟨_,rfl,GrowC.refl _,rfl⟩
  | 1,_=>
   obtain rfl:=Option.some.inj ho
   clear ho
   simp only[actsD,Act.put,actL]
   obtain⟨_,_,_,h0⟩:=hp 0 (by simp)
   simp only[PRSe1]at h0
   have hsz:=hg.size
   rw[h0]
   go_wp2
   exact⟨_,rfl,GrowC.refl _,rfl⟩
  | 2,_=>
   obtain rfl:=Option.some.inj ho
   clear ho
   simp only[actsD,Act.put,actL]
   obtain⟨_,_,_,h1⟩:=hp 1 (by simp)
   simp only[PRSe1]at h1
   have hsz:=hg.size
   rw[h1]
   go_wp2
   exact⟨_,rfl,GrowC.refl _,rfl⟩
  | 3,_=>
   obtain rfl:=Option.some.inj ho
   clear ho
   simp only[actsD,Act.put,actL]
   obtain⟨_,_,_,h2⟩:=hp 2 (by simp)
   simp only[PRSe1]at h2
   have hsz:=hg.size
   rw[h2]
   have e0:=(hg.cell (r) 0 br.lt (by rintro⟨j,_,hne,hb,hw⟩;simp only[WRSe1]at hw;omega)).trans (br.cell 0 _ rfl)
   go_wp2
   exact⟨_,rfl,GrowC.refl _,rfl⟩
  | 5,_=>
   obtain rfl:=Option.some.inj ho
   clear ho
   simp only[actsD,Act.put,actL]
   obtain⟨_,_,_,h4⟩:=hp 4 (by simp)
   simp only[PRSe1]at h4
   have hsz:=hg.size
   rw[h4]
   go_wp2
   exact⟨_,rfl,GrowC.refl _,rfl⟩
  | 6,_=>
   obtain rfl:=Option.some.inj ho
   clear ho
   simp only[actsD,Act.put,actL]
   obtain⟨_,_,_,h5⟩:=hp 5 (by simp)
   simp only[PRSe1]at h5
   have hsz:=hg.size
   rw[h5]
   go_wp2
   exact⟨_,rfl,GrowC.refl _,rfl⟩
  | 7,_=>
   obtain rfl:=Option.some.inj ho
   clear ho
   simp only[actsD,Act.put,actL]
   obtain⟨_,_,_,h6⟩:=hp 6 (by simp)
   simp only[PRSe1]at h6
   have hsz:=hg.size
   rw[h6]
   have e0:=(hg.cell (r) 1 br.lt (by rintro⟨j,_,hne,hb,hw⟩;simp only[WRSe1]at hw;omega)).trans (br.cell 1 _ rfl)
   go_wp2
   exact⟨_,rfl,GrowC.refl _,rfl⟩
  | 10,_=>
   obtain rfl:=Option.some.inj ho
   clear ho
   simp only[actsD,Act.put,actL]
   obtain⟨_,_,_,h9⟩:=hp 9 (by simp)
   simp only[PRSe1]at h9
   have hsz:=hg.size
   rw[h9]
   go_wp2
   exact⟨_,rfl,GrowC.refl _,rfl⟩
  | 11,_=>
   obtain rfl:=Option.some.inj ho
   clear ho
   simp only[actsD,Act.put,actL]
   obtain⟨_,_,_,h10⟩:=hp 10 (by simp)
   simp only[PRSe1]at h10
   have hsz:=hg.size
   rw[h10]
   go_wp2
   exact⟨_,rfl,GrowC.refl _,rfl⟩
  | 12,_=>
   obtain rfl:=Option.some.inj ho
   clear ho
   simp only[actsD,Act.put,actL]
   obtain⟨_,_,_,h11⟩:=hp 11 (by simp)
   simp only[PRSe1]at h11
   have hsz:=hg.size
   rw[h11]
   have e0:=(hg.cell (r) 2 br.lt (by rintro⟨j,_,hne,hb,hw⟩;simp only[WRSe1]at hw;omega)).trans (br.cell 2 _ rfl)
   go_wp2
   exact⟨_,rfl,GrowC.refl _,rfl⟩
  | 13,_=>
   obtain rfl:=Option.some.inj ho
   clear ho
   simp only[actsD,Act.put,actL]
   obtain⟨_,_,_,h8⟩:=hp 8 (by simp)
   simp only[PRSe1]at h8
   obtain⟨_,_,_,h12⟩:=hp 12 (by simp)
   simp only[PRSe1]at h12
   have hsz:=hg.size
   rw[h8,h12]
   have hn0:¬(n:Int)=0:=by omega
   have hn1:decide ((n:Int)=0)=false:=by simpa using hn0
   go_wp2
   refine⟨_,rfl,GrowC.refl _,?_⟩
   simp only[PRSe1]
   congr 1
  | 14,_=>
   obtain rfl:=Option.some.inj ho
   clear ho
   simp only[actsD,Act.put,actL]
   obtain⟨_,_,_,h7⟩:=hp 7 (by simp)
   simp only[PRSe1]at h7
   obtain⟨_,_,_,h13⟩:=hp 13 (by simp)
   simp only[PRSe1]at h13
   have hsz:=hg.size
   rw[h7,h13]
   go_wp2
   refine⟨_,rfl,GrowC.refl _,?_⟩
   simp only[PRSe1]
   congr 1
   have hn9:k % n<n:=Nat.mod_lt _ (by omega)
   have hn8:(k:Int) % (n:Int)=((k % n:Nat):Int):=rfl
   rw[hn8,wrap64]
   omega
  | 15,_=>
   obtain rfl:=Option.some.inj ho
   clear ho
   simp only[actsD,Act.put,actL]
   obtain⟨_,_,_,h3⟩:=hp 3 (by simp)
   simp only[PRSe1]at h3
   obtain⟨_,_,_,h14⟩:=hp 14 (by simp)
   simp only[PRSe1]at h14
   have hsz:=hg.size
   rw[h3,h14]
   have hgw:GrowX (fun _=>False) w w':=GrowX.of_growC hg (fun k o ⟨j,_,hne,_,hw⟩=>by simp only[WRSe1]at hw;omega)
   have hbw:Below w.heap.size w w':=hgw.below (fun k hk=>⟨hk,fun h=>h⟩)
   have hcall:=dread_dv (HD.out.below hbw) HG.out.dead (2+k % n) HIQ.out
   rw[HBS.out]at hcall
   have HCA:=Lib.hid hcall
   clear hcall
   go_wp2_with fail
   refine HCA.out.mono ?_
   rintro e y ⟨g,rfl,hdv,hbuf,hg5,hgr⟩
   go_wp2
   exact⟨_,rfl,hgr_c hgr (fun o=>(hdv.free o).trans ((HD.out.below hbw).free o).symm) (fun o=>⟨rfl,rfl⟩),g,rfl,hbuf,by have:=hbw.size;omega,hdv⟩
  | 16,_=>
   obtain rfl:=Option.some.inj ho
   clear ho
   simp only[actsD,Act.put,actL]
   obtain⟨_,_,_,h15⟩:=hp 15 (by simp)
   simp only[PRSe1]at h15
   have hsz:=hg.size
   go_wp2
   exact⟨_,rfl,GrowC.refl _,rfl⟩
  | 17,_=>
   obtain rfl:=Option.some.inj ho
   clear ho
   simp only[actsD,Act.put,actL]
   obtain⟨_,_,_,h15⟩:=hp 15 (by simp)
   simp only[PRSe1]at h15
   obtain⟨_,_,_,h16⟩:=hp 16 (by simp)
   simp only[PRSe1]at h16
   have hsz:=hg.size
   obtain⟨g,e15,_⟩:=h15
   rw[h16,e15]
   go_wp2
   exact⟨_,rfl,GrowC.refl _,g,e15,rfl⟩
  | 18,_=>
   obtain rfl:=Option.some.inj ho
   clear ho
   simp only[actsD,Act.put,actL]
   obtain⟨_,_,_,h15⟩:=hp 15 (by simp)
   simp only[PRSe1]at h15
   obtain⟨_,_,_,h16⟩:=hp 16 (by simp)
   simp only[PRSe1]at h16
   have hsz:=hg.size
   obtain⟨g,e15,_⟩:=h15
   rw[h16,e15]
   go_wp2
   exact⟨_,rfl,GrowC.refl _,rfl⟩
  | 19,_=>
   obtain rfl:=Option.some.inj ho
   clear ho
   simp only[actsD,Act.put,actL]
   obtain⟨_,_,_,h17⟩:=hp 17 (by simp)
   simp only[PRSe1]at h17
   have hsz:=hg.size
   go_wp2
   exact⟨_,rfl,GrowC.refl _,rfl⟩
  | 20,_=>
   obtain rfl:=Option.some.inj ho
   clear ho
   simp only[actsD,Act.put,actL]
   obtain⟨_,_,_,h18⟩:=hp 18 (by simp)
   simp only[PRSe1]at h18
   have hsz:=hg.size
   rw[h18]
   go_wp2
   exact⟨_,rfl,GrowC.refl _,rfl⟩
  | (q+21),hq=>exact absurd hq (by omega)
 intro vS lo hi w5 hg hp hd
 obtain⟨_,_,_,h0⟩:=hp 0 (by decide)
 replace h0:=h0 (by decide)
 obtain⟨_,_,_,h1⟩:=hp 1 (by decide)
 replace h1:=h1 (by decide)
 obtain⟨_,_,_,h2⟩:=hp 2 (by decide)
 replace h2:=h2 (by decide)
 obtain⟨_,_,_,h3⟩:=hp 3 (by decide)
 replace h3:=h3 (by decide)
 obtain⟨_,_,_,h4⟩:=hp 4 (by decide)
 replace h4:=h4 (by decide)
 obtain⟨_,_,_,h5⟩:=hp 5 (by decide)
 replace h5:=h5 (by decide)
 obtain⟨_,_,_,h6⟩:=hp 6 (by decide)
 replace h6:=h6 (by decide)
 obtain⟨_,_,_,h7⟩:=hp 7 (by decide)
 replace h7:=h7 (by decide)
 obtain⟨_,_,_,h8⟩:=hp 8 (by decide)
 replace h8:=h8 (by decide)
 obtain⟨_,_,_,h9⟩:=hp 9 (by decide)
 replace h9:=h9 (by decide)
 obtain⟨_,_,_,h10⟩:=hp 10 (by decide)
 replace h10:=h10 (by decide)
 obtain⟨_,_,_,h11⟩:=hp 11 (by decide)
 replace h11:=h11 (by decide)
 obtain⟨_,_,_,h12⟩:=hp 12 (by decide)
 replace h12:=h12 (by decide)
 obtain⟨_,_,_,h13⟩:=hp 13 (by decide)
 replace h13:=h13 (by decide)
 obtain⟨_,_,_,h14⟩:=hp 14 (by decide)
 replace h14:=h14 (by decide)
 obtain⟨_,_,_,h15⟩:=hp 15 (by decide)
 replace h15:=h15 (by decide)
 obtain⟨_,_,_,h16⟩:=hp 16 (by decide)
 replace h16:=h16 (by decide)
 obtain⟨_,_,_,h17⟩:=hp 17 (by decide)
 replace h17:=h17 (by decide)
 obtain⟨_,_,_,h18⟩:=hp 18 (by decide)
 replace h18:=h18 (by decide)
 obtain⟨_,_,_,h19⟩:=hp 19 (by decide)
 replace h19:=h19 (by decide)
 obtain⟨_,_,_,h20⟩:=hp 20 (by decide)
 replace h20:=h20 (by decide)
 simp only[PRSe1]at h0 h1 h2 h3 h4 h5 h6 h7 h8 h9 h10 h11 h12 h13 h14 h15 h16 h17 h18 h19 h20
 clear hp hd
 have hsz:=hg.size
 replace br:=br.grow hg (by intro i _;rintro⟨j,_,hw⟩;simp only[WRSe1]at hw;omega)
 replace hB:=hB.trans (hg.below (fun k hk=>⟨by omega,fun o=>by rintro⟨j,_,hw⟩;simp only[WRSe1]at hw;omega⟩))
 have hr:List.range 21=[0,1,2,3,4,5,6,7,8,9,10,11,12,13,14,15,16,17,18,19,20]:=rfl
 rw[hr]
 clear hr
 simp only[List.drop_succ_cons,List.drop_zero,List.drop_nil,actsD,Act.put,actL,h0,h1,h2,h3,h4,h5,h6,h7,h8,h9,h10,h11,h12,h13,h14,h18,h20]
 clear h0 h1 h2 h3 h4 h5 h6 h7 h8 h9 h10 h11 h12 h13 h14 h18 h20
 obtain⟨g,e15,hbuf,hg0,hdv⟩:=h15
 have e17:vS 17=.slice (some ⟨g,0,none⟩) 128 128:=by
  obtain⟨g',e1,e2⟩:=h17
  rw[e15]at e1
  injection e1 with e1
  injection e1 with e1
  injection e1 with e1
  injection e1 with e1
  injection e1 with e1
  injection e1 with e1
  rw[e2,e1]
 rw[h19,h16,e17,e15]
 have HDV:=Lib.hid hdv
 have HBUF:=Lib.hid hbuf
 have HGR:Hid (GrowX (fun k=>k=d) w w5):=Lib.hid (GrowX.of_growC hg (fun k o ⟨j,_,hw⟩=>by simp only[WRSe1]at hw;exact hw.2))
 obtain⟨y,hyy⟩:∃y,y=w5:=⟨_,rfl⟩
 subst hyy
 have HRD:Hid (Reads 1 y (.slice (some ⟨g,0,none⟩) 128 128) 128 (b.map B)):=Lib.hid (Reads.of_own (hbuf.own (base:=0) HBL.out (Nat.zero_le _) (by decide)))
 have hyl:=HGR.out.size
 have hcut:=HRD.out.cutA 0 8 (by omega) (by omega)
 have hcx:((b.map B).drop (0*1)).take ((8-0)*1)=(b.take 8).map B:=by rw[List.map_take];rfl
 rw[hcx]at hcut
 have HCUT:Hid (Reads 1 y (.slice (cutA (some ⟨g,0,none⟩) 0 128 1) 8 128) 8 ((b.take 8).map B)):=Lib.hid hcut
 clear hdv hbuf hcut hcx h16 h17 h19 e15 e17 hB hg hsz br
 go_upto_region 4 with (fail)
 have hB:Below y.heap.size y y:=Below.refl _ _
 refine wp_region_partsDC (WRSe4 g k (y.heap.size) (b.take 8) (be8 (k+1)) true) 8 [[],[0],[0,1],[],[3],[3,4],[3,4,5],[0,1,2,3,4,5,6]] [some 30,some 31,some 32,some 33,some 34,some 35,some 36,some 37] (by kernel_rfl) (by kernel_rfl) rfl (PRSe4 g k (y.heap.size) (b.take 8) (be8 (k+1)) true) (PRSe4_stable g k (y.heap.size) (b.take 8) (be8 (k+1)) true) ?pRSe4 ?_
 case pRSe4=>
  intro i hi o ho vs lo hx_ w' hg hp
  match i,hi with
  | 0,_|3,_=>
   obtain rfl:=Option.some.inj ho
   clear ho
   simp only[actsD,Act.put,actL]
   have hsz:=hg.size
   have hgB:Below y.heap.size y w':=hg.below (fun k hk=>⟨hk,fun o=>by rintro⟨j,_,_,_,hw⟩;exact False.elim hw⟩)
   go_wp2
   exact⟨_,rfl,GrowC.refl _,rfl⟩
  | 1,_=>
   obtain rfl:=Option.some.inj ho
   clear ho
   simp only[actsD,Act.put,actL]
   obtain⟨_,_,_,h0⟩:=hp 0 (by simp)
   simp only[PRSe4]at h0
   have hsz:=hg.size
   have hgB:Below y.heap.size y w':=hg.below (fun k hk=>⟨hk,fun o=>by rintro⟨j,_,_,_,hw⟩;exact False.elim hw⟩)
   rw[h0]
   refine wpList_cut_hi bytesOf (.tmp 30) (.const (.int .i64 8)) rfl rfl rfl (h:=8) rfl (by omega) ?_
   go_wp2
   exact⟨_,rfl,GrowC.refl _,rfl⟩
  | 2,_=>
   obtain rfl:=Option.some.inj ho
   clear ho
   simp only[actsD,Act.put,actL]
   obtain⟨_,_,_,h1⟩:=hp 1 (by simp)
   simp only[PRSe4]at h1
   have hsz:=hg.size
   have hgB:Below y.heap.size y w':=hg.below (fun k hk=>⟨hk,fun o=>by rintro⟨j,_,_,_,hw⟩;exact False.elim hw⟩)
   rw[h1]
   have hrd:=HCUT.out.below hgB (Nat.le_refl _)
   have hcv:=run_str_reads Tryz.underlying48 Tryz.underlying5 Tryz.underlying9 _ hrd
   go_wp2
   exact⟨_,rfl,GrowC.refl _,rfl⟩
  | 4,_=>
   obtain rfl:=Option.some.inj ho
   clear ho
   simp only[actsD,Act.put,actL]
   obtain⟨_,_,_,h3⟩:=hp 3 (by simp)
   simp only[PRSe4]at h3
   have hsz:=hg.size
   have hgB:Below y.heap.size y w':=hg.below (fun k hk=>⟨hk,fun o=>by rintro⟨j,_,_,_,hw⟩;exact False.elim hw⟩)
   rw[h3]
   go_wp2
   refine⟨_,rfl,GrowC.refl _,?_⟩
   simp only[PRSe4]
   first|omega|(congr 1<;>omega)|skip
  | 5,_=>
   obtain rfl:=Option.some.inj ho
   clear ho
   simp only[actsD,Act.put,actL]
   obtain⟨_,_,_,h4⟩:=hp 4 (by simp)
   simp only[PRSe4]at h4
   have hsz:=hg.size
   have hgB:Below y.heap.size y w':=hg.below (fun k hk=>⟨hk,fun o=>by rintro⟨j,_,_,_,hw⟩;exact False.elim hw⟩)
   rw[h4]
   go_wp2_with fail
   refine(rnum_any w' (k+1) (by omega)).mono ?_
   rintro e wh ⟨g2,rfl,hbuf,hg2,hbl⟩
   go_wp2
   exact⟨_,rfl,GrowC.of_grow ⟨hbl.os,hbl.tape,hbl.output,hbl.size,hbl.block⟩,g2,rfl,hbuf⟩
  | 6,_=>
   obtain rfl:=Option.some.inj ho
   clear ho
   simp only[actsD,Act.put,actL]
   obtain⟨_,_,_,h5⟩:=hp 5 (by simp)
   simp only[PRSe4]at h5
   have hsz:=hg.size
   have hgB:Below y.heap.size y w':=hg.below (fun k hk=>⟨hk,fun o=>by rintro⟨j,_,_,_,hw⟩;exact False.elim hw⟩)
   obtain⟨g2,e5,b5⟩:=h5
   rw[e5]
   have hrd:=Reads.of_own (b5.own (base:=0) (be8_len _) (Nat.zero_le _) (by decide))
   have hcv:=run_str_reads Tryz.underlying48 Tryz.underlying5 Tryz.underlying9 _ hrd
   go_wp2
   exact⟨_,rfl,GrowC.refl _,rfl⟩
  | 7,_=>
   obtain rfl:=Option.some.inj ho
   clear ho
   simp only[actsD,Act.put,actL]
   obtain⟨_,_,_,h2⟩:=hp 2 (by simp)
   simp only[PRSe4]at h2
   obtain⟨_,_,_,h6⟩:=hp 6 (by simp)
   simp only[PRSe4]at h6
   have hsz:=hg.size
   have hgB:Below y.heap.size y w':=hg.below (fun k hk=>⟨hk,fun o=>by rintro⟨j,_,_,_,hw⟩;exact False.elim hw⟩)
   rw[h2,h6]
   go_wp2
   refine⟨_,rfl,GrowC.refl _,?_⟩
   simp only[PRSe4]
   rw[HST2.out]
   rfl
  | (q+8),hq=>exact absurd hq (by omega)
 intro vS lo hi w7 hg hp hd
 obtain⟨_,_,_,h0⟩:=hp 0 (by decide)
 obtain⟨_,_,_,h1⟩:=hp 1 (by decide)
 obtain⟨_,_,_,h2⟩:=hp 2 (by decide)
 obtain⟨_,_,_,h3⟩:=hp 3 (by decide)
 obtain⟨_,_,_,h4⟩:=hp 4 (by decide)
 obtain⟨_,_,_,h5⟩:=hp 5 (by decide)
 obtain⟨_,_,_,h6⟩:=hp 6 (by decide)
 obtain⟨_,_,_,h7⟩:=hp 7 (by decide)
 simp only[PRSe4]at h0 h1 h2 h3 h4 h5 h6 h7
 clear hp hd
 have hsz:=hg.size
 replace hB:=hB.trans (hg.below (fun k hk=>⟨by omega,fun o=>by rintro⟨j,_,hw⟩;exact False.elim hw⟩))
 have hr:List.range 8=[0,1,2,3,4,5,6,7]:=rfl
 rw[hr]
 clear hr
 simp only[List.drop_succ_cons,List.drop_zero,List.drop_nil,actsD,Act.put,actL,h0,h1,h2,h3,h4,h6,h7]
 clear h0 h1 h2 h3 h4 h6 h7
 have HB7:=Lib.hid hB
 have hs7:=hB.size
 clear hB hg hsz
 have hmk:=make118
 go_wp2_with fail
 go_step3
 refine⟨rfl,?_⟩
 go_wp2_with fail
 simp only[Exit.jump]
 refine bodyPost_ret (v:=.tuple #[.slice (some ⟨w7.heap.size,0,none⟩) 118 118,.int .i64 0,.int .i64 0]) (by simp[results,Tryz.results111,go_sem]) rfl ?_
 have hdv7:=HDV.out.below HB7.out
 have hgr7:GrowX (fun k=>k=d) w w7:=HGR.out.trans (grow_below HB7.out)
 have hal:Below w7.heap.size w7 (w7.alloc (.cells Z118 5)):=(Below.refl _ _).alloc (Nat.le_refl _) _
 exact⟨_,rfl,Reads.of_own ((Buf.zero118 w7).own (base:=0) (by simp) (Nat.zero_le _) (by decide)),fun q e=>by have e2:w7.heap.size=q:=(by simpa[Value.ownBlock]using e);omega,hdv7.below hal,hgr7.trans (grow_below hal)⟩
end
end
section
open Go.RowKit
theorem be8_one:zsec.take 8≠be8 (0+1):=by decide
def WROp15(r d n cv G:Nat)(av:Option Addr)(j b o:Nat):Prop:=False
def PROp15(r d n cv G:Nat)(av:Option Addr)(i:Nat)(v:Value)(lo hi:Nat)(w:World):Prop:=
 match i with
 | 0=>v=.pointer (some ⟨r,0,none⟩)
 | 1=>v=.pointer (some ⟨r,0,none⟩)
 | 2=>v=.pointer (some ⟨r,0,none⟩)
 | 3=>v=.pointer (some ⟨r,4,none⟩)
 | 4=>v=.slice none 0 0
 | 5=>v=.slice av 118 cv
 | 6=>v=.int .i64 0
 | 7=>v=.slice (cutA av 0 cv 1) 0 cv
 | 8=>∃ao cp,v=.slice ao 0 cp∧w.ownsRow G 5 1 (.slice ao 0 cp) 0 []
 | 9=>v=.pointer (some ⟨r,0,none⟩)
 | 10=>v=.pointer (some ⟨r,4,none⟩)
 | _=>True
theorem PROp15_stable(r d n cv G:Nat)(av:Option Addr)  : ∀i j,i<11→j<11→j≠i→j∉([[],[],[1],[1,2],[1,2,3],[],[],[5,6],[1,2,3,4,5,6,7],[0,1,2,3,4,5,6,7,8],[0,1,2,3,4,5,6,7,8,9]]:List (List Nat)).getD i []→∀v lo hi w w',PROp15 r d n cv G av i v lo hi w→GrowC (WROp15 r d n cv G av j) w w'→PROp15 r d n cv G av i v lo hi w':=by
 intro i j hi hj hne hbs v lo hj2 w w' h hg
 match i,hi with
 | 0,_|1,_|2,_|3,_|4,_|5,_|6,_|7,_|9,_|10,_=>
  simp only[PROp15]at h⊢
  exact h
 | 8,_=>
  simp only[PROp15]at h⊢
  obtain⟨ao,cp,h1,h2⟩:=h
  exact⟨ao,cp,h1,own_growx h2 (GrowX.of_growC hg (Y:=fun _=>False) (fun k o h=>h)) (fun _ _ h=>h)⟩
 | (q+11),hq=>exact absurd hq (by omega)
section
variable{W0 w:World}{r d n:Nat}{D:Dv}{S:Nat→Prop}
theorem size_dv(h:DV W0 d D S w):Calls Tryz.prog 77 #[.pointer (some ⟨d,0,none⟩)] w fun e w'=>e=.returned (.int .i64 (D.l.length:Nat))∧w'=w:=by
 obtain⟨vl,vc,EL,EC,K,h1,_⟩:=h
 exact size_at h1
set_option maxRecDepth 100000 in
set_option maxHeartbeats 3200000 in
theorem ropen_new(h:DV W0 d D S w)(hg:D.good)(hn:2≤n)(hn2:n≤8192)(hl:2+n≤D.l.length)(hz:D.sec 2=zsec):
  Calls Tryz.prog 79 #[.pointer (some ⟨d,0,none⟩),.int .i64 2,.int .i64 (n:Nat),.int .i64 0] w fun e w'=>∃r S',e=.returned (.tuple #[.pointer (some ⟨r,0,none⟩),.int .i64 0])∧RGV W0 r d n ⟨D.reads 1,⟨0,[],0,0⟩⟩ S' w'∧Foot S S' w w':=by
 have hsz:=size_dv h
 obtain⟨L,hL⟩:∃L,D.l.length=L:=⟨_,rfl⟩
 rw[hL]at hl hsz
 have hLb:L≤8192:=by rw[←hL];exact hg.ok.n
 have b1:decide ((n:Int)<2)=false:=by simp;omega
 have b2:decide ((n:Int)>8192)=false:=by simp;omega
 have b3:decide ((2:Int)>(L:Int))=false:=by simp;omega
 have b4:decide ((n:Int)>(L:Int)-2)=false:=by simp;omega
 have b5:decide ((8192:Int)<(n:Int))=false:=by simp;omega
 have b6:decide ((L:Int)<2)=false:=by simp;omega
 have b7:decide ((L:Int)-2<(n:Int))=false:=by simp;omega
 have HS:=Lib.hid hsz
 have HD:=Lib.hid h
 have HG:=Lib.hid hg
 have HL:=Lib.hid hL
 have HZ:=Lib.hid hz
 clear hsz h hg hL hz
 go_enter Tryz.func79,Tryz.ntmps79
 go_wp2_with fail
 refine HS.out.mono ?_
 rintro e y ⟨rfl,rfl⟩
 go_wp2_with fail
 refine HS.out.mono ?_
 rintro e y ⟨rfl,rfl⟩
 go_wp2_with fail
 --CUT
 have hal:Below y.heap.size y (y.alloc (.cells #[.pointer (some ⟨d,0,none⟩),.int .i64 2,.int .i64 (n:Nat),.int .i64 0,.slice none 0 0,.int .i64 0,.int .i64 0,.bool false] 152)):=(Below.refl _ _).alloc (Nat.le_refl _) _
 have hbx:=Box.new y #[.pointer (some ⟨d,0,none⟩),.int .i64 2,.int .i64 (n:Nat),.int .i64 0,.slice none 0 0,.int .i64 0,.int .i64 0,.bool false] 152 rfl
 have hd1:=HD.out.below hal
 obtain⟨r,hr⟩:∃r,y.heap.size=r:=⟨_,rfl⟩
 have hrS:¬S r:=fun hs=>by have:=(HD.out.lt r hs).2;omega
 have HR:=Lib.hid hr
 rw[hr]at hbx
 rw[hr]
 have HAL:=Lib.hid hal
 have HBX:=Lib.hid hbx
 have HD1:=Lib.hid hd1
 have HRS:=Lib.hid hrS
 clear hal hbx hd1 hrS hr
 generalize y.alloc (.cells #[.pointer (some ⟨d,0,none⟩),.int .i64 2,.int .i64 (n:Nat),.int .i64 0,.slice none 0 0,.int .i64 0,.int .i64 0,.bool false] 152)=w1 at *
 refine wp_loop_rounds 1 ?_
 rw[rounds_succ]
 have hn0:decide ((0:Int)<(n:Int))=true:=by simp;omega
 have hmod:0 % n=0:=Nat.zero_mod n
 have hcall:=rsector_none _ _ _ _ _ HBX.out HD1.out HRS.out HG.out hn hn2 (by rw[HL.out];exact hl) 0 (by decide) zsec (by rw[hmod];exact HZ.out) be8_one
 have HCA:=Lib.hid hcall
 clear hcall hmod
 go_wp2_with fail
 refine HCA.out.mono ?_
 rintro e y2 ⟨v,rfl,hrd,hnv,hdv,hgr⟩
 obtain⟨av,cv,evb⟩:=hrd.shape
 subst evb
 have HRV:Hid (Reads 1 y2 (.slice av 118 cv) 118 ((List.replicate 118 (0:UInt8)).map B)):=Lib.hid hrd
 have HDV:=Lib.hid hdv
 have HGR:=Lib.hid hgr
 have hrd':r≠d:=r_ne HBX.out HD1.out HRS.out
 have HB2:=Lib.hid (HBX.out.growx hgr hrd')
 have hw1:y.heap.size≤w1.heap.size:=HAL.out.size
 have hw2:w1.heap.size≤y2.heap.size:=hgr.size
 clear hrd hnv hdv hgr
 go_upto_region 15 with (fail)
 have br:=HB2.out
 have hB:Below y2.heap.size y2 y2:=Below.refl _ _
 refine wp_region_partsDC (WROp15 r d n cv (y2.heap.size) av) 11 [[],[],[1],[1,2],[1,2,3],[],[],[5,6],[1,2,3,4,5,6,7],[0,1,2,3,4,5,6,7,8],[0,1,2,3,4,5,6,7,8,9]] [some 87,some 88,some 89,some 90,some 91,some 92,some 93,some 94,some 95,some 96,some 97,none] (by kernel_rfl) (by kernel_rfl) rfl (PROp15 r d n cv (y2.heap.size) av) (PROp15_stable r d n cv (y2.heap.size) av) ?pROp15 ?_
 case pROp15=>
  intro i hi o ho vs lo hx_ w' hg hp
  match i,hi with
  | 0,_|1,_|5,_|6,_=>
   obtain rfl:=Option.some.inj ho
   clear ho
   simp only[actsD,Act.put,actL]
   have hsz:=hg.size
   have hgB:Below y2.heap.size y2 w':=hg.below (fun k hk=>⟨hk,fun o=>by rintro⟨j,_,_,_,hw⟩;exact False.elim hw⟩)
   go_wp2
   exact⟨_,rfl,GrowC.refl _,rfl⟩
  | 2,_=>
   obtain rfl:=Option.some.inj ho
   clear ho
   simp only[actsD,Act.put,actL]
   obtain⟨_,_,_,h1⟩:=hp 1 (by simp)
   simp only[PROp15]at h1
   have hsz:=hg.size
   have hgB:Below y2.heap.size y2 w':=hg.below (fun k hk=>⟨hk,fun o=>by rintro⟨j,_,_,_,hw⟩;exact False.elim hw⟩)
   rw[h1]
   go_wp2
   exact⟨_,rfl,GrowC.refl _,rfl⟩
  | 3,_=>
   obtain rfl:=Option.some.inj ho
   clear ho
   simp only[actsD,Act.put,actL]
   obtain⟨_,_,_,h2⟩:=hp 2 (by simp)
   simp only[PROp15]at h2
   have hsz:=hg.size
   have hgB:Below y2.heap.size y2 w':=hg.below (fun k hk=>⟨hk,fun o=>by rintro⟨j,_,_,_,hw⟩;exact False.elim hw⟩)
   rw[h2]
   go_wp2
   exact⟨_,rfl,GrowC.refl _,rfl⟩
  | 4,_=>
   obtain rfl:=Option.some.inj ho
   clear ho
   simp only[actsD,Act.put,actL]
   obtain⟨_,_,_,h3⟩:=hp 3 (by simp)
   simp only[PROp15]at h3
   have hsz:=hg.size
   have hgB:Below y2.heap.size y2 w':=hg.below (fun k hk=>⟨hk,fun o=>by rintro⟨j,_,_,_,hw⟩;exact False.elim hw⟩)
   rw[h3]
   have e0:=(hg.cell (r) 4 br.lt (by rintro⟨j,_,hne,hb,hw⟩;exact False.elim hw)).trans (br.cell 4 _ rfl)
   go_wp2
   exact⟨_,rfl,GrowC.refl _,rfl⟩
  | 7,_=>
   obtain rfl:=Option.some.inj ho
   clear ho
   simp only[actsD,Act.put,actL]
   obtain⟨_,_,_,h5⟩:=hp 5 (by simp)
   simp only[PROp15]at h5
   obtain⟨_,_,_,h6⟩:=hp 6 (by simp)
   simp only[PROp15]at h6
   have hsz:=hg.size
   have hgB:Below y2.heap.size y2 w':=hg.below (fun k hk=>⟨hk,fun o=>by rintro⟨j,_,_,_,hw⟩;exact False.elim hw⟩)
   rw[h5,h6]
   refine wpList_cut_hi bytesOf (.tmp 92) (.tmp 93) rfl rfl rfl (h:=0) rfl (by omega) ?_
   go_wp2
   exact⟨_,rfl,GrowC.refl _,rfl⟩
  | 8,_=>
   obtain rfl:=Option.some.inj ho
   clear ho
   simp only[actsD,Act.put,actL]
   obtain⟨_,_,_,h4⟩:=hp 4 (by simp)
   simp only[PROp15]at h4
   obtain⟨_,_,_,h7⟩:=hp 7 (by simp)
   simp only[PROp15]at h7
   have hsz:=hg.size
   have hgB:Below y2.heap.size y2 w':=hg.below (fun k hk=>⟨hk,fun o=>by rintro⟨j,_,_,_,hw⟩;exact False.elim hw⟩)
   rw[h4,h7]
   have hcut:=(HRV.out.below hgB (Nat.le_refl _)).cutA 0 0 (Nat.le_refl _) (by omega)
   have hcut2:Reads 1 w' (.slice (cutA av 0 cv 1) 0 cv) 0 (([]:List UInt8).map B):=hcut
   go_wp2_with (at_builtin;refine wpList_append_any bytesOf (.tmp 91) (.tmp 94) rfl rfl (base:=y2.heap.size) rfl (World.ownsRow_nil _ _ _ _) rfl hcut2 (Bs_one _) (by omega) (by omega) (by have:=hgB.size;omega) ?_;intro ob cq wq ho2 hg2 hn2)
   exact⟨_,rfl,GrowC.of_grow ⟨hg2.os,hg2.tape,hg2.output,hg2.size,fun k hk=>hg2.block k hk (fun e=>by cases e)⟩,ob,cq,rfl,ho2⟩
  | 9,_=>
   obtain rfl:=Option.some.inj ho
   clear ho
   simp only[actsD,Act.put,actL]
   obtain⟨_,_,_,h0⟩:=hp 0 (by simp)
   simp only[PROp15]at h0
   have hsz:=hg.size
   have hgB:Below y2.heap.size y2 w':=hg.below (fun k hk=>⟨hk,fun o=>by rintro⟨j,_,_,_,hw⟩;exact False.elim hw⟩)
   rw[h0]
   go_wp2
   exact⟨_,rfl,GrowC.refl _,rfl⟩
  | 10,_=>
   obtain rfl:=Option.some.inj ho
   clear ho
   simp only[actsD,Act.put,actL]
   obtain⟨_,_,_,h9⟩:=hp 9 (by simp)
   simp only[PROp15]at h9
   have hsz:=hg.size
   have hgB:Below y2.heap.size y2 w':=hg.below (fun k hk=>⟨hk,fun o=>by rintro⟨j,_,_,_,hw⟩;exact False.elim hw⟩)
   rw[h9]
   go_wp2
   exact⟨_,rfl,GrowC.refl _,rfl⟩
  | (q+11),hq=>exact absurd hq (by omega)
 intro vS lo hi w6 hg hp hd
 obtain⟨_,_,_,h0⟩:=hp 0 (by decide)
 obtain⟨_,_,_,h1⟩:=hp 1 (by decide)
 obtain⟨_,_,_,h2⟩:=hp 2 (by decide)
 obtain⟨_,_,_,h3⟩:=hp 3 (by decide)
 obtain⟨_,_,_,h4⟩:=hp 4 (by decide)
 obtain⟨_,_,_,h5⟩:=hp 5 (by decide)
 obtain⟨_,_,_,h6⟩:=hp 6 (by decide)
 obtain⟨_,_,_,h7⟩:=hp 7 (by decide)
 obtain⟨_,_,_,h8⟩:=hp 8 (by decide)
 obtain⟨_,_,_,h9⟩:=hp 9 (by decide)
 obtain⟨_,_,_,h10⟩:=hp 10 (by decide)
 simp only[PROp15]at h0 h1 h2 h3 h4 h5 h6 h7 h8 h9 h10
 clear hp hd
 have hsz:=hg.size
 replace br:=br.grow hg (by intro i _;rintro⟨j,_,hw⟩;exact False.elim hw)
 replace hB:=hB.trans (hg.below (fun k hk=>⟨by omega,fun o=>by rintro⟨j,_,hw⟩;exact False.elim hw⟩))
 have hr:List.range 11=[0,1,2,3,4,5,6,7,8,9,10]:=rfl
 rw[hr]
 clear hr
 simp only[List.drop_succ_cons,List.drop_zero,List.drop_nil,actsD,Act.put,actL,h0,h1,h2,h3,h4,h5,h6,h7,h9,h10]
 clear h0 h1 h2 h3 h4 h5 h6 h7 h9 h10
 obtain⟨ao,cp,e8,o8⟩:=h8
 rw[e8]
 have O8:=Lib.hid o8
 have BR:=Lib.hid br
 have HB6:=Lib.hid hB
 have hw6:=hB.size
 have d4:=br.cell 4 _ rfl
 have dfz:=br.free
 have dlt:=br.lt
 have k3:=growX_setCell w6 r 4 (.slice ao 0 cp)
 have hrb:r<w1.heap.size:=HBX.out.lt
 obtain⟨HW0,hHW0⟩:∃x,y.heap.size=x:=⟨_,rfl⟩
 clear br e8 o8 hB hg hsz k3
 go_wp2_with fail
 have k3:=growX_setCell w6 r 4 (.slice ao 0 cp)
 have hWy:W0.heap.size≤y.heap.size:=HD.out.bel.size
 have hyr:y.heap.size=r:=HR.out
 have hro:∀q,(Value.slice ao 0 cp).ownBlock=some q→q≠r:=fun q e e2=>by have:=(O8.out.lt q e).1;omega
 have hat:RgAt (w6.setCell ⟨r,4,none⟩ (.slice ao 0 cp)) W0.heap.size r d n (.slice ao 0 cp) ⟨0,[],0,0⟩:=⟨BR.out.setCell 4 _,own_growx (own_base O8.out (by omega)) k3 hro,hro,by omega⟩
 have htl:=rtail_at hat (by decide)
 rw[show(⟨0,[],0,0⟩:Rg).tail=0 from rfl]at htl
 refine htl.mono ?_
 rintro e z ⟨rfl,hq⟩
 have hat2:=hat.grow (X:=fun _=>False) hq.grow (fun h=>h) (fun _ _ h=>h)
 have HAT:=Lib.hid hat2
 have HQ:=Lib.hid hq
 have c6:=hat2.box.cell 6 _ rfl
 have cfz:=hat2.box.free
 have clt:=hat2.box.lt
 have K3:=Lib.hid k3
 have HRO:=Lib.hid hro
 clear hat hat2 hq d4 dfz dlt k3 hro hyr htl
 go_wp2_with fail
 go_ret2
 have k6:=growX_setCell z r 6 (.int .i64 ((0:Nat):Int))
 have hyr:y.heap.size=r:=HR.out
 have hd:S d:=by obtain⟨_,_,_,_,_,_,_,_,rfl⟩:=HD.out;exact .inl rfl
 have g1:GrowX (fun k=>k=r) w6 (z.setCell ⟨r,6,none⟩ (.int .i64 ((0:Nat):Int))):=(K3.out.trans HQ.out.grow).trans k6
 have hb6:Below W0.heap.size W0 w6:=HDV.out.bel.trans (HB6.out.mono (by have:=HDV.out.bel.size;omega))
 have hbz:Below W0.heap.size W0 (z.setCell ⟨r,6,none⟩ (.int .i64 ((0:Nat):Int))):=hb6.trans (g1.below (fun k hk=>⟨Nat.lt_of_lt_of_le hk hb6.size,fun e=>by omega⟩))
 have hdz:=(HDV.out.below HB6.out).grow g1 (fun k hk e=>HRS.out (e▸hk)) hbz
 have hok0:Rg.ok n ⟨0,[],0,0⟩:=⟨hn,hn2,by decide,by decide,by decide,by decide,by show 0≤_;omega⟩
 refine⟨r,_,rfl,⟨.slice ao 0 cp,S,⟨HAT.out.box.setCell 6 _,own_growx HAT.out.row k6 (fun q e=>HRO.out q e),HRO.out,by omega⟩,hdz,HG.out.reads 1,hok0,by rw[(D.reads_l 1).1,HL.out];exact hl,HRS.out,fun q e hs=>by have:=(O8.out.lt q e).1;have:=(HD.out.lt q hs).2;omega,rfl⟩,?_,?_⟩
 ·exact((((grow_below HAL.out:GrowX S y w1).trans (HGR.out.mono (fun k e=>e▸hd))).trans (grow_below HB6.out))).step g1 (fun q h1 e=>by omega)
 ·rintro k (hk|rfl|hk)
  ·exact .inl hk
  ·exact .inr (by omega)
  ·exact .inr (by have:=(O8.out.lt k hk).1;omega)
end
end
section
open Go.RowKit
def OpsC(n fr:Nat):IoF (Io×List Value) where
 step s l:=(0,(((Io.ops n fr).step s.1 l).2,s.2))
 wr s p b:=((Io.ops n fr).wr s.1 p b,s.2)
 rd s:=((Io.ops n fr).rd s.1,s.2)
 pgs s p:=(Io.ops n fr).pgs s.1 p
theorem Rg.flushD_good{n:Nat}{R:Rg}{D:Dv}(h:D.good)(hn:2≤n)(hD:2+n≤D.l.length):(R.flushD n D).good∧(R.flushD n D).l.length=D.l.length∧(R.flushD n D).c=[]:=by
 unfold Rg.flushD
 simp only[]
 generalize R.fin / 118=a
 generalize (R.tail-1) / 118=b
 obtain⟨h1,h2,h3⟩:=Rg.wrs_good (R:=R) h hn hD (a+1) (b-a)
 have hm:∀k,2+k % n<D.l.length:=fun k=>by have:=Nat.mod_lt k (show 0<n by omega);omega
 obtain⟨f1,f2,f3⟩:=h1.write (2+(b+1) % n) zsec (by rw[h2];exact hm _) (by simp[zsec])
 obtain⟨g1,g2,g3,g4⟩:=f1.sync
 obtain⟨i1,i2,i3⟩:=g1.write (2+a % n) (R.sec a) (by rw[g2,f2,h2];exact hm _) (R.sec_len a)
 obtain⟨j1,j2,j3,j4⟩:=i1.sync
 exact⟨j1,by rw[j2,i2,g2,f2,h2],j3⟩
theorem flush_c{n:Nat}{s:Io}(h:s.D.good)(hc:s.D.c=[])(hn:2≤n)(hD:2+n≤s.D.l.length):(s.R.flush n s.D).2.c=[]:=by
 unfold Rg.flush
 split
 ·exact hc
 ·exact(Rg.flushD_good h hn hD).2.2
theorem flush_l{n:Nat}{s:Io}(h:s.D.good)(hn:2≤n)(hD:2+n≤s.D.l.length):(s.R.flush n s.D).2.l.length=s.D.l.length:=by
 unfold Rg.flush
 split
 ·rfl
 ·exact(Rg.flushD_good h hn hD).2.1
structure IoAt(W0 w:World)(r d f sb cv n fr pg:Nat)(s:Io×List Value)(S1:Nat→Prop):Prop where
 rg:RGV W0 r d n s.1 S1 w
 c0:s.1.D.c=[]
 fb:FileBox w f d fr pg false
 sbx:Box w sb s.2
 log:s.2[1]? = some (.pointer (some ⟨r,0,none⟩))
 cvx:Box w cv [.pointer (some ⟨sb,0,none⟩)]
 nf:¬S1 f
 ns:¬S1 sb
 nc:¬S1 cv
 fs:f≠sb
 fc:f≠cv
 sc:sb≠cv
 gf:W0.heap.size≤f
 gs:W0.heap.size≤sb
 gc:W0.heap.size≤cv
 fit:fr+5+4*pg≤s.1.D.l.length
def IOV(W0:World)(r d f sb cv n fr pg:Nat)(s:Io×List Value)(S:Nat→Prop)(w:World):Prop:=
 ∃S1,IoAt W0 w r d f sb cv n fr pg s S1∧S=fun k=>S1 k∨k=f∨k=sb∨k=cv
section
variable{W0 w w':World}{r d f sb cv n fr pg:Nat}{s:Io×List Value}{S S1:Nat→Prop}
theorem IOV.bel(h:IOV W0 r d f sb cv n fr pg s S w):Below W0.heap.size W0 w:=by obtain⟨S1,h1,_⟩:=h;exact h1.rg.bel
theorem IOV.lt(h:IOV W0 r d f sb cv n fr pg s S w):∀k,S k→W0.heap.size≤k∧k<w.heap.size:=by
 obtain⟨S1,h1,rfl⟩:=h
 rintro k (hk|rfl|rfl|rfl)
 ·exact h1.rg.lt k hk
 ·exact⟨h1.gf,h1.fb.lt⟩
 ·exact⟨h1.gs,h1.sbx.lt⟩
 ·exact⟨h1.gc,h1.cvx.lt⟩
theorem IOV.grow{X:Nat→Prop}(h:IOV W0 r d f sb cv n fr pg s S w)(hg:GrowX X w w')(hX:Disj S X)(hB:Below W0.heap.size W0 w'):IOV W0 r d f sb cv n fr pg s S w':=by
 obtain⟨S1,h1,rfl⟩:=h
 exact⟨S1,⟨h1.rg.grow hg (fun k hk hx=>hX k (.inl hk) hx) hB,h1.c0,h1.fb.growx hg (fun hx=>hX f (.inr (.inl rfl)) hx),h1.sbx.growx hg (fun hx=>hX sb (.inr (.inr (.inl rfl))) hx),h1.log,
  h1.cvx.growx hg (fun hx=>hX cv (.inr (.inr (.inr rfl))) hx),h1.nf,h1.ns,h1.nc,h1.fs,h1.fc,h1.sc,h1.gf,h1.gs,h1.gc,h1.fit⟩,rfl⟩
theorem IOV.below(h:IOV W0 r d f sb cv n fr pg s S w)(hb:Below w.heap.size w w'):IOV W0 r d f sb cv n fr pg s S w':=
 h.grow (X:=fun _=>False) (grow_below hb) (fun _ _ h=>h) (h.bel.trans (hb.mono h.bel.size))
theorem IoAt.put{s':Io}{S1':Nat→Prop}(h:IoAt W0 w r d f sb cv n fr pg s S1)(hr:RGV W0 r d n s' S1' w')(hc:s'.D.c=[])(hl:fr+5+4*pg≤s'.D.l.length)(hf:Foot S1 S1' w w'):
  IOV W0 r d f sb cv n fr pg (s',s.2) (fun k=>S1' k∨k=f∨k=sb∨k=cv) w'∧Foot (fun k=>S1 k∨k=f∨k=sb∨k=cv) (fun k=>S1' k∨k=f∨k=sb∨k=cv) w w':=by
 have no:∀b,¬S1 b→b<w.heap.size→¬S1' b:=fun b h1 h2 h3=>(hf.new b h3).elim h1 (fun h=>by omega)
 refine⟨⟨S1',⟨hr,hc,h.fb.growx hf.grow h.nf,h.sbx.growx hf.grow h.ns,h.log,h.cvx.growx hf.grow h.nc,no _ h.nf h.fb.lt,no _ h.ns h.sbx.lt,no _ h.nc h.cvx.lt,h.fs,h.fc,h.sc,h.gf,h.gs,h.gc,hl⟩,rfl⟩,hf.grow.mono (fun k hk=>.inl hk),?_⟩
 rintro k (hk|hk)
 ·exact(hf.new k hk).imp .inl id
 ·exact .inl (.inr hk)
set_option maxRecDepth 100000 in
set_option maxHeartbeats 1600000 in
theorem io_ans(h:IOV W0 r d f sb cv n fr pg s S w)(l:Int):
  Calls Tryz.prog 82 #[.int .i64 l,.pointer (some ⟨cv,0,none⟩)] w fun e w'=>∃S',e=.returned (.int .i64 0)∧IOV W0 r d f sb cv n fr pg ((OpsC n fr).step s l).2 S' w'∧Foot S S' w w':=by
 obtain⟨S1,h1,rfl⟩:=h
 have c0:=h1.cvx.cell 0 _ rfl
 have clt:=h1.cvx.lt
 have d1:=h1.sbx.cell 1 _ h1.log
 have dlt:=h1.sbx.lt
 obtain⟨vb,hat⟩:=h1.rg.at
 have hend:=rend_at hat
 obtain⟨fi,hfi⟩:∃x,s.1.R.fin=x:=⟨_,rfl⟩
 rw[hfi]at hend
 have HE:=Lib.hid hend
 have H1:=Lib.hid h1
 by_cases hl:(fi:Int)<l
 ·have hb1:decide (l>(fi:Int))=true:=by simpa using hl
  have hb2:decide ((fi:Int)<l)=true:=by simpa using hl
  have HST:Hid (((OpsC n fr).step s l).2=({ D:=(s.1.R.flush n s.1.D).2,R:=(s.1.R.flush n s.1.D).1 },s.2)):=Lib.hid (by show(((Io.ops n fr).step s.1 l).2,s.2)=_;unfold Io.ops;simp only[hfi];rw[if_pos hl])
  have hcall:=rflushW_rg h1.rg h1.c0
  have HCA:=Lib.hid hcall
  clear hend hat h1 hcall hl hfi
  go_enter Tryz.func82,Tryz.ntmps82
  go_wp2_with fail
  refine HE.out.mono ?_
  rintro e y ⟨rfl,rfl⟩
  go_wp2_with fail
  refine HCA.out.mono ?_
  rintro e z ⟨S',rfl,hv,hf⟩
  have HV:=Lib.hid hv
  have HF:=Lib.hid hf
  clear hv hf c0 clt d1 dlt
  go_wp2_with fail
  go_ret
  rw[HST.out]
  obtain⟨z1,z2⟩:=H1.out.put HV.out (flush_c H1.out.rg.good H1.out.c0 H1.out.rg.ok.n2 H1.out.rg.fits) (by rw[flush_l H1.out.rg.good H1.out.rg.ok.n2 H1.out.rg.fits];exact H1.out.fit) HF.out
  exact⟨_,rfl,z1,z2⟩
 ·have hb1:decide (l>(fi:Int))=false:=by simpa using hl
  have hb2:decide ((fi:Int)<l)=false:=by simpa using hl
  have HST:Hid (((OpsC n fr).step s l).2=s):=Lib.hid (by show(((Io.ops n fr).step s.1 l).2,s.2)=_;unfold Io.ops;simp only[hfi];rw[if_neg hl])
  clear hend hat h1 hl hfi
  go_enter Tryz.func82,Tryz.ntmps82
  go_wp2_with fail
  refine HE.out.mono ?_
  rintro e y ⟨rfl,rfl⟩
  clear c0 clt d1 dlt
  go_wp2_with fail
  go_ret
  rw[HST.out]
  exact⟨_,rfl,⟨S1,H1.out,rfl⟩,Foot.below (GrowX.refl _)⟩
end
end
section
open Go.RowKit
section
variable{W0 w w':World}{r d f sb cv n fr pg:Nat}{s:Io×List Value}{S S1:Nat→Prop}
theorem IOV.small(h:IOV W0 r d f sb cv n fr pg s S w):fr+5+4*pg≤8192:=by
 obtain⟨S1,h1,_⟩:=h
 have:=h1.rg.good.ok.n
 have:=h1.fit
 omega
set_option maxRecDepth 100000 in
set_option maxHeartbeats 1600000 in
theorem io_rd(h:IOV W0 r d f sb cv n fr pg s S w)(p:Nat)(hp:p<pg):
  Calls Tryz.prog 105 #[.pointer (some ⟨f,0,none⟩),.int .i64 (p:Nat)] w fun e w'=>∃v:Value,e=.returned (.tuple #[v,.int .i64 0])∧w'.ownsRow w.heap.size 5 1 v 512 (((OpsC n fr).pgs s p).map B)∧IOV W0 r d f sb cv n fr pg ((OpsC n fr).rd s) S w'∧GrowX S w w':=by
 have hsm:=h.small
 obtain⟨S1,h1,rfl⟩:=h
 have hrg:=h1.rg
 have hgd:=h1.rg.good
 obtain⟨vb,S0,i1,i2,i3,i4,i5,i6,i7,rfl⟩:=hrg
 have c2:=h1.fb.cell 2 _ rfl
 have hlt:=h1.fb.lt
 have hfS:¬S0 f:=fun hs=>h1.nf (.inl hs)
 have hq:fr+5+4*p+4≤s.1.D.l.length:=by have:=h1.fit;omega
 have hhome:=home_at h1.fb (by omega) p (by omega)
 have hgat:=gather_io h1.fb hfS i2 i3.dead (fr+5+4*p) hq
 have HH:=Lib.hid hhome
 have HG:=Lib.hid hgat
 have H1:=Lib.hid h1
 have I1:=Lib.hid i1
 have I2:=Lib.hid i2
 have I3:=Lib.hid i3
 have I4:=Lib.hid i4
 have I5:=Lib.hid i5
 have I6:=Lib.hid i6
 have I7:=Lib.hid i7
 have hb1:decide ((p:Int)<0)=false:=by simp
 have hb2:decide ((p:Int)≥(pg:Int))=false:=by simp;omega
 have hb3:decide ((pg:Int)≤(p:Int))=false:=by simp;omega
 have hb4:decide (pg≤p)=false:=by simp;omega
 clear h1 i1 i2 i3 i4 i5 i6 i7 hhome hgat hgd hq hfS
 go_enter Tryz.func105,Tryz.ntmps105
 go_wp2_with fail
 refine HH.out.mono ?_
 rintro e wh ⟨rfl,rfl⟩
 go_wp2_with fail
 refine HG.out.mono ?_
 rintro e w2 ⟨v,rfl,ho,hdv,hg⟩
 have HO:=Lib.hid ho
 have HV:=Lib.hid hdv
 have HGR:=Lib.hid hg
 clear ho hdv hg
 go_wp2_with fail
 go_ret2
 have hd:S0 d:=I2.out.self
 have hft:Foot S0 S0 wh w2:=Foot.same HGR.out (fun k e=>e▸hd)
 obtain⟨f1,f2,f3,f4,f5⟩:=s.1.D.reads_l 4
 obtain⟨g1,g2⟩:=RGV.dev (s:=s.1) I1.out I2.out I4.out I6.out I7.out HV.out (I3.out.reads 4) (by rw[f1];exact I5.out) hft
 obtain⟨z1,z2⟩:=H1.out.put g1 (by show(s.1.D.reads 4).c=[];rw[f2];exact H1.out.c0) (by show _≤(s.1.D.reads 4).l.length;rw[f1];exact H1.out.fit) g2
 exact⟨v,rfl,HO.out,z1,z2.grow⟩
set_option maxRecDepth 100000 in
theorem io_bad(h:IOV W0 r d f sb cv n fr pg s S w)(p:Int)(hp:p<0∨(pg:Int)≤p):
  Calls Tryz.prog 105 #[.pointer (some ⟨f,0,none⟩),.int .i64 p] w fun e w'=>e=.returned (.tuple #[.slice none 0 0,.int .i64 1])∧w'=w:=by
 obtain⟨S1,h1,rfl⟩:=h
 have c2:=h1.fb.cell 2 _ rfl
 have hlt:=h1.fb.lt
 clear h1
 by_cases hn:p<0
 ·have hb1:decide (p<0)=true:=by simpa using hn
  go_enter Tryz.func105,Tryz.ntmps105
  go_wp2_with fail
  go_ret2
  exact⟨rfl,rfl⟩
 ·have hb1:decide (p<0)=false:=by simpa using hn
  have hb2:decide (p≥(pg:Int))=true:=by simp;omega
  have hb3:decide ((pg:Int)≤p)=true:=by simp;omega
  clear hp
  go_enter Tryz.func105,Tryz.ntmps105
  go_wp2_with fail
  go_ret2
  exact⟨rfl,rfl⟩
set_option maxRecDepth 100000 in
set_option maxHeartbeats 1600000 in
theorem io_wrt(h:IOV W0 r d f sb cv n fr pg s S w)(p:Nat)(b:List UInt8)(v:Value)(hp:p<pg)(hb:b.length=512)(hv:Reads 1 w v 512 (b.map B))(hsl:∀k,v.ownBlock=some k→¬S k):
  Calls Tryz.prog 135 #[.pointer (some ⟨f,0,none⟩),.int .i64 (p:Nat),v] w fun e w'=>∃S',e=.returned (.int .i64 0)∧IOV W0 r d f sb cv n fr pg ((OpsC n fr).wr s p b) S' w'∧Foot S S' w w':=by
 have hsm:=h.small
 obtain⟨S1,h1,rfl⟩:=h
 have hrg:=h1.rg
 obtain⟨vb,S0,i1,i2,i3,i4,i5,i6,i7,rfl⟩:=hrg
 have c2:=h1.fb.cell 2 _ rfl
 have c3:=h1.fb.cell 3 _ rfl
 have hlt:=h1.fb.lt
 have hfS:¬S0 f:=fun hs=>h1.nf (.inl hs)
 have hcall:=fwrite_dv h1.fb hfS i2 i3.dead p hp h1.fit (by rw[h1.c0];decide) b hb v hv (fun k e hs=>hsl k e (.inl (.inl hs)))
 obtain⟨g1,g2,g3,g4,g5⟩:=i3.fwrite fr p b hb (by have:=h1.fit;omega)
 rw[g1]at hcall
 obtain⟨av,cvv,rfl,_⟩:=hv
 have HC:=Lib.hid hcall
 have H1:=Lib.hid h1
 have I1:=Lib.hid i1
 have I2:=Lib.hid i2
 have I4:=Lib.hid i4
 have I5:=Lib.hid i5
 have I6:=Lib.hid i6
 have I7:=Lib.hid i7
 have HFS:=Lib.hid hfS
 have G2:=Lib.hid g2
 have G3:=Lib.hid g3
 have G4:=Lib.hid g4
 have hb1:decide ((p:Int)<0)=false:=by simp
 have hb2:decide ((p:Int)≥(pg:Int))=false:=by simp;omega
 have hb3:decide ((pg:Int)≤(p:Int))=false:=by simp;omega
 have hb4:decide (pg≤p)=false:=by simp;omega
 clear h1 i1 i2 i3 i4 i5 i6 i7 g1 g2 g3 g4 g5 hcall hsl hfS
 go_enter Tryz.func135,Tryz.ntmps135
 go_wp2_with fail
 refine HC.out.mono ?_
 rintro e w2 ⟨S2,rfl,hdv,hft⟩
 have HV:=Lib.hid hdv
 have HF:=Lib.hid hft
 have hbx:FileBox w2 f d fr pg false:=H1.out.fb.growx hft.grow HFS.out
 have HBX:=Lib.hid hbx
 have cx3:=hbx.cell 3 _ rfl
 have cxf:=hbx.free
 have hlx:=hbx.lt
 clear hdv hft hbx
 simp only[eDead]
 go_wp2_with fail
 go_ret
 obtain⟨q1,q2⟩:=RGV.dev (s:=s.1) I1.out I2.out I4.out I6.out I7.out HV.out G2.out (by rw[G3.out];exact I5.out) HF.out
 obtain⟨z1,z2⟩:=H1.out.put q1 G4.out (by show _≤(Dv.fwrite _ _ _ _).2.l.length;rw[G3.out];exact H1.out.fit) q2
 obtain⟨k1,k2⟩:=Box.set1 HBX.out 3 (.bool false)
 have k3:GrowX (fun k=>k=f) w2 (w2.setCell ⟨f,3,none⟩ (.bool false)):=GrowX.of_growC k2 (fun k o h=>h.1)
 obtain⟨S5,m1,hS5⟩:=z1
 have hself:∀k,k=f→S5 k∨k=f∨k=sb∨k=cv:=fun k e=>.inr (.inl e)
 have hbz:=m1.rg.bel.trans (k3.below (fun k hk=>⟨Nat.lt_of_lt_of_le hk m1.rg.bel.size,fun e=>by have:=m1.gf;omega⟩))
 have m2:IoAt W0 (w2.setCell ⟨f,3,none⟩ (.bool false)) r d f sb cv n fr pg ((OpsC n fr).wr s p b) S5:=
  ⟨m1.rg.grow k3 (fun k hk e=>m1.nf (e▸hk)) hbz,m1.c0,k1,m1.sbx.growx k3 m1.fs.symm,m1.log,m1.cvx.growx k3 m1.fc.symm,m1.nf,m1.ns,m1.nc,m1.fs,m1.fc,m1.sc,m1.gf,m1.gs,m1.gc,m1.fit⟩
 refine⟨_,rfl,⟨S5,m2,rfl⟩,?_⟩
 rw[←hS5]
 exact z2.trans (Foot.same k3 (fun k e=>.inr (.inl e)))
theorem io_of(hpg:pg≤8192):IoOf W0 f pg 82 #[.pointer (some ⟨cv,0,none⟩)] (IOV W0 r d f sb cv n fr pg) (OpsC n fr) where
 enter:=enters_of Tryz.func82 (by kernel_rfl) rfl
 ans s S w l h:=io_ans h l
 rd s S w q h hq:=io_rd h q hq
 wrt s S w q b v h hq hb hv hs:=io_wrt h q b v hq hb hv hs
 bad s S w m h hm:=io_bad h m hm
 pages s S w h:=by obtain⟨S1,h1,_⟩:=h;exact pages_at h1.fb
 len s S w h q hq:=by
  obtain⟨S1,h1,_⟩:=h
  show(secsD s.1.D (fr+5+4*q) 4).length=512
  rw[secsD_len h1.rg.good.ok (by have:=h1.fit;omega)]
 small:=hpg
 grow s S X w w' h hg hX hB:=h.grow hg hX hB
 lt s S w h:=h.lt
 bel s S w h:=h.bel
end
end
section
open Go.RowKit
def UpC(base:Nat)(b _o:Nat):Prop:=base≤b
theorem UpC.below{base:Nat}{w w':World}(h:GrowC (UpC base) w w')(hb:base≤w.heap.size):Below base w w':=
 ⟨h.os,h.tape,h.output,h.size,fun k hk=>h.block k (by omega) (fun o hx=>by have:base≤k:=hx;omega)⟩
theorem UpC.alloc{base:Nat}(w:World)(o:Obj):GrowC (UpC base) w (w.alloc o):=by
 have hbl:=(Below.refl w.heap.size w).alloc (Nat.le_refl _) o
 exact GrowC.of_grow ⟨hbl.os,hbl.tape,hbl.output,hbl.size,hbl.block⟩
theorem UpC.of_below{base:Nat}{w w':World}(hbl:Below w.heap.size w w'):GrowC (UpC base) w w':=GrowC.of_grow ⟨hbl.os,hbl.tape,hbl.output,hbl.size,hbl.block⟩
theorem UpC.app{base:Nat}{w w':World}{v:Value}(hg:GrowC (fun b _=>v.ownBlock=some b) w w')(hv:∀q,v.ownBlock=some q→base≤q):GrowC (UpC base) w w':=hg.mono (fun b o e=>hv b e)
theorem run_append_anyC{P:Program}{t e:TypeId}{z:Value}{size bytes:Nat}(T:SliceOf P t e z size bytes)(w:World)(ty:TypeId)(base:Nat)(v:Value)(n:Nat)(xs:List Value)(hown:w.ownsRow base e size v n xs)
  (y:Value) (m:Nat) (news:List Value) (hr:Reads size w y m news) (h1:∀u∈news,u.oneCell'=true) (h63:n+m≤1152921504606846976) (hbytes:(n+m)*bytes≤140737488355328) (hbase:base≤w.heap.size):
  ∃v' w',(Builtin.append_ #[t,t] ty #[v,y]).run P w=.ok v' w'∧w'.ownsRow base e size v' (n+m) (xs++news)∧GrowC (fun b _=>v.ownBlock=some b) w w'∧(∀q,v'.ownBlock=some q→v.ownBlock=some q∨w.heap.size≤q):=by
 obtain⟨i,hi,hz0,hz1,hz2⟩:=info_parts T.info
 obtain⟨ao,c,rfl,hl,hmc,hcells⟩:=hr
 rcases Nat.eq_zero_or_pos m with hm|hm
 ·subst hm
  have hnews:news=[]:=List.eq_nil_of_length_eq_zero (by simpa using hl)
  subst hnews
  refine⟨v,w,?_,by simpa using hown,GrowC.refl _,fun q h=>.inl h⟩
  rcases hown.2 with ⟨rfl,_⟩|⟨g,cap,cur,rfl,_,_,hnc,hcm,_,_⟩
  ·exact run_append_zero t ty e i T.und hi none ao 0 0 c (Nat.le_refl _) (fun _=>⟨rfl,rfl⟩)
  ·exact run_append_zero t ty e i T.und hi (some ⟨g,0,none⟩) ao n cap c hnc (fun h=>by cases h)
 ·obtain⟨b,off,rfl,hlt,hc⟩:=hcells hm
  obtain⟨g,cap,w',hrun,h2,h3,h4⟩:=run_append_k (P:=P) w base t ty e i z size bytes T.und hi hz0 hz1 hz2 T.cells T.pos v n xs hown ⟨b,off,none⟩ m c news hl (fun j u hu=>by rw[Addr.add_lit];exact hc j u hu) h1 (by unfold maxLen;omega) hbytes hbase (by omega)
  refine⟨_,w',hrun,h2,h3.mono (fun k o h=>h.1),fun q hq=>?_⟩
  have e2:g=q:=by simpa[Value.ownBlock]using hq
  subst e2
  exact h4
theorem wpList_append_anyC{P:Program}{w:World}{ops:Array Oper}{rest:List Oper}{o:Oper}{a:Act}{Q:Exit→Act→World→Prop}
  {t e:TypeId} {z:Value} {size bytes:Nat} (T:SliceOf P t e z size bytes) (s x:Operand) (hgd:o.guard=none)
  (ho:o.op=.call { callee:=.builtin .append,args:=#[s,x],argTypes:=#[t,t] })
  {base:Nat} {v:Value} {n:Nat} {xs:List Value} (hs:a.eval s=v) (hown:w.ownsRow base e size v n xs)
  {y:Value} {m:Nat} {news:List Value} (hx:a.eval x=y) (hr:Reads size w y m news) (h1:∀u∈news,u.oneCell'=true)
  (h63:n+m≤1152921504606846976) (hbytes:(n+m)*bytes≤140737488355328) (hbase:base≤w.heap.size)
  (h:∀ao cap w',w'.ownsRow base e size (.slice ao (n+m) cap) (n+m) (xs++news)→GrowC (fun b _=>v.ownBlock=some b) w w'→(∀q,(Value.slice ao (n+m) cap).ownBlock=some q→v.ownBlock=some q∨w.heap.size≤q)→
   wpList P ops Q rest (a.put o.dst (.slice ao (n+m) cap)) w'):wpList P ops Q (o::rest) a w:=by
 obtain⟨v',w',hrun,h2,h3,h4⟩:=run_append_anyC T w o.type base v n xs hown y m news hr h1 h63 hbytes hbase
 obtain⟨ao,cap,rfl⟩:=own_shape h2
 refine wpList_plain hgd fun K hK=>?_
 unfold Oper.wp
 simp[execOp,ho,resolve,invoke,builtin,hs,hx,hrun,Result.andThen]
 exact hK _ _ (h ao cap w' h2 h3 h4)
end
section
open Go.RowKit
theorem be8_take(n k:Nat)(hk:k<8):(be8 n).take (k+1)=(be8 n).take k++[hbyte n k]:=by
 rw[List.take_succ_eq_append_getElem (by rw[be8_len];exact hk)]
 simp[be8]
theorem Bs_hbyte(n k:Nat):(([hbyte n k]).map B)=[.int .u8 ((n:Int) / 2 ^ (56-8*k) % 256)]:=by
 rw[List.map_cons,List.map_nil,B_hbyte]
section
variable{w:World}{base:Nat}
set_option maxRecDepth 100000 in
set_option maxHeartbeats 1600000 in
theorem recnum_any(v:Value)(m:Nat)(l:List UInt8)(hown:w.ownsRow base 5 1 v m (l.map B))(hb:base≤w.heap.size)(hm:m≤1099511627776)(n:Nat)(hn:n≤4611686018427387904):
  Calls Tryz.prog 129 #[v,.int .i64 (n:Nat)] w fun e w'=>∃ao c,e=.returned (.slice ao (m+8) c)∧w'.ownsRow base 5 1 (.slice ao (m+8) c) (m+8) ((l++be8 n).map B)∧GrowC (UpC base) w w':=by
 obtain⟨ao,c,e⟩:=own_shape hown
 subst e
 have HO:=Lib.hid hown
 have hmx:(if (0:Int)>(n:Int)then(0:Int)else(n:Int))=(n:Int):=by split<;>omega
 have hmx2:(if (n:Int)<0 then(0:Int)else(n:Int))=(n:Int):=by split<;>omega
 clear hown
 go_enter Tryz.func129,Tryz.ntmps129
 go_wp2_with fail
 go_loopw [0,8] (fun s z wr=>∃(k c2:Nat)(ao2:Option Addr),k≤8∧z=.int .i64 k∧s=.slice ao2 (m+k) c2∧wr.ownsRow base 5 1 (.slice ao2 (m+k) c2) (m+k) ((l++(be8 n).take k).map B)∧GrowC (UpC base) w wr) (fun _ z _=>8-(intOf z).toNat)
 case atStart=>exact⟨0,c,ao,Nat.zero_le _,rfl,rfl,by rw[List.take_zero,List.append_nil];exact HO.out,GrowC.refl _⟩
 case round=>
  obtain⟨k,c2,ao2,hk,rfl,rfl,hown,hbw⟩:=hrel
  have HOW:=Lib.hid hown
  have HB:=Lib.hid hbw
  have hsz:=hbw.size
  clear hown hbw
  by_cases hk8:k<8
  case neg=>
   obtain rfl:k=8:=by omega
   go_wp2_with fail
   go_ret
   refine⟨ao2,c2,rfl,?_,HB.out⟩
   have:=HOW.out
   rw[List.take_of_length_le (by rw[be8_len];decide)]at this
   exact this
  have hkb:decide ((k:Int)<8)=true:=by simp;omega
  have hkb2:decide (k<8)=true:=by simpa using hk8
  go_wp2_with (at_builtin;refine wpList_append_anyC bytesOf (.tmp 11) (.tmp 18) rfl rfl (base:=base) rfl (HOW.out.alloc _) rfl (Reads.lit (l:=([hbyte n k]).map B) (by rw[Bs_hbyte]) rfl (Nat.le_refl _) rfl) (Bs_one _) (by omega) (by omega) (by simp;omega) ?_;intro ob cq wq ho2 hg2 hn2;have HO2:Hid (wq.ownsRow base 5 1 (.slice ob (m+k+1) cq) (m+k+1) ((l++(be8 n).take k).map B++([hbyte n k]).map B)):=Lib.hid ho2;have HB2:Hid (GrowC (UpC base) w wq):=Lib.hid ((HB.out.trans (UpC.alloc _ _)).trans (UpC.app hg2 (fun q e=>(HOW.out.lt q e).1)));clear ho2 hg2 hn2)
  go_roundw
  ·refine⟨k+1,cq,ob,by omega,by go_num,rfl,?_,HB2.out⟩
   rw[be8_take n k hk8,←List.append_assoc,List.map_append]
   exact HO2.out
  ·simp[intOf];omega
set_option maxRecDepth 100000 in
set_option maxHeartbeats 1600000 in
theorem recdata_any(v:Value)(m:Nat)(l:List UInt8)(hown:w.ownsRow base 5 1 v m (l.map B))(hb:base≤w.heap.size)(hm:m≤1099511627776)(ao:Option Addr)(k c:Nat)(x:List UInt8)(hx:∀w',GrowC (UpC base) w w'→Reads 1 w' (.slice ao k c) k (x.map B))(hk:k≤1099511627776):
  Calls Tryz.prog 130 #[v,.slice ao k c] w fun e w'=>∃ao2 c2,e=.returned (.slice ao2 (m+8+k) c2)∧w'.ownsRow base 5 1 (.slice ao2 (m+8+k) c2) (m+8+k) ((l++(be8 k++x)).map B)∧GrowC (UpC base) w w':=by
 have HX:=Lib.hid hx
 have hcall:=recnum_any v m l hown hb hm k (by omega)
 have HC:=Lib.hid hcall
 clear hcall hx hown
 go_enter Tryz.func130,Tryz.ntmps130
 go_wp2_with fail
 refine HC.out.mono ?_
 rintro e y ⟨ao1,c1,rfl,ho,hbl⟩
 have HO:=Lib.hid ho
 have HB:=Lib.hid hbl
 have hsz:=hbl.size
 clear ho hbl
 go_wp2_with (at_builtin;refine wpList_append_anyC bytesOf (.tmp 8) (.tmp 9) rfl rfl (base:=base) rfl HO.out rfl (HX.out _ HB.out) (Bs_one _) (by omega) (by omega) (by omega) ?_;intro ob cq wq ho2 hg2 hn2;have HO2:Hid (wq.ownsRow base 5 1 (.slice ob (m+8+k) cq) (m+8+k) ((l++be8 k).map B++x.map B)):=Lib.hid ho2;have HB2:Hid (GrowC (UpC base) w wq):=Lib.hid (HB.out.trans (UpC.app hg2 (fun q e=>(HO.out.lt q e).1)));clear ho2 hg2 hn2)
 go_ret
 refine⟨ob,cq,rfl,?_,HB2.out⟩
 rw[←List.append_assoc,List.map_append]
 exact HO2.out
end
end
end Go.Proofs.YtpajagkhmodbnaaGreat

/- Pr: texts of the store seat laid together by program: RgWr RgFl StrK. Conditions: each theorem names its own. -/
import Derived.Test.YtpajagkhmodbnaaGreatPr12
import Derived.Test.YtpajagkhmodbnaaGreatPr13
import Derived.Deep.DeepMust
namespace Go.Proofs.YtpajagkhmodbnaaGreat
set_option maxRecDepth 100000
set_option maxHeartbeats 3200000
open Lib(hid)
set_option linter.unusedSimpArgs false
set_option linter.unusedVariables false
section
open Go.RowKit
def dY(W0:World)(r d n:Nat)(s:Io)(S:Nat->Prop)(w:World):Prop:=
 ∃vb S0,kF w W0.heap.size r d n vb s.R/\DV W0 d s.D S0 w/\s.D.good/\s.R.ok n/\2+n<=s.D.l.length/\¬S0 r/\(∀q,vb.ownBlock=some q->¬S0 q)/\S=fun k=>S0 k\/Ba r vb k
section
variable{W0 w w':World}{r d n:Nat}{s:Io}{S:Nat->Prop}
theorem dY.bel(h:dY W0 r d n s S w):Below W0.heap.size W0 w:=by obtain⟨vb,S0,h1,h2,_⟩:=h;exact h2.bel
theorem dY.lt(h:dY W0 r d n s S w):∀k,S k->W0.heap.size<=k/\k<w.heap.size:=by
 obtain⟨vb,S0,h1,h2,h3,h4,h5,h6,h7,rfl⟩:=h;rintro k (hk|rfl|hk)
 ·exact h2.lt k hk
 ·exact⟨h1.gr,h1.box.lt⟩
 ·exact h1.row.lt k hk
theorem dY.grow{X:Nat->Prop}(h:dY W0 r d n s S w)(hg:aj X w w')(hX:dA S X)(hB:Below W0.heap.size W0 w'):dY W0 r d n s S w':=by
 obtain⟨vb,S0,h1,h2,h3,h4,h5,h6,h7,rfl⟩:=h;exact⟨vb,S0,h1.grow hg (fun hx=>hX r (.inr (.inl rfl)) hx) (fun q e hx=>hX q (.inr (.inr e)) hx),h2.grow hg (fun k hk hx=>hX k (.inl hk) hx) hB,h3,h4,h5,h6,h7,rfl⟩
theorem dY.below(h:dY W0 r d n s S w)(hb:Below w.heap.size w w'):dY W0 r d n s S w':=
 h.grow (X:=fun _=>False) (aC hb) (fun _ _ h=>h) (h.bel.trans (hb.mono h.bel.size))
theorem dY.good(h:dY W0 r d n s S w):s.D.good:=by obtain⟨vb,S0,h1,h2,h3,_⟩:=h;exact h3
theorem dY.ok(h:dY W0 r d n s S w):s.R.ok n:=by obtain⟨vb,S0,h1,h2,h3,h4,_⟩:=h;exact h4
theorem dY.fits(h:dY W0 r d n s S w):2+n<=s.D.l.length:=by obtain⟨vb,S0,h1,h2,h3,h4,h5,_⟩:=h;exact h5
theorem dY.self(h:dY W0 r d n s S w):S r:=by obtain⟨vb,S0,h1,h2,h3,h4,h5,h6,h7,rfl⟩:=h;exact .inr (.inl rfl)
theorem dY.at(h:dY W0 r d n s S w):∃vb,kF w W0.heap.size r d n vb s.R:=by obtain⟨vb,S0,h1,_⟩:=h;exact⟨vb,h1⟩
end
theorem below_app{Bn:Nat}{a w w':World}{v:Value}(h:Below Bn a w)(hB:Bn<=w.heap.size)(hg:aj (fun b=>v.ownBlock=some b) w w')(hv:∀q,v.ownBlock=some q->Bn<=q):Below Bn a w':=
 h.trans (hg.below (fun k hk=>⟨Nat.lt_of_lt_of_le hk hB,fun e=>by have:=hv k e;omega⟩))
theorem ao0{m:Nat}(h:m<65536):B (UInt8.ofNat (m / 256))=.int .u8 ((m:Int) / 256):=by
 show Value.int .u8 (((UInt8.ofNat (m / 256)).toNat:Nat):Int)=_;rw[UInt8.toNat_ofNat'];congr 1;omega
theorem ao3{m:Nat}(h:m<256):B (UInt8.ofNat m)=.int .u8 (m:Int):=by
 show Value.int .u8 (((UInt8.ofNat m).toNat:Nat):Int)=_;rw[UInt8.toNat_ofNat'];congr 1;omega
def Bd(r d n bs L cp m k g3 cr st fi G:Nat)(ao:Option Addr)(bz:List UInt8)(j b o:Nat):Prop:=(j=19/\b=g3)
def nN(r d n bs L cp m k g3 cr st fi G:Nat)(ao:Option Addr)(bz:List UInt8)(i:Nat)(v:Value)(lo hi:Nat)(w:World):Prop:=
 match i with
 | 0=>v=.pointer (some ⟨r,0,none⟩)
 | 1=>v=.pointer (some ⟨r,0,none⟩)
 | 2=>v=.pointer (some ⟨r,0,none⟩)
 | 3=>v=.pointer (some ⟨d,0,none⟩)
 | 4=>v=.pointer (some ⟨r,0,none⟩)
 | 5=>v=.pointer (some ⟨r,0,none⟩)
 | 6=>v=.pointer (some ⟨r,1,none⟩)
 | 7=>v=.int .i64 2
 | 8=>v=.int .i64 ((k:Nat):Int)
 | 9=>v=.pointer (some ⟨r,0,none⟩)
 | 10=>v=.pointer (some ⟨r,0,none⟩)
 | 11=>v=.pointer (some ⟨r,2,none⟩)
 | 12=>v=.int .i64 ((n:Nat):Int)
 | 13=>v=.int .i64 ((k % n:Nat):Int)
 | 14=>v=.int .i64 ((2+k % n:Nat):Int)
 | 15=>v=.slice (some ⟨g3,0,none⟩) (10+m) cr
 | 16=>v=.slice (some ⟨g3,0,none⟩) (10+m) cr
 | 17=>v=.int .i64 ((10+m:Nat):Int)
 | 18=>v=.int .i64 ((128-(10+m):Nat):Int)
 | 19=>∃g5 c5,v=.slice (some ⟨g5,0,none⟩) 128 c5/\w.ownsRow G 5 1 (.slice (some ⟨g5,0,none⟩) 128 c5) 128 ((bz++List.replicate (128-(10+m)) 0).map B)
 | _=>True
theorem O9(r d n bs L cp m k g3 cr st fi G:Nat)(ao:Option Addr)(bz:List UInt8)  : ∀i j,i<20->j<20->j≠i->j∉([[],[0],[0,1],[0,1,2],[],[4],[4,5],[4,5,6],[],[],[9],[9,10],[9,10,11],[8,9,10,11,12],[4,5,6,7,8,9,10,11,12,13],[],[],[16],[16,17],[15,16,17,18]]:List (List Nat)).getD i []->∀v lo hi w w',nN r d n bs L cp m k g3 cr st fi G ao bz i v lo hi w->aB (Bd r d n bs L cp m k g3 cr st fi G ao bz j) w w'->nN r d n bs L cp m k g3 cr st fi G ao bz i v lo hi w':=by
 intro i j hi hj hne hbs v lo hj2 w w' h hg
 match i,hi with
 | 0,_|1,_|2,_|3,_|4,_|5,_|6,_|7,_|8,_|9,_|10,_|11,_|12,_|13,_|14,_|15,_|16,_|17,_|18,_=>
  simp only[nN]at h⊢;exact h
 | 19,_=>
  simp only[nN]at h⊢;obtain⟨g5,c5,h1,h2⟩:=h;exact⟨g5,c5,h1,aI h2 (aj.aK hg (Y:=fun _=>False) (fun k o h=>hne h.1)) (fun _ _ h=>h)⟩
 | (q+20),hq=>exact absurd hq (by omega)
section
variable{W0 w:World}{r d n:Nat}{s:Io}{S:Nat->Prop}
theorem KZ(h:dY W0 r d n s S w)(k:Nat)(h1:s.R.base<=k*118)(h2:k*118<=s.R.tail)(hcl:s.D.c.length<=1048576):
  Calls Tryz.prog 131 #[.pointer (some ⟨r,0,none⟩),.int .i64 (k:Nat)] w fun e w'=>∃S',e=.returned (.int .i64 0)/\dY W0 r d n { s with D:=s.D.write (2+k % n) (s.R.sec k) } S' w'/\aG S S' w w':=by
 have HS:=hid h.lt;obtain⟨vb,S0,i1,i2,i3,i4,i5,i6,i7,rfl⟩:=h;obtain⟨D,R⟩:=s;obtain⟨bs,xs,st,fi⟩:=R;have KQ:=hid i4;have hn2:=i4.n2;have hn3:=i4.n3;have htop:=i4.top;unfold Rg.tail at h2 htop;simp only at h1 h2 htop hcl i2 i3 i5;obtain⟨L,hL⟩:∃L,xs.length=L:=⟨_,rfl⟩
 have hrow:=i1.row;simp only at hrow;rw[hL]at h2 htop hrow;obtain⟨ao,cp,oh⟩:=bF hrow;subst oh;have hLc:L<=cp:=by obtain⟨_,_,e,_,hc,_⟩:=Reads.aY hrow;injection e with _ _ e3;omega
 have c3:=i1.box.cell 3 _ rfl;have c4:=i1.box.cell 4 _ rfl;have hlt:=i1.box.lt;simp only at c3 c4;obtain⟨q,hq⟩:∃q,k*118-bs=q:=⟨_,rfl⟩
 have hqi:(k:Int)*118-(bs:Int)=(q:Int):=by omega
 have hqL:q<=L:=by omega
 obtain⟨m,hm⟩:∃m,min 118 (L-q)=m:=⟨_,rfl⟩
 have hmi:(if (L:Int)-(q:Int)<118 then(L:Int)-(q:Int)else 118)=(m:Int):=by
  split<;>omega
 have hmL:q+m<=L:=by omega
 have at1:m<=118:=by omega
 have hkb:k<=1099511627776:=by omega
 have HL:=hid hL;have HQ:=hid hq;have HM:=hid hm;have I1:=hid i1;have I2:=hid i2;have I3:=hid i3;have I5:=hid i5;have I6:=hid i6;have I7:=hid i7;have HRW:=hid hrow;have HCX:Hid (((xs.map B).drop (q*1)).take (m*1)=((xs.drop q).take m).map B):=hid (by rw[Nat.mul_one,Nat.mul_one,List.map_take,List.map_drop]);have hnum:Calls Tryz.prog 136 #[.int .i64 ((k:Int)+1)] w _:=GK w (k+1) (by omega);have HN:=hid hnum;clear hnum;clear i1 i2 i3 i4 i5 i6 i7 hL hq hm hrow h1 h2;go_enter Tryz.func131,Tryz.ntmps131;go_wp2_with fail;refine HN.out.mono ?_;rintro e y ⟨g1,rfl,hbuf,hg1,hbl⟩;have La:y.ownsRow w.heap.size 5 1 (.slice (some ⟨g1,0,none⟩) 8 8) 8 ((aJ (k+1)).map B):=hbuf.own (dL _) hg1 (by decide);have Pg:=hid La;have dP:=hid hbl;have hsz:w.heap.size<=y.heap.size:=hbl.size;have c4:=(I1.out.box.below hbl (Nat.le_refl _)).cell 4 _ rfl;have hlt:=(I1.out.box.below hbl (Nat.le_refl _)).lt;clear hbuf hbl La c3;go_wp2_with (first
  | (at_builtin;refine bI bytesOf (.tmp 25) (.tmp 31) rfl rfl (base:=w.heap.size) rfl (Pg.out.alloc _) rfl (Reads.lit rfl rfl (Nat.le_refl _) rfl) (by intro u hu;simp at hu;rcases hu with rfl|rfl<;>rfl) (by omega) (by omega) (by simp;omega) ?_;intro ob cq wq ho2 hg2 hn2;have rP:Hid (wq.ownsRow w.heap.size 5 1 (.slice ob 10 cq) 10 ((aJ (k+1)++[UInt8.ofNat (m / 256),UInt8.ofNat m]).map B)):=hid (by rw[List.map_append,List.map_cons,List.map_cons,ao0 (by omega),ao3 (by omega)];exact ho2);have hb2:Below w.heap.size w wq:=below_app (dP.out.alloc hsz _) (by simp;omega) hg2 (fun q e=>(Pg.out.lt q e).1);have d4:=(I1.out.box.below hb2 (Nat.le_refl _)).cell 4 _ rfl;have mg:=(I1.out.box.below hb2 (Nat.le_refl _)).lt;have hs2:=hb2.size;have HB2:=hid hb2;clear c4 hlt ho2 hg2 hn2 hb2)
  | (refine Iu bytesOf (.tmp 37) (.tmp 38) (.tmp 41) rfl rfl rfl rfl (h:=q+m) (by simp[Act.eval]) (by omega) (by omega) (m:=m) (by omega) ?_;have hcut:=((Reads.aY HRW.out).below HB2.out (Nat.le_refl _)).bY q (q+m) (by omega) hmL;rw[Nat.add_sub_cancel_left]at hcut;have mO:Hid (Reads 1 wq (.slice (bY ao q cp 1) m (cp-q)) m (((xs.drop q).take m).map B)):=hid (by rw[<-HCX.out];exact hcut);clear hcut d4 mg)
  | (at_builtin;go_must ((refine bI bytesOf (.tmp 33) (.tmp 42) rfl rfl (base:=w.heap.size) rfl rP.out rfl mO.out (eU _) (by omega) (by omega) (by omega) ?_;intro od cr wr ho3 hg3 hn3;have tH:Hid (wr.ownsRow w.heap.size 5 1 (.slice od (10+m) cr) (10+m) ((aJ (k+1)++[UInt8.ofNat (m / 256),UInt8.ofNat m]++(xs.drop q).take m).map B)):=hid (by rw[List.map_append];exact ho3);have hb3:Below w.heap.size w wr:=below_app HB2.out (by omega) hg3 (fun q e=>(rP.out.lt q e).1);have hs3:=hb3.size;have HB3:=hid hb3;clear ho3 hg3 hn3 hb3))))
 go_upto_region 5 with (fail);obtain⟨bz,hbz⟩:∃b,aJ (k+1)++[UInt8.ofNat (m / 256),UInt8.ofNat m]++(xs.drop q).take m=b:=⟨_,rfl⟩
 have agN:bz.length=10+m:=by rw[<-hbz,List.length_append,List.length_append,dL,List.length_take,List.length_drop,HL.out];simp;omega
 rw[hbz]at tH;have HBZ:=hid hbz;have agO:=hid agN;obtain⟨g3,cr',e3,hb3,hlt3,hc3,_⟩:=AU tH.out (by intro e;injection e with _ e _;omega);injection e3 with e3 _ _;subst e3;clear hbz agN;have hrl:=I1.out.box.lt;have hrg:r≠g3:=by omega
 have hB:=HB3.out;have br:=(I1.out.box.below hB (Nat.le_refl _))
 simp only at br;clear hqi hmi;refine aQ (Bd r d n bs L cp m k g3 cr st fi (w.heap.size) ao bz) 20 [[],[0],[0,1],[0,1,2],[],[4],[4,5],[4,5,6],[],[],[9],[9,10],[9,10,11],[8,9,10,11,12],[4,5,6,7,8,9,10,11,12,13],[],[],[16],[16,17],[15,16,17,18]] [some 44,some 45,some 46,some 47,some 48,some 49,some 50,some 51,some 52,some 53,some 54,some 55,some 56,some 57,some 58,some 59,some 60,some 61,some 62,some 63,some 64,some 4] (by kernel_rfl) (by kernel_rfl) rfl (nN r d n bs L cp m k g3 cr st fi (w.heap.size) ao bz) (O9 r d n bs L cp m k g3 cr st fi (w.heap.size) ao bz) ?alj ?_
 case alj=>
  intro i hi o ho vs lo eX w' hg hp;have hsz:=hg.size;replace hp:=fun j hj=>(hp j hj).2.2.2
  match i,hi with
  | 0,_|4,_|8,_|9,_|15,_|16,_|1,_|2,_|3,_|5,_|6,_|7,_|10,_|11,_|12,_|17,_=>
   cases ho;simp only[aA,nN]at hp
   first|simp only[ak,Act.put,aA,hp]|simp only[ak,Act.put,aA]
   try have e0:=(hg.cell (r) 0 br.lt (by rintro⟨j,_,hne,hb,hw⟩;simp only[Bd]at hw;omega)).trans (br.cell 0 _ rfl)
   try have e1:=(hg.cell (r) 1 br.lt (by rintro⟨j,_,hne,hb,hw⟩;simp only[Bd]at hw;omega)).trans (br.cell 1 _ rfl)
   try have e2:=(hg.cell (r) 2 br.lt (by rintro⟨j,_,hne,hb,hw⟩;simp only[Bd]at hw;omega)).trans (br.cell 2 _ rfl)
   go_wp2;exact⟨_,rfl,aB.refl _,rfl⟩
  | 13,_=>
   cases ho;simp only[ak,Act.put,aA];have h8:=hp 8 (by simp);have h12:=hp 12 (by simp);simp only[nN]at h8 h12;rw[h8,h12];have hn0:¬(n:Int)=0:=by omega
   have hn1:decide ((n:Int)=0)=false:=by simpa using hn0
   go_wp2;refine⟨_,rfl,aB.refl _,?_⟩;simp only[nN];congr 1
  | 14,_=>
   cases ho;simp only[ak,Act.put,aA];have h7:=hp 7 (by simp);have h13:=hp 13 (by simp);simp only[nN]at h7 h13;rw[h7,h13];go_wp2;refine⟨_,rfl,aB.refl _,?_⟩;simp only[nN];congr 1;have hn9:k % n<n:=Nat.mod_lt _ (by omega);have vK:(k:Int) % (n:Int)=((k % n:Nat):Int):=rfl;rw[vK,wrap64];omega
  | 18,_=>
   cases ho;simp only[ak,Act.put,aA];have h17:=hp 17 (by simp);simp only[nN]at h17;rw[h17];go_wp2;refine⟨_,rfl,aB.refl _,?_⟩;simp only[nN]
   first|omega|(congr 1<;>omega)|skip
  | 19,_=>
   cases ho;simp only[ak,Act.put,aA];have h15:=hp 15 (by simp);have h18:=hp 18 (by simp);simp only[nN]at h15 h18;rw[h15,h18];have hown:=aI tH.out (aj.aK hg (Y:=fun _=>False) (fun k o ⟨j,_,hne,_,hw⟩=>hne hw.1)) (fun _ _ h=>h);have hsw:=HB3.out.size;go_wp2_with (at_builtin;refine tJ bytesOf Tryz.underlying3 (.tmp 59) (.tmp 62) rfl rfl rfl hown rfl (by omega) (by omega) ?_;intro g5 c5 wq ho5 hg5 auq);have e128:10+m+(128-(10+m))=128:=by omega
   rw[e128]at ho5⊢;exact⟨_,rfl,hg5.mono (fun b o e=>⟨rfl,e⟩),g5,c5,rfl,ho5⟩
  | (q+20),hq=>exact absurd hq (by omega)
 intro vS lo hi w6 hg hp hd;have hP:=fun j hj=>(hp j hj).2.2.2;have h0:=hP 0 (by decide);have h1:=hP 1 (by decide);have h2:=hP 2 (by decide);have h3:=hP 3 (by decide);have h4:=hP 4 (by decide);have h5:=hP 5 (by decide);have h6:=hP 6 (by decide);have h7:=hP 7 (by decide);have h8:=hP 8 (by decide);have h9:=hP 9 (by decide);have h10:=hP 10 (by decide);have h11:=hP 11 (by decide);have h12:=hP 12 (by decide);have h13:=hP 13 (by decide);have dH:=hP 14 (by decide);have h15:=hP 15 (by decide);have h16:=hP 16 (by decide);have h17:=hP 17 (by decide);have h18:=hP 18 (by decide);have h19:=hP 19 (by decide);clear hP;simp only[nN]at h0 h1 h2 h3 h4 h5 h6 h7 h8 h9 h10 h11 h12 h13 dH h15 h16 h17 h18 h19;clear hp hd;have hsz:=hg.size;replace br:=br.grow hg (by intro i _;rintro⟨j,_,hw⟩;simp only[Bd]at hw;omega);replace hB:=hB.trans (hg.below (fun k hk=>⟨by omega,fun o=>by rintro⟨j,_,hw⟩;simp only[Bd]at hw;omega⟩));have hr:List.range 20=[0,1,2,3,4,5,6,7,8,9,10,11,12,13,14,15,16,17,18,19]:=rfl;rw[hr];clear hr;simp only[List.drop_succ_cons,List.drop_zero,List.drop_nil,ak,Act.put,aA,h0,h1,h2,h3,h4,h5,h6,h7,h8,h9,h10,h11,h12,h13,dH,h15,h16,h17,h18];clear h0 h1 h2 h3 h4 h5 h6 h7 h8 h9 h10 h11 h12 h13 dH h15 h16 h17 h18;obtain⟨g5,c5,e19,o19⟩:=h19;rw[e19];have O19:=hid o19;have Dp:(bz++List.replicate (128-(10+m)) 0).length=128:=by rw[List.length_append,agO.out,List.length_replicate];omega
 have hdv:=I2.out.below hB;have agQ:=yZ hdv I3.out.dead hcl (2+k % n) (by have:=I5.out;have:=Nat.mod_lt k (show 0<n by omega);omega) (bz++List.replicate (128-(10+m)) 0) Dp (.slice (some ⟨g5,0,none⟩) 128 c5) (Reads.aY O19.out) (fun b e hs=>by have:=(HS.out b (.inl hs)).2;have:=(O19.out.lt b e).1;omega);have HWT:=hid agQ;have iC:=hid hB;clear br hB hg hsz hdv agQ e19 o19 Dp;go_wp2_with fail;refine HWT.out.mono ?_;rintro e z ⟨S',rfl,hdz,hft⟩;have hbt:=I3.out.bJ.1;have HDZ:=hid hdz;have iQ:=hid hft;clear hdz hft;rw[hbt];simp only[jS];clear hbt;go_wp2_with fail;go_ret;have hz6:Below w.heap.size w w6:=iC.out;have aur:=hz6.size;have i1z:=(I1.out.grow (X:=fun _=>False) (aC hz6) (fun h=>h) (fun _ _ h=>h)).grow iQ.out.grow I6.out (fun q e=>I7.out q e);have eH:(⟨bs,xs,st,fi⟩:Rg).sec k=bz++List.replicate (128-(10+m)) 0:=by
  unfold Rg.sec;simp only[HQ.out,HL.out,HM.out];rw[HBZ.out,show 118-m=128-(10+m) by omega]
 have Dp:(bz++List.replicate (128-(10+m)) 0).length=128:=by rw[List.length_append,agO.out,List.length_replicate];omega
 obtain⟨f1,f2,f3⟩:=I3.out.write (2+k % n) (bz++List.replicate (128-(10+m)) 0) (by have:=I5.out;have:=Nat.mod_lt k (show 0<n by omega);omega) Dp;rw[eH];refine⟨_,rfl,⟨.slice ao L cp,S',i1z,HDZ.out,f1,KQ.out,by show 2+n<=(D.write _ _).l.length;rw[f2];exact I5.out,?_,?_,rfl⟩,?_,?_⟩
 ·exact fun hs=>(iQ.out.new r hs).elim I6.out (fun h=>by have:=I1.out.box.lt;omega)
 ·exact fun q e hs=>(iQ.out.new q hs).elim (I7.out q e) (fun h=>by have:=(I1.out.row.lt q e).2;omega)
 ·exact(aC hz6).trans (iQ.out.grow.mono (fun k hk=>.inl hk))
 ·rintro k (hk|hk)
  ·exact(iQ.out.new k hk).imp .inl (fun h=>by omega)
  ·exact .inl (.inr hk)
end
end
section
open Go.RowKit
theorem Rg.uw(n:Nat)(R:Rg):∀(j k:Nat)(D:Dv),Rg.nM n R (j+1) k D=(Rg.nM n R j k D).write (2+(k+j) % n) (R.sec (k+j))
 | 0,k,D=>rfl
 | j+1,k,D=>by
  show Rg.nM n R (j+1) (k+1) (D.write _ _)=_;rw[Rg.uw n R j (k+1),Rg.nM,show k+1+j=k+(j+1) by omega]
theorem Rg.je(R:Rg)(k:Nat):(R.sec k).length=128:=by
 unfold Rg.sec;simp only[List.length_append,dL,List.length_take,List.length_drop,List.length_replicate,List.length_cons,List.length_nil];omega
theorem Rg.ou{n:Nat}{R:Rg}{D:Dv}(h:D.good)(hn:2<=n)(hD:2+n<=D.l.length)(k:Nat):∀j,(Rg.nM n R j k D).good/\(Rg.nM n R j k D).l=D.l/\(Rg.nM n R j k D).c.length=D.c.length+j
 | 0=>⟨h,rfl,rfl⟩
 | j+1=>by
  obtain⟨h1,h2,h3⟩:=Rg.ou (R:=R) h hn hD k j;rw[Rg.uw];obtain⟨f1,f2,f3⟩:=h1.write (2+(k+j) % n) (R.sec (k+j)) (by rw[h2];have:=Nat.mod_lt (k+j) (show 0<n by omega);omega) (R.je _);exact⟨f1,f2.trans h2,by rw[f3,List.length_append,h3];rfl⟩
def adt(r d n b HZ:Nat)(j b o:Nat):Prop:=False
def oV(r d n b HZ:Nat)(i:Nat)(v:Value)(lo hi:Nat)(w:World):Prop:=
 match i with
 | 0=>v=.pointer (some ⟨r,0,none⟩)
 | 1=>v=.pointer (some ⟨r,0,none⟩)
 | 2=>v=.pointer (some ⟨r,0,none⟩)
 | 3=>v=.pointer (some ⟨d,0,none⟩)
 | 4=>v=.pointer (some ⟨r,0,none⟩)
 | 5=>v=.pointer (some ⟨r,0,none⟩)
 | 6=>v=.pointer (some ⟨r,1,none⟩)
 | 7=>v=.int .i64 2
 | 8=>v=.int .i64 ((b:Nat):Int)
 | 9=>v=.int .i64 ((b+1:Nat):Int)
 | 10=>v=.pointer (some ⟨r,0,none⟩)
 | 11=>v=.pointer (some ⟨r,0,none⟩)
 | 12=>v=.pointer (some ⟨r,2,none⟩)
 | 13=>v=.int .i64 ((n:Nat):Int)
 | 14=>v=.int .i64 (((b+1) % n:Nat):Int)
 | 15=>v=.int .i64 ((2+(b+1) % n:Nat):Int)
 | 16=>∃g,v=.slice (some ⟨g,0,none⟩) 128 128/\Buf w g dB/\HZ<=g
 | _=>True
theorem Ph(r d n b HZ:Nat)  : ∀i j,i<17->j<17->j≠i->j∉([[],[0],[0,1],[0,1,2],[],[4],[4,5],[4,5,6],[],[8],[],[10],[10,11],[10,11,12],[8,9,10,11,12,13],[4,5,6,7,8,9,10,11,12,13,14],[]]:List (List Nat)).getD i []->∀v lo hi w w',oV r d n b HZ i v lo hi w->aB (adt r d n b HZ j) w w'->oV r d n b HZ i v lo hi w':=by
 intro i j hi hj hne hbs v lo hj2 w w' h hg
 match i,hi with
 | 0,_|1,_|2,_|3,_|4,_|5,_|6,_|7,_|8,_|9,_|10,_|11,_|12,_|13,_|14,_|15,_=>
  simp only[oV]at h⊢;exact h
 | 16,_=>
  simp only[oV]at h⊢;obtain⟨g,h1,h2,h3⟩:=h;exact⟨g,h1,h2.aH (aj.aK hg (Y:=fun _=>False) (fun k o h=>h)) (fun h=>h),h3⟩
 | (q+17),hq=>exact absurd hq (by omega)
section
variable{W0 w:World}{r d n:Nat}{s:Io}{S:Nat->Prop}
theorem dY.dev{w w':World}{D':Dv}{S0 Pj:Nat->Prop}{vb:Value}(h1:kF w W0.heap.size r d n vb s.R)(h2:DV W0 d s.D S0 w)(hok:s.R.ok n)(h6:¬S0 r)(h7:∀q,vb.ownBlock=some q->¬S0 q)
  (hd:DV W0 d D' Pj w') (hg:D'.good) (hl:2+n<=D'.l.length) (hf:aG S0 Pj w w'):dY W0 r d n { s with D:=D' } (fun k=>Pj k\/Ba r vb k) w'/\aG (fun k=>S0 k\/Ba r vb k) (fun k=>Pj k\/Ba r vb k) w w':=by
 refine⟨⟨vb,Pj,h1.grow hf.grow h6 (fun q e=>h7 q e),hd,hg,hok,hl,?_,?_,rfl⟩,hf.grow.mono (fun k hk=>.inl hk),?_⟩
 ·exact fun hs=>(hf.new r hs).elim h6 (fun h=>by have:=h1.box.lt;omega)
 ·exact fun q e hs=>(hf.new q hs).elim (h7 q e) (fun h=>by have:=(h1.row.lt q e).2;omega)
 ·rintro k (hk|hk)
  ·exact(hf.new k hk).imp .inl id
  ·exact .inl (.inr hk)
theorem GL(h:dY W0 r d n s S w):Calls Tryz.prog 126 #[.pointer (some ⟨d,0,none⟩)] w fun e w'=>∃S',e=.returned (.int .i64 0)/\dY W0 r d n { s with D:=s.D.sync } S' w'/\aG S S' w w':=by
 obtain⟨vb,S0,i1,i2,i3,i4,i5,i6,i7,rfl⟩:=h;refine(Oe i2 i3.dead).mono ?_;rintro e w' ⟨Pj,rfl,hd,hf⟩;obtain⟨f1,f2,f3,f4⟩:=i3.sync;obtain⟨g1,g2⟩:=dY.dev i1 i2 i4 i6 i7 hd f1 (by rw[f2];exact i5) hf;exact⟨_,by rw[i3.bJ.1];rfl,g1,g2⟩
theorem Iy(h:dY W0 r d n s S w)(iq:Nat)(hi:iq<s.D.l.length)(l:List UInt8)(hl:l.length=128)(v:Value)(hv:Reads 1 w v 128 (l.map B))(hsl:∀b,v.ownBlock=some b->¬S b)(hcl:s.D.c.length<=1048576):
  Calls Tryz.prog 125 #[.pointer (some ⟨d,0,none⟩),.int .i64 (iq:Nat),v] w fun e w'=>∃S',e=.returned (.int .i64 0)/\dY W0 r d n { s with D:=s.D.write iq l } S' w'/\aG S S' w w':=by
 obtain⟨vb,S0,i1,i2,i3,i4,i5,i6,i7,rfl⟩:=h;refine(yZ i2 i3.dead hcl iq hi l hl v hv (fun b e hs=>hsl b e (.inl hs))).mono ?_;rintro e w' ⟨Pj,rfl,hd,hf⟩;obtain⟨f1,f2,f3⟩:=i3.write iq l hi hl;obtain⟨g1,g2⟩:=dY.dev i1 i2 i4 i6 i7 hd f1 (by rw[f2];exact i5) hf;exact⟨_,by rw[i3.bJ.1];rfl,g1,g2⟩
theorem YZ(h:dY W0 r d n s S w)(hft:s.R.fin<s.R.tail)(hc:s.D.c=[]):
  Calls Tryz.prog 100 #[.pointer (some ⟨r,0,none⟩)] w fun e w'=>∃S',e=.returned (.int .i64 0)/\dY W0 r d n { s with D:=s.R.jm n s.D } S' w'/\aG S S' w w':=by
 obtain⟨vb,hat⟩:=h.at;have hok:=h.ok;have hgd:=h.good;have hfits:=h.fits;have hcall:=fun nq=>kZ (hat.grow (X:=fun _=>False) (Quiet.grow ⟨nq,rfl⟩) (fun h=>h) (fun _ _ h=>h):kF (w.drewN nq) W0.heap.size r d n vb s.R) hok.top;have HC:=hid hcall;have c6:=hat.box.cell 6 _ rfl;have hlt:=hat.box.lt;have HH:=hid h;have hn2:=hok.n2;have hn3:=hok.n3;have htop:=hok.top;have hroom:=hok.room;have hbase:=hok.base;have hsf:=hok.sf;obtain⟨t,ht⟩:∃t,s.R.tail=t:=⟨_,rfl⟩
 obtain⟨fi,hfi⟩:∃t,s.R.fin=t:=⟨_,rfl⟩
 obtain⟨st,hst⟩:∃t,s.R.start=t:=⟨_,rfl⟩
 obtain⟨bs,hbs⟩:∃t,s.R.base=t:=⟨_,rfl⟩
 rw[ht]at hft htop hroom HC;rw[hfi]at hft hsf c6;rw[hst]at hsf hroom hbase;rw[hbs]at hbase;obtain⟨a,ha⟩:∃a,fi / 118=a:=⟨_,rfl⟩
 obtain⟨b,hb⟩:∃a,(t-1) / 118=a:=⟨_,rfl⟩
 have hai:(fi:Int) / 118=(a:Int):=by omega
 have hbi:((t:Int)-1) / 118=(b:Int):=by omega
 have hab:a<=b:=by omega
 have hbt:b*118<=t-1:=by omega
 have hba:bs<=a*118:=by omega
 have hbn:b<=a+n:=by omega
 have vI:Hid (s.R.jm n s.D=((((Rg.nM n s.R (b-a) (a+1) s.D).write (2+(b+1) % n) dB).sync).write (2+a % n) (s.R.sec a)).sync):=hid (by unfold Rg.jm;rw[ht,hfi,ha,hb]);have HT:=hid ht;have vM:=hid hbs;have HW:=hid (fun j=>Rg.ou (R:=s.R) hgd hn2 hfits (a+1) j);have wO:=hid hc;have xP:=hid hfits;clear h hat hok hgd hfits hcall hroom hbase hsf ht hfi hst hbs ha hb hc;go_enter Tryz.func100,Tryz.ntmps100;go_wp2_with fail;go_quiet ((go_at_call 97;exact Calls.quiet_of (HC.out _)));go_wp2_with fail;rw[hbi];have hq0:Quiet w (w.drewN nq):=⟨_,rfl⟩
 have HR0:Hid (dY W0 r d n { s with D:=Rg.nM n s.R 0 (a+1) s.D } S (w.drewN nq)):=hid (HH.out.below hq0.below);have HF0:Hid (aG S S w (w.drewN nq)):=hid (aG.below hq0.grow);clear hq0 c6 hlt hai hbi;go_loopw [5] (fun z wr=>∃(k:Nat)(S':Nat->Prop),a+1<=k/\k<=b+1/\z=.int .i64 k/\dY W0 r d n { s with D:=Rg.nM n s.R (k-(a+1)) (a+1) s.D } S' wr/\aG S S' w wr) (fun z _=>b+1-(intOf z).toNat)
 case atStart=>exact⟨a+1,S,Nat.le_refl _,by omega,by go_num,by rw[Nat.sub_self];exact HR0.out,HF0.out⟩
 case round=>
  obtain⟨k,S',hk1,hk2,rfl,hv,hf⟩:=hrel;have HV:=hid hv;have HF:=hid hf;clear hv hf;by_cases hkb:k<=b
  ·have hb1:decide ((k:Int)<=(b:Int))=true:=by simp;omega
   have hb2:decide (k<=b)=true:=by simpa using hkb
   have hcall:=KZ HV.out k (by show s.R.base<=_;rw[vM.out];omega) (by show _<=s.R.tail;rw[HT.out];omega) (by show(Rg.nM _ _ _ _ _).c.length<=_;rw[(HW.out _).2.2,wO.out];simp;omega);have cO:=hid hcall;clear hcall;go_wp2_with fail;refine cO.out.mono ?_;rintro e y ⟨S2,rfl,hv2,hf2⟩;have l7:Hid (dY W0 r d n { s with D:=Rg.nM n s.R (k+1-(a+1)) (a+1) s.D } S2 y):=hid (by
    rw[show k+1-(a+1)=(k-(a+1))+1 by omega,Rg.uw,show a+1+(k-(a+1))=k by omega];exact hv2)
   have HF2:=hid (HF.out.trans hf2);clear hv2 hf2;go_wp2_with fail;go_roundw
   ·exact⟨k+1,S2,by omega,by omega,by go_num,l7.out,HF2.out⟩
   ·simp[intOf];omega
  ·obtain rfl:k=b+1:=by omega
   have hb1:decide (((b+1:Nat):Int)<=(b:Int))=false:=by simp;omega
   have hb2:decide (b+1<=b)=false:=by simp
   have hb3:decide ((b:Int)+1<=(b:Int))=false:=by simp;omega
   have Af:Hid (dY W0 r d n { s with D:=Rg.nM n s.R (b-a) (a+1) s.D } S' wr):=hid (by rw[show b-a=b+1-(a+1) by omega];exact HV.out);go_upto_region 8 with (fail);obtain⟨vb3,Pm⟩:=Af.out.at;have br:=Pm.box;have hB:Below wr.heap.size wr wr:=Below.refl _ _;clear Pm hb1 hb2 hb3;refine aQ (adt r d n b (wr.heap.size)) 17 [[],[0],[0,1],[0,1,2],[],[4],[4,5],[4,5,6],[],[8],[],[10],[10,11],[10,11,12],[8,9,10,11,12,13],[4,5,6,7,8,9,10,11,12,13,14],[]] [some 32,some 33,some 34,some 35,some 36,some 37,some 38,some 39,some 40,some 41,some 42,some 43,some 44,some 45,some 46,some 47,some 48,some 49,some 7] (by kernel_rfl) (by kernel_rfl) rfl (oV r d n b (wr.heap.size)) (Ph r d n b (wr.heap.size)) ?alk ?_
   case alk=>
    intro i hi o ho vs lo eX w' hg hp;have hsz:=hg.size;have hgB:Below wr.heap.size wr w':=hg.below (fun k hk=>⟨hk,fun o=>by rintro⟨j,_,_,_,hw⟩;exact False.elim hw⟩);replace hp:=fun j hj=>(hp j hj).2.2.2
    match i,hi with
    | 0,_|4,_|8,_|10,_|1,_|2,_|3,_|5,_|6,_|7,_|11,_|12,_|13,_=>
     cases ho;simp only[aA,oV]at hp
     first|simp only[ak,Act.put,aA,hp]|simp only[ak,Act.put,aA]
     try have e0:=(hg.cell (r) 0 br.lt (by rintro⟨j,_,hne,hb,hw⟩;exact False.elim hw)).trans (br.cell 0 _ rfl)
     try have e1:=(hg.cell (r) 1 br.lt (by rintro⟨j,_,hne,hb,hw⟩;exact False.elim hw)).trans (br.cell 1 _ rfl)
     try have e2:=(hg.cell (r) 2 br.lt (by rintro⟨j,_,hne,hb,hw⟩;exact False.elim hw)).trans (br.cell 2 _ rfl)
     go_wp2;exact⟨_,rfl,aB.refl _,rfl⟩
    | 9,_=>
     cases ho;simp only[ak,Act.put,aA];have h8:=hp 8 (by simp);simp only[oV]at h8;rw[h8];go_wp2;refine⟨_,rfl,aB.refl _,?_⟩;simp only[oV]
     first|omega|(congr 1<;>omega)|skip
    | 14,_=>
     cases ho;simp only[ak,Act.put,aA];have h9:=hp 9 (by simp);have h13:=hp 13 (by simp);simp only[oV]at h9 h13;rw[h9,h13];have hn0:¬(n:Int)=0:=by omega
     have hn1:decide ((n:Int)=0)=false:=by simpa using hn0
     go_wp2;refine⟨_,rfl,aB.refl _,?_⟩;simp only[oV];congr 1
    | 15,_=>
     cases ho;simp only[ak,Act.put,aA];have h7:=hp 7 (by simp);have dH:=hp 14 (by simp);simp only[oV]at h7 dH;rw[h7,dH];go_wp2;refine⟨_,rfl,aB.refl _,?_⟩;simp only[oV];congr 1;have hn9:(b+1) % n<n:=Nat.mod_lt _ (by omega);have vK:((b+1:Nat):Int) % (n:Int)=(((b+1) % n:Nat):Int):=rfl;rw[show((b:Int)+1)=((b+1:Nat):Int)from rfl,vK,wrap64];omega
    | 16,_=>
     cases ho;simp only[ak,Act.put,aA];have hmk:=JG;have hbl:=(Below.refl w'.heap.size w').alloc (Nat.le_refl _) (.cells uf 5);go_wp2;exact⟨_,rfl,aB.bK ⟨hbl.os,hbl.tape,hbl.output,hbl.size,hbl.block⟩,w'.heap.size,rfl,Buf.zero _,hgB.size⟩
    | (q+17),hq=>exact absurd hq (by omega)
   intro vS lo hi w6 hg hp hd;have hP:=fun j hj=>(hp j hj).2.2.2;have h0:=hP 0 (by decide);have h1:=hP 1 (by decide);have h2:=hP 2 (by decide);have h3:=hP 3 (by decide);have h4:=hP 4 (by decide);have h5:=hP 5 (by decide);have h6:=hP 6 (by decide);have h7:=hP 7 (by decide);have h8:=hP 8 (by decide);have h9:=hP 9 (by decide);have h10:=hP 10 (by decide);have h11:=hP 11 (by decide);have h12:=hP 12 (by decide);have h13:=hP 13 (by decide);have dH:=hP 14 (by decide);have h15:=hP 15 (by decide);have h16:=hP 16 (by decide);clear hP;simp only[oV]at h0 h1 h2 h3 h4 h5 h6 h7 h8 h9 h10 h11 h12 h13 dH h15 h16;clear hp hd;have hsz:=hg.size;replace br:=br.grow hg (by intro i _;rintro⟨j,_,hw⟩;exact False.elim hw);replace hB:=hB.trans (hg.below (fun k hk=>⟨by omega,fun o=>by rintro⟨j,_,hw⟩;exact False.elim hw⟩));have hr:List.range 17=[0,1,2,3,4,5,6,7,8,9,10,11,12,13,14,15,16]:=rfl;rw[hr];clear hr;simp only[List.drop_succ_cons,List.drop_zero,List.drop_nil,ak,Act.put,aA,h0,h1,h2,h3,h4,h5,h6,h7,h8,h9,h10,h11,h12,h13,dH,h15];clear h0 h1 h2 h3 h4 h5 h6 h7 h8 h9 h10 h11 h12 h13 dH h15;obtain⟨g5,e16,o16,n16⟩:=h16;rw[e16];have O16:Hid (Reads 1 w6 (.slice (some ⟨g5,0,none⟩) 128 128) 128 (dB.map B)):=hid (Reads.aY (o16.own (base:=0) (by simp[dB]) (Nat.zero_le _) (by decide)));have hWl:(Rg.nM n s.R (b-a) (a+1) s.D).l=s.D.l:=(HW.out (b-a)).2.1;have hv6:=Af.out.below hB;have FH:2+(b+1) % n<s.D.l.length:=by have:=xP.out;have:=Nat.mod_lt (b+1) (show 0<n by omega);omega
   have hcall:=Iy hv6 (2+(b+1) % n) (by show _<(Rg.nM _ _ _ _ _).l.length;rw[hWl];exact FH) dB (by simp[dB]) (.slice (some ⟨g5,0,none⟩) 128 128) O16.out (fun q e hs=>by have e2:g5=q:=(by simpa[Value.ownBlock]using e);subst e2;have:=(Af.out.lt g5 hs).2;omega) (by show(Rg.nM _ _ _ _ _).c.length<=_;rw[(HW.out _).2.2,wO.out];simp;omega);have cO:=hid hcall;have HF6:Hid (aG S' S' wr w6):=hid (aG.below (aC hB));clear hcall hv6 hWl FH o16 e16 n16 hB hg hsz br;go_wp2_with fail;refine cO.out.mono ?_;rintro e y ⟨S2,rfl,hv2,hf2⟩;have vO:=hid hv2;have Y0:=hid ((HF.out.trans HF6.out).trans hf2);obtain⟨vb4,Dq⟩:=hv2.at;have d0:=Dq.box.cell 0 _ rfl;have mg:=Dq.box.lt;clear hv2 hf2 Dq;go_wp2_with fail;refine(GL vO.out).mono ?_;rintro e y2 ⟨S3,rfl,hv3,hf3⟩;have HV5:=hid hv3;have Pn:=hid (Y0.out.trans hf3);have hcz:(((Rg.nM n s.R (b-a) (a+1) s.D).write (2+(b+1) % n) dB).sync).c=[]:=(vO.out.good.sync).2.2.1;have hcall:=KZ HV5.out a (by show s.R.base<=_;rw[vM.out];exact hba) (by show _<=s.R.tail;rw[HT.out];omega) (by show((Dv.sync _).c).length<=_;rw[hcz];simp);have Wj:=hid hcall;clear hv3 hf3 hcall hcz d0 mg;go_wp2_with fail;refine Wj.out.mono ?_;rintro e y3 ⟨S4,rfl,hv4,hf4⟩;have HV6:=hid hv4;have ao4:=hid (Pn.out.trans hf4);obtain⟨Y1,uy⟩:=hv4.at;have d0:=uy.box.cell 0 _ rfl;have mg:=uy.box.lt;clear hv4 hf4 uy;go_wp2_with fail;refine(GL HV6.out).mono ?_;rintro e y4 ⟨S5,rfl,hv5,hf5⟩;have HV7:=hid hv5;have qZ:=hid (ao4.out.trans hf5);clear hv5 hf5 d0 mg;go_wp2_with fail;go_ret;rw[vI.out];exact⟨S5,rfl,HV7.out,qZ.out⟩
theorem dY.agT(h:dY W0 r d n s S w):dY W0 r d n { s with R:={ s.R with fin:=s.R.tail } } S (w.setCell ⟨r,6,none⟩ (.int .i64 (s.R.tail:Nat)))/\aG S S w (w.setCell ⟨r,6,none⟩ (.int .i64 (s.R.tail:Nat))):=by
 have hself:=h.self;obtain⟨vb,S0,i1,i2,i3,i4,i5,i6,i7,rfl⟩:=h;have k3:=aF w r 6 (.int .i64 (s.R.tail:Nat));refine⟨⟨vb,S0,⟨i1.box.setCell 6 _,aI i1.row k3 (fun q e=>i1.rb q e),i1.rb,i1.gr⟩,i2.grow k3 (fun k hk e=>i6 (e▸hk)) (i2.bel.trans (k3.below (fun k hk=>⟨Nat.lt_of_lt_of_le hk i2.bel.size,fun e=>by have:=i1.gr;omega⟩))),i3,?_,i5,i6,i7,rfl⟩,⟨k3.mono (fun k e=>e▸hself),fun k hk=>.inl hk⟩⟩;have hft:=i4.ft;have hsf:=i4.sf;exact⟨i4.n2,i4.n3,i4.base,by show s.R.start<=s.R.tail;omega,Nat.le_refl _,i4.top,i4.room⟩
theorem Iz(h:dY W0 r d n s S w)(hc:s.D.c=[]):
  Calls Tryz.prog 58 #[.pointer (some ⟨r,0,none⟩)] w fun e w'=>∃S',e=.returned (.int .i64 0)/\dY W0 r d n { D:=(s.R.flush n s.D).2,R:=(s.R.flush n s.D).1 } S' w'/\aG S S' w w':=by
 obtain⟨vb,hat⟩:=h.at;have hok:=h.ok;have hcall:=fun nq=>kZ (hat.grow (X:=fun _=>False) (Quiet.grow ⟨nq,rfl⟩) (fun h=>h) (fun _ _ h=>h):kF (w.drewN nq) W0.heap.size r d n vb s.R) hok.top;have HC:=hid hcall;have c6:=hat.box.cell 6 _ rfl;have c7:=hat.box.cell 7 _ rfl;have hlt:=hat.box.lt;have hft:=hok.ft;have htop:=hok.top;have HH:=hid h;have wO:=hid hc;by_cases he:s.R.tail=s.R.fin
 ·have vI:Hid (s.R.flush n s.D=(s.R,s.D)):=hid (by unfold Rg.flush;rw[if_pos he]);rw[<-he]at c6;obtain⟨t,ht⟩:∃t,s.R.tail=t:=⟨_,rfl⟩
  rw[ht]at c6 HC;have hb:((t:Int)==(t:Int))=true:=by simp
  clear h hat hok hcall hft htop hc he ht;go_enter Tryz.func58,Tryz.ntmps58;go_wp2_with fail;go_quiet ((go_at_call 97;exact Calls.quiet_of (HC.out _)));go_wp2_with fail;go_ret;rw[vI.out];have hq0:Quiet w (w.drewN nq):=⟨_,rfl⟩
  exact⟨S,rfl,HH.out.below hq0.below,aG.below hq0.grow⟩
 ·have vI:Hid (s.R.flush n s.D=({ s.R with fin:=s.R.tail },s.R.jm n s.D)):=hid (by unfold Rg.flush;rw[if_neg he]);have hlt2:s.R.fin<s.R.tail:=by omega
  have HCF:=hid (fun(w:World) (h:dY W0 r d n s S w)=>YZ h hlt2 hc);obtain⟨t,ht⟩:∃t,s.R.tail=t:=⟨_,rfl⟩
  obtain⟨fi,hfi⟩:∃t,s.R.fin=t:=⟨_,rfl⟩
  rw[hfi]at c6 hft hlt2;rw[ht]at HC hft htop hlt2;have HT:=hid ht;have hb:((t:Int)==(fi:Int))=false:=by simp;omega
  clear h hat hok hcall hc he ht hfi;go_enter Tryz.func58,Tryz.ntmps58;go_wp2_with fail;go_quiet ((go_at_call 97;exact Calls.quiet_of (HC.out _)));have hq0:Quiet w (w.drewN nq):=⟨_,rfl⟩
  have hv0:=HH.out.below hq0.below;have hcall:=HCF.out _ hv0;have cO:=hid hcall;have HF0:Hid (aG S S w (w.drewN nq)):=hid (aG.below hq0.grow);clear hq0 hv0 hcall;go_wp2_with fail;refine cO.out.mono ?_;rintro e y ⟨S2,rfl,hv2,hf2⟩;have l7:=hid hv2;have HF2:=hid (HF0.out.trans hf2);obtain⟨vb3,Pm⟩:=hv2.at;have agU:=hv2.ok;have oz:=kZ Pm agU.top;rw[show Rg.tail _=t from HT.out]at oz;have HC3:=hid oz;clear hv2 hf2 Pm agU oz c6 c7 hlt;go_wp2_with fail;refine HC3.out.mono ?_;rintro e y2 ⟨rfl,hq⟩;have Af:=hid (l7.out.below hq.below);have HF3:=hid (HF2.out.trans (aG.below hq.grow));obtain⟨vb4,Dq⟩:=Af.out.at;have d6:=Dq.box.cell 6 _ rfl;have KY:=Dq.box.free;have mg:=Dq.box.lt;clear Dq hq;go_wp2_with fail;go_ret;obtain⟨z1,z2⟩:=Af.out.agT;rw[show Rg.tail { D:=s.R.jm n s.D,R:=s.R:Io }.R=t from HT.out]at z1 z2;rw[vI.out];simp only[HT.out];exact⟨S2,rfl,z1,HF3.out.trans z2⟩
end
end
section
open Go.RowKit
theorem dJ{P:Program}{w:World}{src dst e:TypeId}{n:Nat}{v:Value}(hs:P.underlying src=some (.slice e))(he:P.underlying e=some (.int .u8))(hd:P.underlying dst=some .string)(l:List UInt8)(hr:Reads 1 w v n (l.map B)):
  (convert src dst v).run P w=.ok (.string ⟨l.toArray⟩) w:=by
 obtain⟨ao,cap,rfl,hl,hc,hcells⟩:=hr;have hn:n=l.length:=by simpa using hl.symm
 match ao,hcells with
 | none,hcells=>
  have:l=[]:=by
   rcases Nat.eq_zero_or_pos n with e|e
   ·subst hn;exact List.eq_nil_of_length_eq_zero e
   ·obtain⟨_,_,h,_⟩:=hcells e;cases h
  subst this;rw[run_convert_bytes_nil (P:=P) w src e hs he n cap dst hd];rfl
 | some ad,hcells=>
  subst hn;refine run_convert_bytes_back w src dst e ad cap l hs he hd (fun j hj=>?_);obtain⟨b,off,hb,hlt,hc⟩:=hcells (by omega);obtain rfl:=Option.some.inj hb;rw[Addr.add_lit];exact hc j (B l[j]) (by simp[hj])
theorem yc(b:List UInt8):((⟨b.toArray⟩:ByteArray).toList==(⟨b.toArray⟩:ByteArray).toList)=true:=by simp
theorem Lc{a b:List UInt8}(h:a≠b):((⟨a.toArray⟩:ByteArray).toList==(⟨b.toArray⟩:ByteArray).toList)=false:=by
 rw[beq_eq_false_iff_ne];intro e;rw[ByteArray.toList_eq,ByteArray.toList_eq]at e;exact h e
theorem Y2(b:List UInt8):((⟨b.toArray⟩:ByteArray).toList != (⟨b.toArray⟩:ByteArray).toList)=false:=by simp
theorem Wn{a b:List UInt8}(h:a≠b):((⟨a.toArray⟩:ByteArray).toList != (⟨b.toArray⟩:ByteArray).toList)=true:=by
 rw[bne,Lc h];rfl
end
end Go.Proofs.YtpajagkhmodbnaaGreat

/- The law StoreSteals. Conditions: none. -/
import Derived.Test.YtpajagkhmodbnaaGreatCStlE
import Derived.Test.YtpajagkhmodbnaaGreatPr41
import Derived.Test.YtpajagkhmodbnaaGreatPr21
import Derived.Deep.DeepCutAuto
import Derived.BigQuiet
namespace Go.Proofs.YtpajagkhmodbnaaGreat
set_option maxRecDepth 100000
set_option maxHeartbeats 12800000
open Lib(hid)
set_option linter.unusedSimpArgs false
set_option linter.unusedVariables false
open Go.RowKit
def aaM(sb:Nat)(v8:Value)(j b o:Nat):Prop:=False
def lY(sb:Nat)(v8:Value)(i:Nat)(v:Value)(lo hi:Nat)(w:World):Prop:=
 match i with
 | 0=>v=.int .i64 0
 | 1=>v=.bool true
 | 2=>v=.bool true
 | 3=>v=v8
 | 4=>v=.string ⟨(nz 504).toArray⟩
 | 5=>∃g,v=.slice (some ⟨g,0,none⟩) 504 504/\Buf w g (nz 504)
 | 6=>v=.string ⟨(nz 504).toArray⟩
 | 7=>v=.bool true
 | 8=>v=.bool true
 | 9=>v=.bool true
 | 10=>v=.pointer (some ⟨sb,0,none⟩)
 | 11=>v=.int .i64 0
 | 12=>v=.bool true
 | 13=>v=.bool true
 | 14=>v=.bool true
 | 15=>v=.bool true
 | 16=>v=.bool true
 | 17=>v=.bool true
 | _=>True
theorem Nz(sb:Nat)(v8:Value)  : ∀i j,i<18->j<18->j≠i->j∉([[],[0],[0,1],[0,1,2],[0,1,2,3],[0,1,2],[0,1,2,5],[0,1,2,3,4,5,6],[0,1,2,3,4,5,6,7],[0,1,2,3,4,5,6,7,8],[0,1,2,3,4,5,6,7,8,9],[0,1,2,3,4,5,6,7,8,9,10],[0,1,2,3,4,5,6,7,8,9,10,11],[0,1,2,3,4,5,6,7,8,9,10,11,12],[0,1,2,3,4,5,6,7,8,9,10,11,12,13],[0,1,2,3,4,5,6,7,8,9,10,11,12,13,14],[0,1,2,3,4,5,6,7,8,9,10,11,12,13,14,15],[0,1,2,3,4,5,6,7,8,9,10,11,12,13,14,15,16]]:List (List Nat)).getD i []->∀v lo hi w w',lY sb v8 i v lo hi w->aB (aaM sb v8 j) w w'->lY sb v8 i v lo hi w':=by
 intro i j hi hj hne hbs v lo hj2 w w' h hg
 match i,hi with
 | 0,_|1,_|2,_|3,_|4,_|6,_|7,_|8,_|9,_|10,_|11,_|12,_|13,_|14,_|15,_|16,_|17,_=>
  simp only[lY]at h⊢;exact h
 | 5,_=>
  simp only[lY]at h⊢;obtain⟨g,h1,h2⟩:=h;exact⟨g,h1,h2.aH (aj.aK hg (Y:=fun _=>False) (fun k o h=>h)) (fun h=>h)⟩
 | (q+18),hq=>exact absurd hq (by omega)
def TA:Array Value:=((nz 504).map B).toArray
theorem afU(w:World):(Instr.makeSlice 48 (.int .i64 504) (.int .i64 504)).run Tryz.prog w=.ok (.slice (some ⟨w.heap.size,0,none⟩) 504 504) (w.alloc (.cells TA 5)):=by
 obtain⟨i0,hi,hz0,hz1,hz2⟩:=info_parts (P:=Tryz.prog) (e:=5) (z:=.int .u8 0) (size:=1) (bytes:=1) (by kernel_rfl);have h:=run_make (P:=Tryz.prog) w 48 5 i0 (.int .u8 0) Tryz.underlying48 hi hz0 .i64 .i64 504 504 (by decide) (by decide) (by rw[hz2];decide) (by decide);rw[h,hz1];have e:madeCells (Value.int .u8 0).cells (Int.toNat 504*1)=TA:=by
  apply Array.ext';have e1:=toList_madeCells_one (.int .u8 0) 504;show(madeCells #[.int .u8 0] 504).toList=_;rw[e1];unfold TA nz;simp only[List.map_replicate];rfl
 rw[e];rfl
theorem Buf.afV(w:World):Buf (w.alloc (.cells TA 5)) w.heap.size (nz 504):=heap_alloc_new w _
theorem aaN{w:World}{g k:Nat}{l:List UInt8}(h:Buf w g l)(hl:l.length=k):Reads 1 w (.slice (some ⟨g,0,none⟩) k k) k (l.map B):=
 ⟨_,_,rfl,by rw[List.length_map,hl,Nat.mul_one],Nat.le_refl _,fun _=>⟨g,0,rfl,h.lt,fun j u hu=>by rw[Nat.zero_add];exact h.cell j u hu⟩⟩
theorem vk:Cf.of 512=⟨128,130,94⟩:=by kernel_rfl
theorem amm(x:Int):∃q:Nat,q<20/\Int.tmod (wrap64 (Int.tmod x 20+20)) 20=(q:Int):=by
 have h1 : -20<Int.tmod x 20/\Int.tmod x 20<20:=by
  constructor
  ·have:=Int.lt_tmod_of_pos x (show(0:Int)<20 by decide);omega
  ·exact Int.tmod_lt_of_pos x (by decide)
 have h2:=Int.tmod_lt_of_pos (Int.tmod x 20+20) (show(0:Int)<20 by decide);have h3:=Int.tmod_nonneg 20 (show 0<=Int.tmod x 20+20 by omega);have h4:wrap64 (Int.tmod x 20+20)=Int.tmod x 20+20:=by rw[wrap64];omega
 rw[h4];exact⟨(Int.tmod (Int.tmod x 20+20) 20).toNat,by omega,by omega⟩
theorem amn(x:Int):∃q:Nat,q<=255/\bits BinOp.and IntKind.i64 x 255=(q:Int):=
 by
  have h:(BitVec.ofInt 64 x &&& BitVec.ofInt 64 255).toNat<=255:=by
   rw[BitVec.toNat_and];exact Nat.le_trans Nat.and_le_right (by decide)
  refine⟨(BitVec.ofInt 64 x &&& BitVec.ofInt 64 255).toNat,h,?_⟩;show IntKind.i64.wrap (((BitVec.ofInt 64 x &&& BitVec.ofInt 64 255).toNat:Nat):Int)=_;generalize (BitVec.ofInt 64 x &&& BitVec.ofInt 64 255).toNat=q at h⊢;rw[IntKind.wrap_i64];omega
def Yu(p o:Nat)(bs:List UInt8)(rc:List Rc)(V:Nat->List UInt8):Prop:=
 (rc=[]/\V=(fun _=>nz 512)/\((nz 504).drop o).take bs.length=bs)\/(rc=[jA 1,og p o bs]/\V=fF (fun _=>nz 512) p (aX (aX (nz 512) 0 (aJ 97)) (8+o) bs))
theorem ac4(b x:List UInt8)(off:Nat)(h:off+x.length<=b.length):((aX b off x).drop off).take x.length=x:=by
 refine List.ext_getElem? (fun i=>?_);rw[List.getElem?_take];by_cases hi:i<x.length
 ·rw[if_pos hi,List.getElem?_drop,kV _ _ _ h,if_neg (by omega),if_pos (by omega),Nat.add_sub_cancel_left]
 ·rw[if_neg hi];exact(List.getElem?_eq_none_iff.2 (by omega)).symm
theorem afW{p o:Nat}{bs:List UInt8}{rc:List Rc}{V:Nat->List UInt8}(h:Yu p o bs rc V)(ho:o+bs.length<=504):((V p).drop (8+o)).take bs.length=bs:=by
 rcases h with ⟨_,rfl,h3⟩|⟨_,rfl⟩
 ·rw[<-List.drop_drop];show(((nz 512).drop 8).drop o).take bs.length=bs;have e:(nz 512).drop 8=nz 504:=by unfold nz;rw[List.drop_replicate]
  rw[e];exact h3
 ·unfold fF;rw[if_pos rfl];have e1:(aX (nz 512) 0 (aJ 97)).length=512:=by rw[dK _ _ _ (Nat.zero_le _),jE]
  exact ac4 _ _ _ (by rw[e1];omega)
theorem afX{p o:Nat}{bs:List UInt8}{rc:List Rc}{V:Nat->List UInt8}(h:Yu p o bs rc V)(ho:o+bs.length<=504):(V p).length=512:=by
 rcases h with ⟨_,rfl,h3⟩|⟨_,rfl⟩
 ·exact jE 512
 ·unfold fF;rw[if_pos rfl];have e1:(aX (nz 512) 0 (aJ 97)).length=512:=by rw[dK _ _ _ (Nat.zero_le _),jE]
  rw[dK _ _ _ (by omega),e1]
theorem aaO:dN ((nz 512).take 8)=0:=by decide
theorem Yv(D:Dv)(k q m:Nat):dO (D.reads k) q m=dO D q m:=kP (fun i _ _=>by rw[fU])
theorem Yw{W0 w:World}{d:Nat}{D:Dv}{S:Nat->Prop}(h:DV W0 d D S w)(hL:D.l.length=512){p o:Nat}{bs:List UInt8}{rc:List Rc}{V:Nat->List UInt8}(hR:Yu p o bs rc V)(hH:Held (Cf.of 512) d0 (cZ rc) D)(hp:p<94)(ho:o+bs.length<=504)(hb:bs.length<=200)(hb1:0<bs.length)
  (hP:∀q,q<(Cf.of 512).pg->dO D ((Cf.of 512).fr+5+4*q) 4=V q):
  Calls Tryz.prog 37 #[.pointer (some ⟨d,0,none⟩),.int .i64 4] w fun e w'=>∃(A:bG)(S':Nat->Prop)(σ':St),e=.returned (.tuple #[.pointer (some ⟨A.sb,0,none⟩),.int .i64 0])/\SV W0 A (Cf.of 512) σ' S' w'/\σ'.commits=0/\σ'.p.wr<=1000000/\
   σ'.bytes (Cf.of 512) p 0 504=nz 504:=by
 have hpg:(Cf.of 512).pg=94:=by rw[vk]
 have hcn:(Cf.of 512).n=128:=by rw[vk]
 have hc:=Cf.NS 512 (by decide);have e0:d0 0=dB:=rfl;have e1:d0 1=dw 1 0 0 1:=rfl;have hfin:∀(A:bG)(σ':St)(W:Nat->List UInt8),fG (Cf.of 512) 4 σ' W->W p=nz 504->σ'.bytes (Cf.of 512) p 0 504=nz 504:=fun A σ' W hs hw=>by
  rw[(hs.read hc (by rw[hpg];exact hp) 0 504).1,hw,List.drop_zero];exact List.take_of_length_le (by rw[jE];exact Nat.le_refl _)
 rcases hR with ⟨rfl,rfl,_⟩|⟨rfl,rfl⟩
 ·refine(JB h 512 (by decide) (by decide) hL d0 [] hH 0 1 e0 e1 (by decide) (by decide) (by decide) 4 (by decide) (by decide) (by simp) (Nat.zero_le _) (Nat.zero_le _) (by simp) (by simp) (fun _=>nz 512) hP (fun q _=>by rw[aaO];decide) (by decide) (by decide) ?_).mono ?_
  ·intro T Dd hT _ hD _;have e2:T=[]:=List.perm_nil.1 hT;have e3:Dd=[]:=List.perm_nil.1 hD;subst e2 e3;exact⟨[],⟨rfl,by decide,by simp,by decide,by decide,by simp,by simp,Nat.zero_le _,by decide⟩⟩
  ·rintro e w' ⟨A,S',σ',rfl,_,hnf,hsv,hup,_⟩;obtain⟨T,Dd,U,hT,hD,_,hU,hs,_⟩:=hup.ex;have e2:T=[]:=List.perm_nil.1 hT;have e3:Dd=[]:=List.perm_nil.1 hD;subst e2 e3;subst hU;exact⟨A,S',σ',rfl,hsv,hup.commits,Nat.le_trans hup.wr (by decide),hfin A σ' _ hs (by show(nz 512).drop 8=nz 504;unfold nz;rw[List.drop_replicate])⟩
 ·have hm:=ac2 1 1 p o (nz bs.length) bs (by decide) (by decide) (by omega) (by omega) (by rw[jE];omega) (by omega);have hml:∀r ∈ [jA 1,og p o bs],r.mid:=fun r hr=>by
   rcases List.mem_cons.1 hr with rfl|hr
   ·exact aaJ 1 (by decide)
   ·rw[List.mem_singleton.1 hr];exact hm
  have hsz:dR [jA 1,og p o bs]=96+(96+2*bs.length):=by
   simp only[dR,List.map_cons,List.map_nil,List.sum_cons,List.sum_nil,Rc.size,jA,og,uI,Rc.zero,jE,List.length_nil];omega
  have hel:=vZ _ hml;have FX:dN ((fF (fun _=>nz 512) p (aX (aX (nz 512) 0 (aJ 97)) (8+o) bs) p).take 8)=97:=by
   unfold fF;rw[if_pos rfl,VG _ _ _ (by rw[jE];decide) _ (by omega) (by rw[jE];omega),oJ 97 (by decide)]
  refine(JB h 512 (by decide) (by decide) hL d0 _ hH 0 1 e0 e1 (by decide) (by decide) (by decide) 4 (by decide) (by decide) hml (by rw[hel,hsz,hcn];omega) (by show(2:Nat)<=_;decide) ?_ ?_ _ hP ?_ (by rw[NT];show(1:Nat)<=_;decide) (by rw[NT];show(1:Nat)<=_;decide) ?_).mono ?_
  ·intro r hr;rcases List.mem_cons.1 hr with rfl|hr
   ·exact⟨by show(1:Nat)≠7;decide,by show(1:Nat)<=1;decide,by rw[hpg];show 0<94;decide,by show(0:Nat)+0<=_;decide,fun h=>absurd h (by show(1:Nat)≠2;decide)⟩
   ·rw[List.mem_singleton.1 hr];exact⟨by show(2:Nat)≠7;decide,by show(1:Nat)<=1;decide,by rw[hpg];exact hp,ho,fun _=>by show 0<(nz bs.length).length;rw[jE];exact hb1⟩
  ·intro r hr;rcases List.mem_cons.1 hr with rfl|hr
   ·show(1:Nat)<=_;decide
   ·rw[List.mem_singleton.1 hr];show(1:Nat)<=_;decide
  ·intro q _;by_cases e:q=p
   ·subst e;rw[FX];decide
   ·unfold fF;rw[if_neg e,aaO];decide
  ·intro T Dd hT _ hD _;exact⟨_,ami _ (by rw[hpg];decide) p o bs (by rw[hpg];exact hp) ho _ (by rw[hel,hsz,hcn];omega) T Dd hT hD⟩
  ·rintro e w' ⟨A,S',σ',rfl,_,hnf,hsv,hup,_⟩;obtain⟨T,Dd,U,hT,hD,_,hU,hs,_⟩:=hup.ex;refine⟨A,S',σ',rfl,hsv,hup.commits,Nat.le_trans hup.wr (by decide),hfin A σ' _ hs ?_⟩;exact ac3 p o bs _ (by unfold fF;rw[if_pos rfl]) ho T Dd U hT hD hU
theorem Yx{w:World}(bs:List UInt8)(v:Value)(n:Nat)(hn:bs.length=n)(hv:Reads 1 w v n (bs.map B))(pi oi:Int):
  Calls Tryz.prog 7 #[v,.int .i64 pi,.int .i64 oi] w fun e w'=>e=.returned (.bool true)/\Below w.heap.size w w':=by
 obtain⟨ao,cp,FY,hl,hc,hcell⟩:=id hv;subst FY;have HV:=hid hv;have HN:=hid hn;have HO:=hid (MI w w (Below.refl _ _) 512 4 (by decide) (by decide) (by decide) (by decide));obtain⟨p,hp,hpp⟩:=amm pi;obtain⟨o,ho,hoo⟩:=amn oi;have HP:=hid hp;clear hv hl hc hcell hn;go_enter Tryz.func7,Tryz.ntmps7;go_wp2_with fail;refine HO.out.mono ?_;rintro e y1 ⟨A,S1,rfl,hnf,hsv,hsd,_,hbl⟩;have HRW:=hid (ak4 (w:=y1) 512 (by decide) (by decide) hnf hsv hsd [(p:Int)] (by show 1<4;decide));have Eo:=hid hnf;have dP:=hid hbl;clear hsv hsd hbl HO hnf;by_cases hbig:n=0\/200<n
 ·have hb1:decide ((n:Int)=0)=true\/(decide ((n:Int)=0)=false/\decide (n=0)=false/\decide ((n:Int)>200)=true/\decide (200<(n:Int))=true/\decide (200<n)=true/\((n:Int)==0)=false/\¬n=0):=by
   by_cases h0:n=0
   ·exact .inl (by simpa using h0)
   ·exact .inr ⟨by simp;omega,by simpa using h0,by simp;omega,by simp;omega,by simp;omega,by simp;omega,h0⟩
  have HAW:=hid (fun wz=>Jz wz);have HB1:=hid (HRW.out.st.bel);rcases hb1 with h0|⟨g0,g1,g2,g3,g4,g5,g6⟩
  ·obtain rfl:n=0:=by have:=of_decide_eq_true h0;omega
   have j1:decide (((0:Nat):Int)=0)=true:=by decide
   have j2:decide ((0:Int)=0)=true:=by decide
   clear h0 hbig;go_wp2_with fail;refine(HAW.out _).mono ?_;rintro e wz ⟨rfl,hb⟩;have HB2:=hid hb;clear hb;go_wp2_with fail;go_ret;exact⟨rfl,HB1.out.trans (HB2.out.mono HB1.out.size)⟩
  ·clear hbig;go_wp2_with fail;refine(HAW.out _).mono ?_;rintro e wz ⟨rfl,hb⟩;have HB2:=hid hb;clear hb;go_wp2_with fail;go_ret;exact⟨rfl,HB1.out.trans (HB2.out.mono HB1.out.size)⟩
 ·have hn0:¬n=0:=fun h=>hbig (.inl h);have hn2:n<=200:=by omega
  have f1:decide (n=0)=false:=by simpa using hn0
  have f2:decide ((n:Int)=0)=false:=by simp;omega
  have f3:decide ((n:Int)>200)=false:=by simp;omega
  have f4:decide (200<n)=false:=by simp;omega
  have f5:decide (200<(n:Int))=false:=by simp;omega
  have f6:((n:Int)==0)=false:=by simp;omega
  clear hbig;have HBG:=hid (acY HRW.out (by decide) (by rw[vk];decide));go_wp2_with fail;refine HBG.out.mono ?_;rintro e y2 ⟨σ2,S2,rfl,h2,_,hop,_,htl,ak5⟩;have ho2:σ2.opn=[⟨1,1,1,[]⟩]:=hop;have ht2:σ2.io.R.tail=96:=htl;have Ky:∀x∈σ2.p.F,x.dirty=false:=fun x hx=>by
   rw[ak5]at hx;rw[(List.eq_of_mem_replicate hx:x=Fm.free)];rfl
  have hwr:=ac1 h2 (by decide) ho2 p o bs _ (by rw[HN.out];exact HV.out) (by rw[vk];show p<94;have:=HP.out;omega) (List.mem_singleton.2 rfl) (by rw[HN.out];omega) (by rw[HN.out,vk];show 0+288+(192+3*n)+2048<=(128-1)*118;omega);have nK:=hid hwr;have HD2:=hid Ky;have HT2:=hid ht2;clear h2 hop htl ak5 ho2 ht2 Ky hwr HBG HRW;go_wp2_with fail;refine nK.out.mono ?_;rintro e y3 ⟨σ3,S3,V3,rc3,rfl,h3,_,_,hcase⟩;have hpg:p<(Cf.of 512).pg:=by rw[vk];show p<94;have:=HP.out;omega
  have hb3:n=bs.length:=HN.out.symm;have hst:∃qH,((qH=[]/\∀x∈σ3.p.F,x.dirty=false)\/(qH=rc3/\∃y∈σ3.p.F,y.page=(p:Int)/\y.dirty=true/\1<=y.aN))/\Yu p o bs qH V3:=by
   rcases hcase with ⟨c1,rfl,rfl,_,_,c6⟩|⟨c1,rfl,rfl,_,_,y,c6,c7,c8,c9⟩
   ·refine⟨[],.inl ⟨rfl,c6 HD2.out⟩,.inl ⟨rfl,rfl,?_⟩⟩;exact c1
   ·refine⟨_,.inr ⟨rfl,y,c6,c7,c8,by rw[c9];omega⟩,.inr ⟨?_,?_⟩⟩
    ·show [jA 1,uI 1 1 p o (((nz 504).drop o).take bs.length) bs]=_;unfold og nz;rw[List.drop_replicate,List.take_replicate,Nat.min_eq_left (by omega)]
    ·rw[HT2.out]
  obtain⟨rc,hrc,hR⟩:=hst;have HEV:=hid (aaL h3 (by decide) hpg (by rw[vk];decide) rc hrc);have HR:=hid hR;clear h3 hcase hb3 hrc hR nK HD2 HT2;go_wp2_with fail;refine HEV.out.mono ?_;rintro e y4 ⟨rfl,D,Sd,hdv,ae4,hdl,X3⟩;have Oq:=hid ae4;have ZV:=hid hdl;have lN:=hid (X3 p hpg);have arl:=hid X3;have lF:=hid hdv;have FQ:=hid (show Calls Tryz.prog 16 #[.int .i64 512] y4 fun e w'=>e=.returned (.tuple #[.int .i64 128,.int .i64 94])/\w'=y4 from(BF y4 512 (by decide) (by decide)).mono (fun e w' h=>h));clear ae4 hdl X3 hdv hpg HEV;go_wp2_with fail;refine FQ.out.mono ?_;rintro e y5 ⟨rfl,hy⟩;obtain rfl:y4=y5:=hy.symm;clear FQ;go_wp2_with fail;go_loopw [13,14] (fun z13 Vr w5=>∃(i m cb:Nat)(bo:Option Addr),i<=4/\m=128*i/\Vr=.int .i64 (i:Nat)/\z13=.slice bo m cb/\w5.ownsRow y4.heap.size 5 1 (.slice bo m cb) m ((dO D (135+4*p) i).map B)/\DV w A.d (D.reads i) Sd w5/\y4.heap.size<=w5.heap.size) (fun _ Vr _=>(4-intOf Vr).toNat)
  case atStart=>exact⟨0,0,0,none,by decide,rfl,rfl,rfl,World.ownsRow_nil _ _ _ _,lF.out,Nat.le_refl _⟩
  case round=>
   obtain⟨i,m,cb,bo,hi4,hm,rfl,rfl,hown,hdv,hwz⟩:=hrel;have HOW:=hid hown;have Jr:=hid hdv;have HM:=hid hm;clear hown hdv hm;rcases Nat.lt_or_ge i 4 with hi|hi
   ·have k1:decide (i<4)=true:=by simpa using hi
    have k2:decide ((i:Int)<4)=true:=by simp;omega
    have au4:=HP.out;have hrd:=ug Jr.out (Oq.out.good.reads i).dead (135+4*p+i) (by rw[Dv.fM,ZV.out];omega);rw[fU,show((135+4*p+i:Nat):Int)=135+4*(p:Int)+(i:Int) by omega]at hrd;have jD:=hid hrd;clear hrd;go_wp2_with fail;refine jD.out.mono ?_;rintro e y6 ⟨g,rfl,CZ,hbuf,hgg,hgr⟩;have zY:=hid (show DV w A.d (D.reads (i+1)) Sd y6 from CZ);have Ai:=hid hbuf;have hown6:=aI HOW.out hgr (fun q e1 e2=>by
     have h1:=(HOW.out.lt q e1).1;have h2:A.d<y4.heap.size:=(lF.out.lt A.d (by obtain⟨_,_,_,_,_,_,_,_,h⟩:=lF.out;rw[h];exact .inl rfl)).2;omega)
    have UM:=hid hown6;have HSL:Hid ((D.sec (135+4*p+i)).length=128):=hid (Dv.je Oq.out.good.ok (by rw[ZV.out];omega));have hws:y4.heap.size<=y6.heap.size:=by
     have h1:=(HOW.out.lt)
     have h2:=hgr.size;have h3:=hwz;omega
    clear CZ hbuf hgr hown6 jD k1 k2;go_wp2_with (at_builtin;refine dX bytesOf (.tmp 93) (.tmp 94) rfl rfl (base:=y4.heap.size) rfl UM.out (m:=128) (c:=128) rfl (by rw[List.length_map,HSL.out]) (news:=(D.sec (135+4*p+i)).map B) (by intro j u hu;rw[Addr.add_lit,Nat.zero_add];exact Ai.out.cell j u hu) (eU _) (by have:=HM.out;omega) (by have:=HM.out;omega) (by omega) (by omega) ?_;intro ob cp wq fD iK kE);have hgx:aj (fun b=>(Value.slice bo m cb).ownBlock=some b) y6 wq:=aj.aK iK (fun k o h=>h.1);have zq:∀k,(Value.slice bo m cb).ownBlock=some k->y4.heap.size<=k:=fun k e=>(UM.out.lt k e).1;have hdq:DV w A.d (D.reads (i+1)) Sd wq:=zY.out.grow hgx (fun k hs e=>by have:=zq k e;have:=(lF.out.lt k hs).2;omega)
     (zY.out.bel.trans (hgx.below (fun k hk=>⟨Nat.lt_of_lt_of_le hk zY.out.bel.size,fun e=>by have:=zq k e;have:=lF.out.bel.size;omega⟩)))
    have HDQ:=hid hdq;have HQW:=hid fD;have zf:=hid (Nat.le_trans hws hgx.size);clear fD iK kE hgx zq hdq hws;go_roundw
    ·refine⟨i+1,m+128,cp,some ⟨ob,0,none⟩,by omega,by have:=HM.out;omega,by simp,rfl,?_,HDQ.out,zf.out⟩;have:=HQW.out;rw[dO,List.map_append];exact this
    ·simp[intOf];omega
   ·obtain rfl:i=4:=by omega
    have k1:decide ((4:Nat)<4)=false:=by decide
    have k2:decide (((4:Nat):Int)<4)=false:=by decide
    have k3:decide ((4:Int)<4)=false:=by decide
    obtain rfl:m=512:=HM.out;have ak7:dO D (135+4*p) 4=V3 p:=by
     have:=lN.out;rw[vk]at this;exact this
    have hcut:=afW HR.out (by rw[HN.out];omega);have hlen3:=afX HR.out (by rw[HN.out];omega);have hrow:=HOW.out;rw[ak7]at hrow;obtain⟨gp,cq,e1,hcq⟩:=dV hrow (by decide);injection e1 with e1 _ e3;subst e1 e3;have hcc:=(Reads.aY hrow).bY (8+o) (8+o+n) (by omega) (by omega);have hne:¬cb=8+o:=by
     obtain⟨_,c',e2,_,h5,_⟩:=Reads.aY hrow;injection e2 with _ _ e2;omega
    have ek:8+o+n-(8+o)=n:=by omega
    have ex:(((V3 p).map B).drop ((8+o)*1)).take (n*1)=bs.map B:=by rw[Nat.mul_one,Nat.mul_one,<-List.map_drop,<-List.map_take];rw[HN.out]at hcut;rw[hcut]
    rw[ek,ex]at hcc;unfold bY at hcc;rw[if_neg hne]at hcc;have hcd:Reads 1 wr (.slice (some ⟨gp,8+o,none⟩) n (cb-(8+o))) n (bs.map B):=by
     simpa[Addr.add_lit,Nat.mul_one]using hcc
    have hr0:=fun a=>dJ (P:=Tryz.prog) Tryz.underlying48 Tryz.underlying5 Tryz.underlying9 bs (hcd.below (jW (Below.refl wr.heap.size wr) a) (Nat.le_refl _));have hr1:=fun a=>dJ (P:=Tryz.prog) Tryz.underlying48 Tryz.underlying5 Tryz.underlying9 bs ((HV.out.below Jr.out.bel (Nat.le_refl _)).below (jW (Below.refl wr.heap.size wr) a) (Nat.le_refl _));have hss:=yc bs;have U8:=hid (fun a=>aaI (Jr.out.below (jW (Below.refl wr.heap.size wr) a)) (Oq.out.good.reads 4) ((Ib D 4).trans Oq.out.c0));clear ak7 hcut hlen3 hrow hcc hcd ek ex;go_wp2_with fail;go_quiet (fail);go_wp2_with fail;refine(U8.out nq).mono ?_;rintro e y7 ⟨⟨_,rfl⟩,S7,hd7,_,_⟩;have hop:=Yw hd7 (by rw[Dv.fM,ZV.out]) HR.out (Oq.out.reads 4) (by have:=HP.out;omega) (by rw[HN.out];omega) (by rw[HN.out];omega) (by rw[HN.out];omega) (fun q hq=>by rw[Yv];exact arl.out q hq);have HOP:=hid hop;clear hd7 hop U8 hr0 hr1 hss;go_wp2_with fail;refine HOP.out.mono ?_;rintro e y8 ⟨A8,S8,σ8,rfl,ak8,ak9,ala,alb⟩;have ac5:=Vf ak8 p 0 504 (by rw[vk];show p<94;have:=HP.out;omega) (by decide) ala;rw[alb]at ac5;have hcm:((σ8.get (Cf.of 512) p).2.2).commits=0:=by
     rw[((σ8.iV (Cf.of 512) p (by rw[vk];show p<94;have:=HP.out;omega)).2).commits];exact ak9
    have WB:=hid ac5;have HCM:=hid hcm;clear ak8 ak9 ala alb ac5 hcm HOP;go_wp2_with fail;refine WB.out.mono ?_;rintro e y9 ⟨v8,S9,rfl,ae5,_,_,ac6,_⟩;have HR8:=hid (Reads.aY ae5);have hcc:∀wz,Below y9.heap.size y9 wz->Calls Tryz.prog 39 #[.pointer (some ⟨A8.sb,0,none⟩)] wz fun e w'=>e=.returned (.int .i64 0)/\w'=wz:=fun wz hbz=>by
     obtain⟨vl,vo,EL,EO,K,Sq,hat,rfl⟩:=ac6.below hbz;have hx:=TP hat;rw[HCM.out]at hx;exact hx
    have wO:=hid hcc;have Si:=hid (ac6.bel);have hB:Below y9.heap.size y9 y9:=Below.refl _ _;clear ae5 ac6 hcc WB;go_wp2_with fail;refine aQ (aaM A8.sb v8) 18 [[],[0],[0,1],[0,1,2],[0,1,2,3],[0,1,2],[0,1,2,5],[0,1,2,3,4,5,6],[0,1,2,3,4,5,6,7],[0,1,2,3,4,5,6,7,8],[0,1,2,3,4,5,6,7,8,9],[0,1,2,3,4,5,6,7,8,9,10],[0,1,2,3,4,5,6,7,8,9,10,11],[0,1,2,3,4,5,6,7,8,9,10,11,12],[0,1,2,3,4,5,6,7,8,9,10,11,12,13],[0,1,2,3,4,5,6,7,8,9,10,11,12,13,14],[0,1,2,3,4,5,6,7,8,9,10,11,12,13,14,15],[0,1,2,3,4,5,6,7,8,9,10,11,12,13,14,15,16]] [some 128,some 129,some 130,some 131,some 132,some 133,some 134,some 135,some 136,some 137,some 138,some 139,some 140,some 141,some 142,some 143,some 144,some 6] (by kernel_rfl) (by kernel_rfl) rfl (lY A8.sb v8) (Nz A8.sb v8) ?alc ?_
    case alc=>
     intro i hi o ho vs lo eX w' hg hp;have hsz:=hg.size;have hgB:Below y9.heap.size y9 w':=hg.below (fun k hk=>⟨hk,fun o=>by rintro⟨j,_,_,_,hw⟩;exact False.elim hw⟩);replace hp:=fun j hj=>(hp j hj).2.2.2
     match i,hi with
     | 0,_|1,_|2,_|3,_|8,_|9,_|10,_|12,_|13,_|14,_|16,_|17,_=>
      cases ho;simp only[aA,lY]at hp
      first|simp only[ak,Act.put,aA,hp]|simp only[ak,Act.put,aA]
      go_wp2;exact⟨_,rfl,aB.refl _,rfl⟩
     | 4,_=>
      cases ho;simp only[ak,Act.put,aA];have h2:=hp 2 (by simp);have h3:=hp 3 (by simp);simp only[lY]at h2 h3;rw[h2,h3];have hq:=dJ (P:=Tryz.prog) Tryz.underlying48 Tryz.underlying5 Tryz.underlying9 (nz 504) (HR8.out.below hgB (Nat.le_refl _));go_wp2;exact⟨_,rfl,aB.refl _,rfl⟩
     | 5,_=>
      cases ho;simp only[ak,Act.put,aA];have h2:=hp 2 (by simp);simp only[lY]at h2;rw[h2];have hmk:=afU;have hbl:=(Below.refl w'.heap.size w').alloc (Nat.le_refl _) (.cells TA 5);go_wp2;exact⟨_,rfl,aB.bK ⟨hbl.os,hbl.tape,hbl.output,hbl.size,hbl.block⟩,w'.heap.size,rfl,Buf.afV _⟩
     | 6,_=>
      cases ho;simp only[ak,Act.put,aA];have h2:=hp 2 (by simp);have h5:=hp 5 (by simp);simp only[lY]at h2 h5;rw[h2];obtain⟨g5,e5,hb5⟩:=h5;rw[e5];have hq:=dJ (P:=Tryz.prog) Tryz.underlying48 Tryz.underlying5 Tryz.underlying9 (nz 504) (aaN hb5 (jE 504));go_wp2;exact⟨_,rfl,aB.refl _,rfl⟩
     | 7,_=>
      cases ho;simp only[ak,Act.put,aA];have h2:=hp 2 (by simp);have h4:=hp 4 (by simp);have h6:=hp 6 (by simp);simp only[lY]at h2 h4 h6;rw[h2,h4,h6];have hss:=yc (nz 504);go_wp2;exact⟨_,rfl,aB.refl _,rfl⟩
     | 11,_=>
      cases ho;simp only[ak,Act.put,aA];have h9:=hp 9 (by simp);have h10:=hp 10 (by simp);simp only[lY]at h9 h10;rw[h9,h10];have hcc:=wO.out w' hgB;go_wp2_with fail;refine hcc.mono ?_;rintro e wz ⟨rfl,hy⟩;obtain rfl:w'=wz:=hy.symm;go_wp2;exact⟨_,rfl,aB.refl _,rfl⟩
     | 15,_=>
      cases ho;simp only[ak,Act.put,aA];have dH:=hp 14 (by simp);simp only[lY]at dH;rw[dH];go_wp2_with fail;refine(Jz _).mono ?_;rintro e wz ⟨rfl,hb⟩;go_wp2;exact⟨_,rfl,aB.bK ⟨hb.os,hb.tape,hb.output,hb.size,hb.block⟩,rfl⟩
     | (q+18),hq=>exact absurd hq (by omega)
    intro vS lo hi w10 hg hp hd;have hP:=fun j hj=>(hp j hj).2.2.2;have h0:=hP 0 (by decide);have h1:=hP 1 (by decide);have h2:=hP 2 (by decide);have h3:=hP 3 (by decide);have h4:=hP 4 (by decide);have h5:=hP 5 (by decide);have h6:=hP 6 (by decide);have h7:=hP 7 (by decide);have h8:=hP 8 (by decide);have h9:=hP 9 (by decide);have h10:=hP 10 (by decide);have h11:=hP 11 (by decide);have h12:=hP 12 (by decide);have h13:=hP 13 (by decide);have dH:=hP 14 (by decide);have h15:=hP 15 (by decide);have h16:=hP 16 (by decide);have h17:=hP 17 (by decide);clear hP;simp only[lY]at h0 h1 h2 h3 h4 h5 h6 h7 h8 h9 h10 h11 h12 h13 dH h15 h16 h17;clear hp hd;have hsz:=hg.size;replace hB:=hB.trans (hg.below (fun k hk=>⟨by omega,fun o=>by rintro⟨j,_,hw⟩;exact False.elim hw⟩));have hr:List.range 18=[0,1,2,3,4,5,6,7,8,9,10,11,12,13,14,15,16,17]:=rfl;rw[hr];clear hr;simp only[List.drop_succ_cons,List.drop_zero,List.drop_nil,ak,Act.put,aA,h0,h1,h2,h3,h4,h6,h7,h8,h9,h10,h11,h12,h13,dH,h15,h16,h17];clear h0 h1 h2 h3 h4 h6 h7 h8 h9 h10 h11 h12 h13 dH h15 h16 h17;go_wp2_with fail;go_ret;exact⟨rfl,Si.out.trans (hB.mono Si.out.size)⟩
end Go.Proofs.YtpajagkhmodbnaaGreat

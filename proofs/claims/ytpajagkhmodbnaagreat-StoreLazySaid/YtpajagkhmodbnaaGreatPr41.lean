/- Pr: texts of the store seat laid together by program: SvLaw Frame2 SvSto2 SvWrite0 SvArea. Conditions: each theorem names its own. -/
import Derived.Test.YtpajagkhmodbnaaGreatPr40
import Derived.Test.YtpajagkhmodbnaaGreatPr23
import Derived.Test.YtpajagkhmodbnaaGreatPr20
import Derived.Test.YtpajagkhmodbnaaGreatPr0
import Derived.Lib.SlBytesConst
import Derived.Test.YtpajagkhmodbnaaGreatRows
import Derived.ProofKit
import Derived.OpenShut
import Derived.JoinedCond
import Derived.Deep.Slices
import Derived.Deep.Fields
import Derived.ChangeSame
import Derived.Lib.SmallJoins
namespace Go.Proofs.YtpajagkhmodbnaaGreat
set_option maxRecDepth 100000
set_option maxHeartbeats 6400000
open Lib(hid)
set_option linter.unusedSimpArgs false
set_option linter.unusedVariables false
section
open Go.RowKit
theorem aaA(w:World)(C:Array Value)(t:TypeId)(fr:Nat×Nat)(j:Nat):(w.alloc (.cells C t fr)).cell? ⟨w.heap.size,j,none⟩=C[j]? := World.cell?_alloc_mark w C t fr j
theorem Yn(w:World)(l:List UInt8)(t:TypeId)(fr:Nat×Nat)(n:Nat)(hn:l.length=n):Reads 1 (w.alloc (.cells (l.map B).toArray t fr)) (.slice (some ⟨w.heap.size,0,none⟩) n n) n (l.map B):=
 ⟨_,_,rfl,by rw[List.length_map,hn,Nat.mul_one],Nat.le_refl _,fun _=>⟨w.heap.size,0,rfl,by simp,fun j u hu=>by
  rw[Nat.zero_add,aaA,List.getElem?_toArray];exact hu⟩⟩
def yU:Cf:=Cf.of 512
def aw0:St:=St.new 512 64
def MJ:St:=(aw0.begin_ yU).2.2
def awX:Tx:=⟨1,1,1,[]⟩
def VE:St:=(MJ.write yU 0 awX 0 0 [97,98]).2
def acS:Tx:=VE.opn.headD awX
def aw3:St:=(VE.rollback yU 0 acS).2
def aw4:St:=(aw3.get yU 0).2.2
theorem afP:aw0.next=1:=by kernel_rfl
theorem akZ:MJ.opn[0]? = some awX:=by kernel_rfl
theorem amd:VE.opn[0]? = some acS:=by kernel_rfl
theorem ame:acS.id=1:=by kernel_rfl
theorem acT:aw3.bytes yU 0 0 2=[0,0]:=by kernel_rfl
theorem aaC:aw4.opn=[]:=by kernel_rfl
theorem aaD:aw4.lines.length=5:=by kernel_rfl
theorem ak0:aw4.lines.map (fun x=>(x.1,x.2.kind))=[(1,1),(97,2),(197,5),(293,3),(391,6)]:=by kernel_rfl
theorem afQ:MJ.busy 1 0 0 2=false:=by kernel_rfl
theorem Yo:MJ.p.wr=0/\VE.p.wr=0/\aw3.p.wr=0:=⟨by kernel_rfl,by kernel_rfl,by kernel_rfl⟩
theorem acU(E:List Le)(h:(E.map (fun e=>(e.aN,e.r))).map (fun x:Nat×Rc=>(x.1,x.2.kind))=[(1,1),(97,2),(197,5),(293,3),(391,6)]):(fA E)[0]? = some (.int .i64 1)/\(fA E)[49]? = some (.int .i64 6):=by
 rw[List.map_map]at h;have hl:=congrArg List.length h;rw[List.length_map]at hl
 match E,hl with
 | [a,b,c,d,e],_=>
  simp only[List.map_cons,List.map_nil,Function.comp,List.cons.injEq,Prod.mk.injEq,and_true]at h;obtain⟨⟨h1,_⟩,_,_,_,⟨_,h2⟩⟩:=h;refine⟨?_,?_⟩
  ·show some (Value.int .i64 (a.aN:Nat))=_;rw[h1];rfl
  ·show some (Value.int .i64 (e.r.kind:Nat))=_;rw[h2];rfl
theorem Jz(w:World):Calls Tryz.prog 18 #[] w fun e w'=>e=.returned (.bool true)/\Below w.heap.size w w':=by
 have HO:=hid (MI w w (Below.refl _ _) 512 64 (by decide) (by decide) (by decide) (by decide));go_enter Tryz.func18,Tryz.ntmps18;go_wp2_with fail;refine HO.out.mono ?_;rintro e y1 ⟨A,S1,rfl,hnf,hsv,hsd,hS,hbl⟩;have hf0:Fine yU 0 0 aw0:=Tq 512 64 (by decide);have HB:=hid (QV (σ:=aw0) (c:=yU) hsv hf0 (by decide) (by decide));have Df:Hid (Fine yU 1 288 MJ):=hid (hf0.begin (by decide));have ari:Hid (fG yU 64 MJ (fun _=>nz 504)):=hid (by
  unfold MJ;rw[Bq aw0 yU (by decide +kernel)];exact hsd.congr rfl rfl)
 rw[afP]at HB;clear hnf hsv hsd hS hbl hf0 HO;go_wp2_with fail;refine HB.out.mono ?_;rintro e y2 ⟨S2,rfl,hsv,hft⟩;have ak1:Hid (SV w A yU MJ S2 y2):=hid hsv;clear hsv hft HB;have HW:Hid (∀y3:World,Below y2.heap.size y2 y3->∀g,Reads 1 y3 (.slice (some ⟨g,0,none⟩) 2 2) 2 ([97,98].map B)->y2.heap.size<=g->g<y3.heap.size->Calls Tryz.prog 31 #[.pointer (some ⟨A.sb,0,none⟩),.int .i64 1,.int .i64 0,.int .i64 0,.slice (some ⟨g,0,none⟩) 2 2] y3 fun er w'=>∃S',er=.returned (.int .i64 0)/\SV w A yU VE S' w'/\aG S2 S' y3 w'):=hid (fun y3 hbl g hrd hg hgl=>by
  have hs:=ak1.out.below hbl;exact QW hs Df.out (by decide) (by rw[Yo.1];decide) akZ 0 0 [97,98] (some ⟨g,0,none⟩) 2 2 hrd rfl (by decide) (by decide) afQ (fun q e=>by
   have e2:g=q:=(by simpa[Value.ownBlock]using e)
   subst e2;exact⟨fun hS=>by have:=(ak1.out.lt g hS).2;omega,hgl⟩) (by decide))
 have HF2:Hid (Fine yU 4 486 VE):=hid (Df.out.write (Cf.NS 512 (by decide)) ari.out akZ 0 0 [97,98] (by decide) (by decide) (by decide)).2.1;have hcv:=fun(w:World) (C:Array Value) (n:Nat)=>Lib.run_convert_bytes_const (P:=Tryz.prog) w 48 5 C n n Tryz.underlying48 Tryz.underlying5;go_wp2_with fail;refine(HW.out _ ((Below.refl y2.heap.size y2).alloc (Nat.le_refl _) _) _ (Yn y2 [97,98] _ _ 2 rfl) (Nat.le_refl _) (by simp)).mono ?_;rintro e y4 ⟨S4,rfl,hsv,hft⟩;have hrb:=Ue hsv HF2.out (by decide) (by rw[Yo.2.1];decide) amd;rw[ame]at hrb;have fK:Hid (Calls Tryz.prog 30 #[.pointer (some ⟨A.sb,0,none⟩),.int .i64 1] y4 fun er w'=>∃S',er=.returned (.int .i64 0)/\SV w A yU aw3 S' w'/\aG S4 S' y4 w'):=hid hrb;clear hsv hft hrb HW;go_wp2_with fail;refine fK.out.mono ?_;rintro e y5 ⟨S5,rfl,hsv,hft⟩;have hrd:=Vf hsv 0 0 2 (by decide) (by decide) (by rw[Yo.2.2];decide);rw[acT]at hrd;have jD:Hid (Calls Tryz.prog 38 #[.pointer (some ⟨A.sb,0,none⟩),.int .i64 0,.int .i64 0,.int .i64 2] y5 fun er w'=>∃v S',er=.returned (.tuple #[v,.int .i64 0])/\w'.ownsRow y5.heap.size 5 1 v 2 (([0,0]:List UInt8).map B)/\([0,0]:List UInt8).length=2/\(∀q,v.ownBlock=some q->¬S' q)/\SV w A yU aw4 S' w'/\aG S5 S' y5 w'):=hid hrd;clear hsv hft hrd fK;go_wp2_with fail;refine jD.out.mono ?_;rintro e y6 ⟨v6,S6,rfl,hrow,_,_,hsv,hft⟩;have HR6:=hid (Reads.aY hrow);clear hrow hft jD;obtain⟨vl,vo,EL,EO,K,S1,hat,rfl⟩:=hsv;have hEL:EL.length=5:=by rw[<-aaD,hat.lZ,List.length_map]
 have hEO:EO.length=0:=by have:=hat.JQ;rw[aaC]at this;exact this.symm
 have HL:=hid (ais hat (by rw[hEL];decide));have HAT:=hid hat;clear hat hEL;go_wp2_with fail;refine HL.out.mono ?_;rintro e y7 ⟨v7,EL7,K7,rfl,SQ,amf,ae2,hK7,hb7⟩;rw[aaD]at SQ;obtain⟨ha,hb⟩:=acU EL7 (ae2▸ak0);obtain⟨a7,c7,rfl,hl7,hc7,eY⟩:=SQ;obtain⟨b7,o7,rfl,au2,hc⟩:=eY (by decide);have z0:=hc 0 _ ha;have z49:=hc 49 _ hb;rw[Nat.add_zero]at z0;obtain⟨a6,c6,e6,_⟩:=HR6.out;have hR6:=HR6.out;rw[e6]at hR6;have arj:Reads 1 y7 (.slice a6 2 c6) 2 (([0,0]:List UInt8).map B):=hR6.below hb7 (Nat.le_refl _);have HN:Hid (∀y8:World,Below y6.heap.size y6 y8->∀v,Calls Tryz.prog 31 #[.pointer (some ⟨A.sb,0,none⟩),.int .i64 9,.int .i64 0,.int .i64 0,v] y8 fun er w'=>er=.returned (.int .i64 61)/\w'=y8):=hid (fun y8 h8 v=>
  WX (HAT.out.below h8) (by rw[hEO];decide) 9 0 0 v (by unfold St.of;rw[aaC];rfl))
 have HP:Hid (∀y8:World,Below y6.heap.size y6 y8->Calls Tryz.prog 22 #[.pointer (some ⟨A.sb,0,none⟩)] y8 fun e w'=>e=.returned (.int .i64 94)/\w'=y8):=hid (fun y8 h8=>Dz (HAT.out.below h8));have jo:=hid hb7;have HBY:Hid (Below w.heap.size w y6):=hid HAT.out.bel;clear HL hR6 eY hl7 ha hb ae2 amf hK7 hb7 hc hEO;go_wp2_with fail;refine(BF y7 128 (by decide) (by decide)).mono ?_;rintro e y8 ⟨rfl,rfl⟩;rw[show BD 128=(32,22)from rfl];have hstr:(convert 48 9 (.slice a6 2 c6)).run Tryz.prog y8=.ok (.string ⟨#[0,0]⟩) y8:=dJ Tryz.underlying48 Tryz.underlying5 Tryz.underlying9 [0,0] arj;go_wp2_with fail;refine(HN.out _ (jo.out.trans (((Below.refl y8.heap.size y8).alloc (Nat.le_refl _) _).mono jo.out.size)) _).mono ?_;rintro e y9 ⟨rfl,rfl⟩;go_wp2_with fail;refine(HP.out _ (jo.out.trans (((Below.refl y8.heap.size y8).alloc (Nat.le_refl _) _).mono jo.out.size))).mono ?_;rintro e y9 ⟨rfl,rfl⟩;go_wp2_with fail;go_ret;exact⟨rfl,HBY.out.trans ((jo.out.trans (((Below.refl y8.heap.size y8).alloc (Nat.le_refl _) _).mono jo.out.size)).mono HBY.out.size)⟩
end
section
open Go.ChangeShapes Go.WideShapes Go.ChangeAt Go.RowKit Go.Deep Go.Joins
theorem own:ownKnob Tryz.prog.godebug=none:=by kernel_rfl
theorem laidOut:laidOutB Tryz.prog=true:=by kernel_rfl
section
variable{H:Type}{enc:TypeId×Value->H}{P:Program}{w:World}{base:Nat}{spare:Nat->Bool}{held:Bool}
theorem aaw{t e:TypeId}{fs:Array Field}{fuel:Nat}{cs:List Value}{x:DataW H×List MemPlace}(ht:P.underlying t=some (.slice e))(he:P.underlying e=some (.struct fs))
  (hone:oneCellFields P fs=true) (hC:P.cellsOf e=fs.size) (h:DataW.trod enc P w base spare held fuel t cs=some x):
  (cs=[.slice none 0 0]/\x=(.nil,[]))\/
  ∃ (a:Addr) (len cap m:Nat) (D:Nat->DataW H) (Pl:Nat->List MemPlace),cs=[.slice (some a) len cap]/\base<=a.block/\len<=cap/\cap<=maxLen/\m=(if spare a.block then cap else len)/\
   x=(.slice ((List.range len).map D) ((List.range (m-len)).map fun j=>D (len+j)),MemPlace.row a (m*fs.size)++(List.range m).flatMap Pl)/\
   ∀i,i<m->∃(ys:List (DataW H×List MemPlace))(n:Nat),D i=.agg (ys.map (·.1))/\Pl i=ys.flatMap (·.2)/\ys.length=fs.size/\
    ∀(j:Nat)(f:Field),fs[j]? = some f->∃(v:Value)(y:DataW H×List MemPlace),w.cell? (a.add (i*fs.size+j))=some v/\ys[j]? = some y/\DataW.trod enc P w base spare held n f.type [v]=some y:=by
 rcases open_slice ht h with h0|⟨a,len,cap,m,n,D,Pl,hcs,hb,hl,hm,hmm,hx,hi⟩
 ·exact .inl h0
 ·refine .inr ⟨a,len,cap,m,D,Pl,hcs,hb,hl,hm,hmm,by rw[hC]at hx;exact hx,fun i him=>?_⟩;obtain⟨cs',hc,ht'⟩:=hi i him;rw[hC]at hc;obtain⟨ys,n',hn',hy,hlen,hyl,hf⟩:=DataW.trod_struct he ht';obtain⟨_,hcl,hat⟩:=World.cells?_some hc;simp only[Prod.mk.injEq]at hy;refine⟨ys,n',hy.1,hy.2,hyl,fun j f hj=>?_⟩;obtain⟨ho,hk⟩:=hone_of hone j f hj;have hjl:j<fs.size:=(Array.getElem?_eq_some_iff.1 hj).1;have hcell:=hat j hjl;have hv:cs'[j]? = some (cs'[j]'(by omega)):=List.getElem?_eq_getElem (by omega);have h1:=hf j f hj;rw[ho,hk]at h1;have hone':(cs'.drop j).take 1=[cs'[j]'(by omega)]:=by
   rw[List.drop_eq_getElem_cons (by omega)];rfl
  rw[hone']at h1;have hys:ys[j]? = some (ys[j]'(by omega)):=List.getElem?_eq_getElem (by omega);refine⟨_,_,?_,hys,h1.trans hys⟩;rw[<-Go.Deep.add_add,hcell,hv]
end
theorem Ny{H:Type}{enc:TypeId×Value->H}{P:Program}(hl:laidOutB P=true){W W':World}(hb:Below W.heap.size W W'):
  ∀{ts:List TypeId}{vs:List Value}{ds:List (DataW H)}{ps:List MemPlace},ts.all (fun t=>P.readableRec t&&decide (t<P.types.size))=true->
   DataW.TrodAll enc P W 0 (fun _=>true) true ts vs ds ps->(∀x∈ps,x.block<W.heap.size)->
   DataW.TrodAll enc P W' 0 (fun b=>decide (b<W.heap.size)) true ts vs ds ps:=by
 intro ts
 induction ts with
 | nil=>
  intro vs ds ps _ h _;obtain⟨rfl,rfl,rfl⟩:=trodAll_nil h;exact trodAll_mk0
 | cons t ts ih=>
  intro vs ds ps hr h hlt;simp only[List.all_cons,Bool.and_eq_true,decide_eq_true_eq]at hr;obtain⟨v,vs',d,ds',p,q,rfl,rfl,rfl,h0,r0⟩:=trodAll_cons h;exact⟨p,q,Below.trod hl hr.1.1 hr.1.2 h0 hb (fun x hx=>hlt x (List.mem_append_left _ hx)),ih hr.2 r0 (fun x hx=>hlt x (List.mem_append_right _ hx)),rfl⟩
theorem acV{H:Type}{enc:TypeId×Value->H}{P:Program}{f:Func}{s:ChangeSpec}{W W':World}{args:Array Value}{ds gs:List (DataW H)}{before:List MemPlace}{tb:TypeId}
  (hl:laidOutB P=true) (hr:f.params.toList.all (fun t=>P.readableRec t&&decide (t<P.types.size))=true) (hres:f.resultTypes=#[tb]) (hb:P.underlying tb=some .bool)
  (hvars:s.vars=[]) (hfn:s.fn H (ds++[])={ results:=[.lit (.bool true)],args:=ds })
  (hW:DataW.Whole enc P f.params.toList s.vars false W args.toList ds gs before) (hbel:Below W.heap.size W W'):
  s.post enc P f false true false false W args (.bool true) W':=by
 have hW':=hW;obtain⟨p,q,hA,hV,rfl,_,_⟩:=hW;rw[hvars]at hV;obtain⟨rfl,rfl⟩:=trodVars_none hV;have hlt:∀x∈p,x.block<W.heap.size:=fun x hx=>hW'.lt x (List.mem_append_left _ hx);refine⟨ds,[],_,[],p,[],hW',?_,?_,?_,hbel.frame _,fun h=>by cases h⟩
 ·rw[hfn,hres];exact trodAll_cons_mk (shut_bool hb true) trodAll_mk0
 ·rw[hfn];exact Ny hl hbel hr hA hlt
 ·rw[hfn,hvars];rfl
theorem wf_i64{n:Int}(h:(Lit.int .i64 n).wf=true) : -9223372036854775808<=n/\n<=9223372036854775807:=by
 simpa[Lit.wf,IntKind.min,IntKind.max,IntKind.signed,IntKind.bits]using h
end
section
open Go.RowKit
end
section
open Go.RowKit
theorem aaE(σ:St)(t:Int)(p off:Nat):σ.busy t p off 0=false:=by
 unfold St.busy;rw[List.any_eq_false];intro x _;simp[hits]
section
variable{W0 w w':World}{A:bG}{c:Cf}{σ:St}{S:Nat->Prop}{vl vo:Value}{EL:List Le}{EO:List Te}{K S1:Nat->Prop}{X:Nat->Prop}
theorem aaF(h:aP W0 w A c σ vl vo EL EO K S1)(hn:EO.length<=1000000)(hr:mQ EO<=1099511627776)(hu:TxB EO)(i:Nat)(e:Te)(hof:σ.of (e.x.id:Int)=some i)(jI:EO[i]? = some e)
  (p off:Nat) (ab:Option Addr) (cb:Nat) (hpg:p<c.pg) (hoff:off<=504) (lS:e.x.id<=1099511627776) (hla:e.x.last<=1099511627776) (hpp:c.pg<=1099511627776)
  (hwr:σ.p.wr+2<=1000000000):
  Calls Tryz.prog 31 #[.pointer (some ⟨A.sb,0,none⟩),.int .i64 (e.x.id:Nat),.int .i64 (p:Nat),.int .i64 (off:Nat),.slice ab 0 cb] w fun er w'=>∃S',er=.returned (.int .i64 0)/\SV W0 A c (σ.write c i e.x p off []).2 S' w'/\aG (aO S1 vl vo EO K) S' w w':=by
 have HN:=hid hn;have HR:=hid hr;have HU:=hid hu;have lU:=hid jI;have lN:=hid hpg;have Qn:=hid hpp;have nK:=hid hwr;have HS:=hid h;have Qo:=hid hoff;have c9:=h.bC.cell 9 _ rfl;have bU:=h.bC.lt;have hcall:=ND h (e.x.id:Int) (Nat.le_trans hn (by decide));have Ap:=hid hcall;have qh:=hid hof;have oH:=DJ h (p:Int) (off:Int) ((0:Nat):Int);rw[decide_eq_true (show _ from⟨by omega,by omega,by omega,by omega,by omega,by omega⟩)]at oH;have Ll:=hid oH;have oz:=U1 h (Nat.le_trans hn (by decide)) (fun e he=>⟨Nat.le_trans (hu e he).1 (by decide),fun u hq=>Nat.le_trans ((hu e he).2 u hq) (by decide)⟩) (e.x.id:Int) p off 0 (by omega) (by omega);rw[aaE]at oz;have Qp:=hid oz;obtain⟨id,G5⟩:∃x,e.x.id=x:=⟨_,rfl⟩
 rw[G5]at Ap qh Qp lS⊢;have oD:=hid G5;clear h hn hr hu jI hpg hpp hwr hof hcall oH oz G5;go_enter Tryz.func31,Tryz.ntmps31;go_wp2_with fail;refine Ap.out.mono ?_;rintro er y0 ⟨⟨v,rfl,hof⟩,hy⟩;obtain rfl:w=y0:=hy.symm;obtain rfl:v=jL e:=by
  rcases hof with ⟨i',e',h1,h2,h3⟩|⟨h1,_⟩
  ·have h0:=qh.out;rw[h1]at h0;obtain rfl:=Option.some.inj h0;have h4:=lU.out;rw[h2]at h4;obtain rfl:=Option.some.inj h4;exact h3
  ·have h0:=qh.out;rw[h1]at h0;cases h0
 clear hof Ap;simp only[jL];go_wp2_with fail;refine Ll.out.mono ?_;rintro er y0 ⟨rfl,hy⟩;obtain rfl:w=y0:=hy.symm;clear Ll;go_wp2_with fail;refine Qp.out.mono ?_;rintro er y1 ⟨rfl,hb1⟩;have HB1:=hid hb1;have hs1:=HS.out.below hb1;have gY:=hid hs1;have c3:=hs1.bC.cell 3 _ rfl;have Qq:=hs1.bC.lt;have hget:=xC hs1 p lN.out (by have:=nK.out;omega);have HG:=hid hget;clear hb1 hs1 hget c9 bU Qp;go_wp2_with fail;refine HG.out.mono ?_;rintro er y2 ⟨g,k,S2,rfl,hrow,hgg,hkk,pI,hs2,hf2⟩;obtain⟨yA,yB⟩:∃x,(σ.get c p).2.1=x:=⟨_,rfl⟩
 rw[yB]at hrow;have HPB:=hid yB;have gZ:=hid hrow;have lD:=hid hgg;have HKK:=hid hkk;have FK:=hid pI;have HS2:=hid hs2;have HF2:=hid hf2;have hz0:Reads 1 y2 (.slice ab 0 cb) 0 (([]:List UInt8).map B):=⟨_,_,rfl,rfl,Nat.zero_le _,fun h=>absurd h (by omega)⟩
 have HB2:=hid hf2;clear hrow hgg pI hs2 hf2 yB c3 Qq HG;have abw:=dJ Tryz.underlying48 Tryz.underlying5 Tryz.underlying9 [] hz0;have fin:SV W0 A c (σ.write c i e.x p off []).2 (aO S2 vl vo EO K) y2/\aG (aO S1 vl vo EO K) (aO S2 vl vo EO K) w y2:=by
  refine⟨⟨vl,vo,EL,EO,K,S2,?_,rfl⟩,(aG.below (aC HB1.out)).trans (iY HF2.out)⟩;have e0:(σ.get c p).1=0:=(σ.iV c p lN.out).1;have e1:(σ.write c i e.x p off []).2=(σ.get c p).2.2:=by
   unfold St.write;simp only[];rw[if_neg (by rw[e0];simp),if_pos (by simp)]
  rw[e1];exact HS2.out
 have FIN:=hid fin;clear fin;have hz1:Reads 1 y2 (.slice (some ⟨g,0,none⟩) 0 0) 0 (([]:List UInt8).map B):=⟨_,_,rfl,rfl,Nat.le_refl _,fun h=>absurd h (by omega)⟩
 have hz2:Reads 1 y2 (.slice (some ⟨g,8+off,none⟩) 0 (k-(8+off))) 0 (([]:List UInt8).map B):=⟨_,_,rfl,rfl,Nat.zero_le _,fun h=>absurd h (by omega)⟩
 have apB:=dJ Tryz.underlying48 Tryz.underlying5 Tryz.underlying9 [] hz1;have yC:=dJ Tryz.underlying48 Tryz.underlying5 Tryz.underlying9 [] hz2;have hss:=yc [];clear hz1 hz2 hz0;go_wp2_with fail
 all_goals (go_wp2_with fail;go_ret;first|exact⟨rfl,_,FIN.out.1,FIN.out.2⟩|exact⟨_,rfl,FIN.out.1,FIN.out.2⟩)
end
end
section
open Go.RowKit
def aal(W:Nat->List UInt8):Nat->List UInt8
 | 0=>[]
 | n+1=>aal W n++W n
theorem ac7{W:Nat->List UInt8}:∀{n:Nat},(∀q,q<n->(W q).length=504)->(aal W n).length=504*n
 | 0,_=>rfl
 | n+1,h=>by rw[aal,List.length_append,ac7 (fun q hq=>h q (by omega)),h n (by omega)];omega
theorem af8(a b:List UInt8):((⟨a.toArray⟩:ByteArray)++(⟨b.toArray⟩:ByteArray))=(⟨(a++b).toArray⟩:ByteArray):=by
 apply ByteArray.ext;rw[ByteArray.data_append];simp
end
end Go.Proofs.YtpajagkhmodbnaaGreat

/- Pr: texts of the store seat laid together by program: DvCopy DvRead DvClone DvWrite DvLay. Conditions: each theorem names its own. -/
import Derived.Test.YtpajagkhmodbnaaGreatPr6
import Derived.Test.YtpajagkhmodbnaaGreatPr3
import Derived.Test.YtpajagkhmodbnaaGreatPr4
import Derived.Laws.CopyOwn
namespace Go.Proofs.YtpajagkhmodbnaaGreat
set_option maxRecDepth 100000
set_option maxHeartbeats 3200000
open Lib(hid)
set_option linter.unusedSimpArgs false
set_option linter.unusedVariables false
section
open Go.RowKit
def Buf(w:World)(g:Nat)(l:List UInt8):Prop:=w.heap[g]? = some (.cells (l.map B).toArray 5 (0,0))
theorem Buf.lt{w:World}{g:Nat}{l:List UInt8}(h:Buf w g l):g<w.heap.size:=by
 unfold Buf at h;exact(Array.getElem?_eq_some_iff.1 h).1
theorem Buf.aH{X:Nat->Prop}{w w':World}{g:Nat}{l:List UInt8}(h:Buf w g l)(hg:aj X w w')(hX:¬X g):Buf w' g l:=by
 have:=hg.block g h.lt hX;unfold Buf at *;rw[this];exact h
theorem bytesOf:SliceOf Tryz.prog 48 5 (.int .u8 0) 1 1:=⟨Tryz.underlying48,by kernel_rfl,rfl,by decide⟩
def Ie(cur l:List UInt8):List UInt8:=if l=[] then cur else l
theorem yX{w:World}{ops:Array Oper}{rest:List Oper}{o:Oper}{a:Act}{Q:Exit->Act->World->Prop}(hgd:o.guard=none)(d s:Operand)
  (ho:o.op=.call { callee:=.builtin .copy,args:=#[d,s],argTypes:=#[48,48] })
  (g c:Nat) (cur l:List UInt8) (v:Value) (hd:a.eval d=.slice (some ⟨g,0,none⟩) 128 c) (hs:a.eval s=v) (hb:Buf w g cur) (hc:cur.length=128) (hv:Reads 1 w v l.length (l.map B)) (hl:l=[]\/l.length=128)
  (h:∀w' n,Buf w' g (Ie cur l)->aj (fun k=>k=g) w w'->wpList Tryz.prog ops Q rest (a.put o.dst (goInt n)) w'):wpList Tryz.prog ops Q (o::rest) a w:=by
 obtain⟨ao,cp,rfl,_,_,hr⟩:=hv;rcases hl with rfl|hl
 ·exact wpList_copy_nothing hgd d s 48 48 ho 5 Tryz.underlying48 (by kernel_rfl) _ ao 128 c 0 cp hd hs rfl (h w 0 (by simpa[Ie]using hb) (aj.refl w))
 ·obtain⟨b,of,rfl,hbl,hcell⟩:=hr (by omega);rw[hl]at hs;have hne:¬l=[]:=fun e=>by rw[e]at hl;cases hl
  refine wpList_copy_own hgd d s 48 48 ho 5 Tryz.underlying48 (by kernel_rfl) g 0 128 c ⟨b,of,none⟩ 128 cp hd hs _ _ hb (l.map B) (by rw[List.length_map,hl];rfl) (fun j u hu=>by rw[Addr.add_lit];exact hcell j u hu) (by simp[hl,hc]) (eU l) ?_;have e:(((cur.map B).toArray.toList.take 0++(l.map B++(cur.map B).toArray.toList.drop (0+(l.map B).length)))).toArray=(l.map B).toArray:=by
   simp[hl,hc]
  rw[e];refine h _ _ ?_ ?_
  ·unfold Ie;rw[if_neg hne];exact setRow_heap w g _ _ _ _ hb
  ·exact⟨rfl,rfl,rfl,by simp[World.setRow],fun k hk hx=>setRow_other w g k _ hx⟩
def uf:Array Value:=(dB.map B).toArray
theorem JG(w:World):(Instr.makeSlice 48 (.int .i64 128) (.int .i64 128)).run Tryz.prog w=.ok (.slice (some ⟨w.heap.size,0,none⟩) 128 128) (w.alloc (.cells uf 5)):=by
 obtain⟨i0,hi,hz0,hz1,hz2⟩:=info_parts (P:=Tryz.prog) (e:=5) (z:=.int .u8 0) (size:=1) (bytes:=1) (by kernel_rfl);have h:=run_make (P:=Tryz.prog) w 48 5 i0 (.int .u8 0) Tryz.underlying48 hi hz0 .i64 .i64 128 128 (by decide) (by decide) (by rw[hz2];decide) (by decide);rw[h,hz1];have e:madeCells (Value.int .u8 0).cells (Int.toNat 128*1)=uf:=by
  apply Array.ext';have e1:=toList_madeCells_one (.int .u8 0) 128;show(madeCells #[.int .u8 0] 128).toList=_;rw[e1];unfold uf dB;simp only[List.map_replicate];rfl
 rw[e];rfl
theorem Buf.zero(w:World):Buf (w.alloc (.cells uf 5)) w.heap.size dB:=by
 unfold Buf World.alloc;simp[uf]
end
section
open Go.RowKit
theorem Reads.at{w:World}{v:Value}{n:Nat}{xs:List Value}(h:Reads 1 w v n xs)(k:Nat)(hk:k<n)(u:Value)(hu:xs[k]? = some u):
  ∃b o c,v=.slice (some ⟨b,o,none⟩) n c/\b<w.heap.size/\n<=c/\w.cell? ⟨b,o+k,none⟩=some u:=by
 obtain⟨ao,c,rfl,hl,hc,hr⟩:=h;obtain⟨b,o,rfl,hb,hcell⟩:=hr (by omega);exact⟨b,o,c,rfl,hb,hc,hcell k u hu⟩
theorem Reads.shape{K:Nat}{w:World}{v:Value}{n:Nat}{xs:List Value}(h:Reads K w v n xs):∃a c,v=.slice a n c:=by
 obtain⟨a,c,e,_⟩:=h;exact⟨a,c,e⟩
theorem Uu{w:World}{base e K n:Nat}{v:Value}{xs:List Value}(h:w.ownsRow base e K v n xs):n<=9223372036854775807:=by
 rcases h.2 with ⟨_,rfl⟩|⟨g,cap,cur,_,_,_,hnc,hcm,_⟩
 ·omega
 ·unfold maxLen at hcm;omega
theorem wW(i:Nat)(c:List (Nat×List UInt8))(x:Nat×List UInt8)(b:List UInt8):kK i (c++[x]) b=if x.1=i then x.2 else kK i c b:=by simp[kK,List.foldl_append]
theorem KJ{i:Nat}{c:List (Nat×List UInt8)}{b:List UInt8}(hb:b.length=128)(hc:∀x∈c,x.2.length=128):(kK i c b).length=128:=by
 induction c generalizing b with
 | nil=>exact hb
 | cons x r ih=>
  refine ih ?_ (fun y hy=>hc y (List.mem_cons_of_mem _ hy));show(if x.1=i then x.2 else b).length=128;split
  ·exact hc x (List.mem_cons_self ..)
  ·exact hb
theorem N8{s:List UInt8}(h:s=[]\/s.length=128):(kX s).length=128:=by
 unfold kX;split
 ·simp[dB]
 ·rename_i hn;exact h.resolve_left hn
theorem Dv.je{D:Dv}(h:D.ok){i:Nat}(hi:i<D.l.length):(D.sec i).length=128:=by
 refine KJ (N8 ?_) (fun x hx=>(h.c x hx).2);rw[List.getD_eq_getElem?_getD,List.getElem?_eq_getElem hi];exact h.l _ (List.getElem_mem hi)
theorem Ces.at{w:World}{v:Value}{n:Nat}{l:List Ce}(h:Reads 2 w v n (wB l))(k:Nat)(hk:k<n)(e:Ce)(hu:l[k]? = some e):
  ∃b o c,v=.slice (some ⟨b,o,none⟩) n c/\b<w.heap.size/\n<=c/\w.cell? ⟨b,o+k*2,none⟩=some (.int .i64 (e.1:Int))/\w.cell? ⟨b,o+k*2+1,none⟩=some e.2.2:=by
 obtain⟨ao,c,rfl,hl,hc,hr⟩:=h;obtain⟨b,o,rfl,hb,hcell⟩:=hr (by omega);obtain⟨h1,h2⟩:=ae7 l k e hu;exact⟨b,o,c,rfl,hb,hc,hcell _ _ h1,hcell _ _ h2⟩
theorem ug{W0 w:World}{d:Nat}{D:Dv}{S:Nat->Prop}(h:DV W0 d D S w)(kL:D.dead=false)(i:Nat)(hi:i<D.l.length):
  Calls Tryz.prog 35 #[.pointer (some ⟨d,0,none⟩),.int .i64 (i:Nat)] w fun e w'=>∃g,e=.returned (.tuple #[.slice (some ⟨g,0,none⟩) 128 128,.int .i64 0])/\DV W0 d { D with calls:=iw D.calls } S w'/\Buf w' g (D.sec i)/\w.heap.size<=g/\aj (fun k=>k=d) w w':=by
 obtain⟨vl,vc,EL,EC,K,h1,h2,h3,rfl⟩:=h;have hln:D.l.length=EL.length:=by rw[h1.lZ,List.length_map]
 obtain⟨nl,hnl⟩:∃n,EL.length=n:=⟨_,rfl⟩
 obtain⟨nc,hnc⟩:∃n,EC.length=n:=⟨_,rfl⟩
 have hiL:i<EL.length:=by omega
 have hinl:i<nl:=by omega
 have aug:nl<=8192:=by have:=h1.ok.n;omega
 -- the sector as it lies
 have hsl:=h1.N7 EL[i] (List.getElem_mem hiL);have afZ:EL[i].1=[]\/EL[i].1.length=128:=h1.ok.l _ (by rw[h1.lZ];exact List.mem_map_of_mem (List.getElem_mem hiL));have hrl:=Reads.aY h1.nH;obtain⟨b,o,cl,ev,hbl,hcl,hce⟩:=Reads.at hrl i hiL EL[i].2 (by rw[List.getElem?_map,List.getElem?_eq_getElem hiL];rfl);have eH:D.sec i=kK i D.c (kX EL[i].1):=by
  unfold Dv.sec;rw[List.getD_eq_getElem?_getD,h1.lZ,List.getElem?_map,List.getElem?_eq_getElem hiL];rfl
 have hbd:b≠d:=(h1.kl b (by rw[ev];rfl)).2.1;obtain⟨ac,cc,CV⟩:=bF h1.pO;have af0:nc<=9223372036854775807:=by have:=Uu h1.pO;omega
 have c0:=h1.box.cell 0 _ rfl;have c1:=h1.box.cell 1 _ rfl;have c3:=h1.box.cell 3 _ rfl;have c4:=h1.box.cell 4 _ rfl;have ff:=h1.box.free;have hlt:=h1.box.lt;generalize EL[i]=x at *;obtain⟨sx,vx⟩:=x;obtain⟨ax,cx,YD⟩:=hsl.1.shape;have HS:=hid hsl;have HE:=hid eH;have HK:=hid afZ;have H1:=hid h1;have H3:=hid h3;obtain⟨ns,hns⟩:∃n,sx.length=n:=⟨_,rfl⟩
 simp only at hce YD;rw[hns]at YD;rw[YD]at hce;rw[ev,hnl]at c0;rw[CV,hnc]at c1;rw[kL]at c3;have Fz:=hid hnc;have xJ:=hid hnl;have CW:=hid hns;have HVX:=hid YD;have HEV:=hid ev;have CX:=hid CV;obtain⟨ca,hca⟩:∃c,D.calls=c:=⟨_,rfl⟩
 rw[hca]at c4;have cO:=hid hca;have hb1:decide ((i:Int)<0)=false:=by simp
 have hb2:decide ((nl:Int)<=(i:Int))=false:=by simp;omega
 have hb3:decide ((i:Int)>=(nl:Int))=false:=by simp;omega
 have hb4:decide (nl<=i)=false:=by simp;omega
 clear h1 h3 hsl eH afZ hrl hln hnl hnc hiL hi kL hns YD ev CV hca hcl;have HD2:Hid (iJ ((w.setCell ⟨d,4,none⟩ (.int .i64 (wrap64 (ca+1)))).alloc (.cells uf 5)) W0.heap.size d { D with calls:=iw D.calls } vl vc EL EC K/\
   aj (fun k=>k=d) w ((w.setCell ⟨d,4,none⟩ (.int .i64 (wrap64 (ca+1)))).alloc (.cells uf 5))):=hid (by
  obtain⟨k1,k2⟩:=Box.set1 H1.out.box 4 (.int .i64 (iw D.calls));have k3:aj (fun k=>k=d) w (w.setCell ⟨d,4,none⟩ (.int .i64 (iw D.calls))):=aj.aK k2 (fun k o h=>h.1);have k4:iJ (w.setCell ⟨d,4,none⟩ (.int .i64 (iw D.calls))) W0.heap.size d { D with calls:=iw D.calls } vl vc EL EC K:=H1.out.put (by exact k1) k3 rfl rfl ⟨H1.out.ok.l,H1.out.ok.c,H1.out.ok.n,H1.out.ok.f1,H1.out.ok.f2⟩;rw[cO.out]at k3 k4;have k5:aj (fun _=>False) (w.setCell ⟨d,4,none⟩ (.int .i64 (iw ca))) ((w.setCell ⟨d,4,none⟩ (.int .i64 (iw ca))).alloc (.cells uf 5)):=aC ((Below.refl _ _).alloc (Nat.le_refl _) _);rw[cO.out];exact⟨k4.grow k5 (fun h=>h) (fun _ _ h=>h) (fun _ _ h=>h) (fun _ _ h=>h),k3.step k5 (fun _ _ h=>h.elim)⟩)
 have hsz0:(w.setCell ⟨d,4,none⟩ (.int .i64 (wrap64 (ca+1)))).heap.size=w.heap.size:=by simp[World.setCell]
 have HBF:Hid (Buf ((w.setCell ⟨d,4,none⟩ (.int .i64 (wrap64 (ca+1)))).alloc (.cells uf 5)) w.heap.size dB):=hid (by
  have:=Buf.zero (w.setCell ⟨d,4,none⟩ (.int .i64 (wrap64 (ca+1))));rw[hsz0]at this;exact this)
 have HRV:Hid (Reads 1 ((w.setCell ⟨d,4,none⟩ (.int .i64 (wrap64 (ca+1)))).alloc (.cells uf 5)) (.slice ax ns cx) sx.length (sx.map B)):=hid (by
  have:=(HS.out.grow HD2.out.2 (fun k hk e=>H1.out.kd (e▸hk))).1;rw[HVX.out]at this;exact this)
 have yY:Hid (w.heap.size≠d/\(∀q,vl.ownBlock=some q->¬q=w.heap.size)/\(∀q,vc.ownBlock=some q->¬q=w.heap.size)/\∀q,K q->¬q=w.heap.size):=hid ⟨by omega,fun q e=>by have:=(H1.out.nH.lt q e).2;omega,fun q e=>by have:=(H1.out.pO.lt q e).2;omega,fun q e=>by have:=(H1.out.kin q e).2;omega⟩;have hzl:dB.length=128:=by simp[dB]
 have HZL:=hid hzl;obtain⟨gb,hgb⟩:∃g,w.heap.size=g:=⟨_,rfl⟩
 rw[hgb]at yY;have YE:=hid hgb;have auh:d<gb:=by omega
 have hmk:=JG;clear hzl hgb hsz0;go_enter Tryz.func35,Tryz.ntmps35;go_wp2_with (with_reducible refine yX rfl (.tmp 32) (.tmp 39) rfl w.heap.size 128 dB sx (.slice ax ns cx) ?p1 ?p2 ?p3 ?p4 ?p5 ?p6 ?p7)
 case p3=>exact HBF.out
 case p4=>exact HZL.out
 case p5=>exact HRV.out
 case p6=>exact HK.out
 intro w2 n2 VI fV;rw[YE.out]at VI fV;have YF:Buf w2 gb (kX sx):=VI;have HW2:Hid (iJ w2 W0.heap.size d { D with calls:=iw D.calls } vl vc EL EC K/\aj (fun k=>k=d) w w2):=hid ⟨HD2.out.1.grow fV (fun e=>yY.out.1 e.symm) yY.out.2.1 yY.out.2.2.1 yY.out.2.2.2,HD2.out.2.step fV (fun q hq e=>by rw[YE.out]at hq;omega)⟩;have af4:=hid YF;have c1:=HW2.out.1.box.cell 1 _ rfl;rw[CX.out,Fz.out]at c1;clear c0 c3 c4 ff HD2 HBF HRV VI YF fV hce;rw[YE.out];go_wp2_with fail;go_loopw [46] (fun z wr=>∃j:Nat,j<=nc/\z=.int .i64 j/\iJ wr W0.heap.size d { D with calls:=iw D.calls } vl vc EL EC K/\aj (fun k=>k=d) w wr/\Buf wr gb (kK i (D.c.take j) (kX sx))) (fun z _=>nc-(intOf z).toNat)
 case atStart=>exact⟨0,Nat.zero_le _,rfl,HW2.out.1,HW2.out.2,by simpa[kK]using af4.out⟩
 case round=>
  obtain⟨j,hj,rfl,hat,hgw,hbf⟩:=hrel;have HAT:=hid hat;have FB:=hid hgw;have HBW:=hid hbf;clear hat hgw hbf af4 HW2;by_cases hjn:j<nc
  case neg=>
   have hjb:decide (j<nc)=false:=by simpa using hjn
   go_wp2_with fail;go_ret2;refine⟨gb,rfl,⟨vl,vc,EL,EC,K,HAT.out,h2,?_,rfl⟩,?_,by rw[YE.out];exact Nat.le_refl _,FB.out⟩
   ·exact H3.out.trans (FB.out.below (fun k hk=>⟨Nat.lt_of_lt_of_le hk H3.out.size,fun e=>by omega⟩))
   ·rw[HE.out];have e:D.c.take j=D.c:=List.take_of_length_le (by rw[H1.out.wK,List.length_map,Fz.out];omega);have:=HBW.out;rw[e]at this;exact this
  have hjb:decide (j<nc)=true:=by simpa using hjn
  have N9:=hid hjn;have hje:j<EC.length:=by rw[Fz.out];exact hjn
  have hjc:j<D.c.length:=by rw[H1.out.wK,List.length_map];exact hje
  have htk:D.c.take (j+1)=D.c.take j++[(EC[j].1,EC[j].2.1)]:=by
   rw[List.take_succ_eq_append_getElem hjc];congr 2;simp only[H1.out.wK,List.getElem_map]
  have Gs:=HAT.out.ctx EC[j] (List.getElem_mem hje);have hlen:EC[j].2.1.length=128:=(H1.out.ok.c (EC[j].1,EC[j].2.1) (by rw[H1.out.wK];exact List.mem_map_of_mem (f:=fun e:Ce=>(e.1,e.2.1)) (List.getElem_mem hje))).2;obtain⟨b2,o2,c2,e2,aoD,_,hc1,hc2⟩:=Ces.at (Reads.aY HAT.out.pO) j hje EC[j] (List.getElem?_eq_getElem hje);rw[CX.out]at e2;injection e2 with e21 e22 e23;subst e21 e23;clear e22;have vF:=hid htk;have HCX:=hid Gs;generalize EC[j]=y at *;obtain⟨y1,yl,yv⟩:=y;obtain⟨ay,cy,hyv⟩:=Gs.1.shape;simp only at hc1 hc2 hyv hlen;rw[hlen]at hyv;rw[hyv]at hc2;have qU:=hid hlen;have HYV:=hid hyv;clear htk Gs hlen hyv hjc hje;have hal:aj (fun _=>False) wr (wr.alloc (.cells #[.int .i64 (y1:Nat),.slice ay 128 cy] 130)):=aC ((Below.refl _ _).alloc (Nat.le_refl _) _);have HA2:Hid (iJ (wr.alloc (.cells #[.int .i64 (y1:Nat),.slice ay 128 cy] 130)) W0.heap.size d { D with calls:=iw D.calls } vl vc EL EC K):=hid (HAT.out.grow hal (fun h=>h) (fun _ _ h=>h) (fun _ _ h=>h) (fun _ _ h=>h));have HG2:Hid (aj (fun k=>k=d) w (wr.alloc (.cells #[.int .i64 (y1:Nat),.slice ay 128 cy] 130))):=hid (FB.out.step hal (fun _ _ h=>h.elim));have HB2:Hid (Buf (wr.alloc (.cells #[.int .i64 (y1:Nat),.slice ay 128 cy] 130)) gb (kK i (D.c.take j) (kX sx))):=hid (HBW.out.aH hal (fun h=>h));have dP:Hid ((kK i (D.c.take j) (kX sx)).length=128):=hid (KJ (N8 HK.out) (fun x hx=>(H1.out.ok.c x (List.mem_of_mem_take hx)).2));have l7:Hid (Reads 1 (wr.alloc (.cells #[.int .i64 (y1:Nat),.slice ay 128 cy] 130)) (.slice ay 128 cy) yl.length (yl.map B)):=hid (by
   have:=(HCX.out.grow hal (fun _ _ h=>h)).1;simp only[HYV.out]at this;exact this)
  have rP:Hid (yl=[]\/yl.length=128):=hid (.inr qU.out);obtain⟨wv,hwv⟩:∃u,wr.heap.size=u:=⟨_,rfl⟩
  have cx0:=(Box.new wr #[.int .i64 (y1:Nat),.slice ay 128 cy] 130 rfl).cell 0 _ rfl;have cx1:=(Box.new wr #[.int .i64 (y1:Nat),.slice ay 128 cy] 130 rfl).cell 1 _ rfl;clear hal hwv;by_cases hyi:y1=i
  ·have hyb:(((y1:Nat):Int)==((i:Nat):Int))=true:=by simp[hyi]
   have aoE:(y1==i)=true:=by simp[hyi]
   have HYI:=hid hyi;clear hyi;go_wp2_with (with_reducible refine yX rfl (.tmp 54) (.tmp 56) rfl gb 128 (kK i (D.c.take j) (kX sx)) yl (.slice ay 128 cy) ?q1 ?q2 ?q3 ?q4 ?q5 ?q6 ?q7)
   case q3=>exact HB2.out
   case q4=>exact dP.out
   case q5=>exact l7.out
   case q6=>exact rP.out
   intro w3 n3 VJ aaR;have hov:Ie (kK i (D.c.take j) (kX sx)) yl=kK i (D.c.take (j+1)) (kX sx):=by
    rw[vF.out,wW,if_pos HYI.out];unfold Ie;rw[if_neg (fun e=>by have:=qU.out;rw[e]at this;cases this)]
   rw[hov]at VJ;have HB3:=hid VJ;have Oa:Hid (iJ w3 W0.heap.size d { D with calls:=iw D.calls } vl vc EL EC K):=hid (HA2.out.grow aaR (fun e=>yY.out.1 e.symm) yY.out.2.1 yY.out.2.2.1 yY.out.2.2.2);have wL:Hid (aj (fun k=>k=d) w w3):=hid (HG2.out.step aaR (fun q hq e=>by have:=YE.out;omega));clear VJ aaR hov cx0 cx1;go_wp2_with fail;go_roundw
   case rel=>exact⟨j+1,by have:=N9.out;omega,by go_num,Oa.out,wL.out,HB3.out⟩
   case measure=>have:=N9.out;simp[intOf];omega
  ·have hyb:(((y1:Nat):Int)==((i:Nat):Int))=false:=by simp;omega
   have aoE:(y1==i)=false:=by simpa using hyi
   go_wp2_with fail;go_roundw
   case rel=>exact⟨j+1,by have:=N9.out;omega,by go_num,HA2.out,HG2.out,by rw[vF.out,wW,if_neg hyi];exact HB2.out⟩
   case measure=>have:=N9.out;simp[intOf];omega
end
section
open Go.RowKit
theorem Ac{P:Program}(w:World)(t e:TypeId)(a:Option Addr)(l c:Nat)(h:P.underlying t=some (.slice e)):(binOp .eql t (.slice a l c) (.slice none 0 0)).run P w=.ok (.bool a.isNone) w:=by
 have key:∀d:Nat,(Op.equalIn (d+1) t (.slice a l c) (.slice none 0 0)).run P w=.ok a.isNone w:=by
  intro d;cases a<;>simp[Op.equalIn,run_underlying h]
 have h2:(Op.equal t (.slice a l c) (.slice none 0 0)).run P w=.ok a.isNone w:=key 9999;simp[binOp,h2]
theorem AY{P:Program}(w:World)(t e:TypeId)(a:Addr)(l c:Nat)(h:P.underlying t=some (.slice e)):(binOp .eql t (.slice (some a) l c) (.slice none 0 0)).run P w=.ok (.bool false) w:=Ac w t e (some a) l c h
theorem clone_any(l:List UInt8)(n:Nat)(hl:l.length=n)(hn:0<n)(hn2:n<=1099511627776)(v:Value)(w:World)(hv:Reads 1 w v n (l.map B)):
  Calls Tryz.prog 66 #[v] w fun e w'=>∃g c,e=.returned (.slice (some ⟨g,0,none⟩) n c)/\Reads 1 w' (.slice (some ⟨g,0,none⟩) n c) n (l.map B)/\w.heap.size<=g/\g<w'.heap.size/\Below w.heap.size w w':=by
 obtain⟨ao,cp,rfl,hlm,hc,hr⟩:=hv;obtain⟨b,o,rfl,hb,hcell⟩:=hr hn;have HL:=hid hl;have hal:Below w.heap.size w (w.alloc (.cells #[] 5)):=(Below.refl _ _).alloc (Nat.le_refl _) _;have HA:=hid hal;have HR:Hid (Reads 1 (w.alloc (.cells #[] 5)) (.slice (some ⟨b,o,none⟩) n cp) n (l.map B)):=hid (Reads.below (w:=w) ⟨_,_,rfl,hlm,hc,fun _=>⟨b,o,rfl,hb,hcell⟩⟩ hal (Nat.le_refl _));have HKP:∀g,Hid (Kept (fun _=>False) (w.alloc (.cells #[] 5)) (fun w2=>Reads 1 w2 (.slice (some ⟨g,0,none⟩) 0 0) 0 [])):=fun g=>hid (fun w2 _=>⟨_,_,rfl,rfl,Nat.le_refl _,fun h=>absurd h (Nat.lt_irrefl 0)⟩);clear hl hlm hr hcell hal hb;have hnil:=fun w':World=>AY (P:=Tryz.prog) w' 48 5 ⟨b,o,none⟩ n cp Tryz.underlying48;go_enter Tryz.func66,Tryz.ntmps66;go_wp2_with (at_builtin;refine CU bytesOf (.tmp 5) (.tmp 6) rfl rfl rfl (X:=fun _=>False) (n:=0) (xs:=[]) (HKP _).out (fun k h=>h.elim) rfl HR.out (eU l) (by omega) (by omega) ?_;intro a1 c1 w3 hle hgr hk ho);go_ret;obtain⟨g,rfl,hg,hown⟩:=ho hn;simp only[Nat.zero_add,List.nil_append]at hk hown;have hs:=HA.out.size;exact⟨g,c1,rfl,hk.now,by omega,(hown.lt g rfl).2,HA.out.trans (Below.mono hgr hs)⟩
end
section
open Go.RowKit
theorem ald:SliceOf Tryz.prog 126 130 (.agg #[.int .i64 0,.slice none 0 0]) 2 32:=⟨Tryz.underlying126,by kernel_rfl,rfl,by decide⟩
def Dv.write(D:Dv)(i:Nat)(l:List UInt8):Dv:=if D.bJ.1 then { D.bJ.2 with c:=D.bJ.2.c++[(i,l)] } else D.bJ.2
theorem bH.mono{w:World}{K K':Nat->Prop}{b:List UInt8}{v:Value}(h:bH w K b v)(hK:∀k,K k->K' k):bH w K' b v:=⟨h.1,fun q e=>hK q (h.2 q e)⟩
theorem bH.lt{w:World}{K:Nat->Prop}{b:List UInt8}{g n c:Nat}(h:bH w K b (.slice (some ⟨g,0,none⟩) n c))(hb:0<b.length):g<w.heap.size/\K g:=by
 refine⟨?_,h.2 g rfl⟩;obtain⟨a0,c0,e,_,_,hr⟩:=h.1;obtain⟨q1,o1,e1,h1,_⟩:=hr hb;injection e with e2;rw[e1]at e2;injection e2 with e3;injection e3 with e4;omega
theorem iJ.wrote{w2 w5:World}{G d:Nat}{D2:Dv}{vl vc:Value}{EL:List Se}{EC:List Ce}{K X:Nat->Prop}(h:iJ w2 G d D2 vl vc EL EC K)(hg:aj X w2 w5)(hX:∀k,X k->vc.ownBlock=some k){gh ch g c nc iq:Nat}{l:List UInt8}(hl:l.length=128)(hi:iq<D2.l.length)
  (hown:w5.ownsRow G 130 2 (.slice (some ⟨gh,0,none⟩) (nc+1) ch) (nc+1) (wB EC++[.int .i64 ((iq:Nat):Int),.slice (some ⟨g,0,none⟩) 128 c])) (hn:EC.length=nc) (hor:vc.ownBlock=some gh\/w2.heap.size<=gh) (hne:gh≠g) (hs:bH w5 (fun k=>w2.heap.size<=k) l (.slice (some ⟨g,0,none⟩) 128 c)) (hG:G<=w2.heap.size):
  iJ (w5.setCell ⟨d,1,none⟩ (.slice (some ⟨gh,0,none⟩) (nc+1) ch)) G d { D2 with c:=D2.c++[(iq,l)] } vl (.slice (some ⟨gh,0,none⟩) (nc+1) ch) EL (EC++[(iq,l,.slice (some ⟨g,0,none⟩) 128 c)]) (fun k=>K k\/k=g):=by
 have hd:=h.box.lt;have hbx:=h.box.aH hg (fun hx=>(h.kc d (hX d hx)).2 rfl);obtain⟨k1,k2⟩:=Box.set1 hbx 1 (.slice (some ⟨gh,0,none⟩) (nc+1) ch);have k3:aj (fun k=>k=d) w5 (w5.setCell ⟨d,1,none⟩ (.slice (some ⟨gh,0,none⟩) (nc+1) ch)):=aj.aK k2 (fun k o h=>h.1);obtain⟨hgl,hgk⟩:=hs.lt (by omega);have hgd:gh≠d:=by
  rintro rfl;rcases hor with e|e
  ·exact(h.kc gh e).2 rfl
  ·omega
 refine⟨k1,aI (aI h.nH hg (fun q e hx=>(h.kl q e).2.2 (hX q hx))) k3 (fun q e=>(h.kl q e).2.1),?_,h.lZ,?_,?_,?_,?_,?_,?_,?_,?_⟩
 ·have:=aI hown k3 (fun q e=>by have e2:gh=q:=(by simpa[Value.ownBlock]using e);omega);rw[List.length_append,hn,TB];exact this
 ·show D2.c++[(iq,l)]=_;rw[List.map_append,h.wK];rfl
 ·intro e he;exact(((h.N7 e he).grow hg (fun k hk hx=>(h.kc k (hX k hx)).1 hk)).grow k3 (fun k hk e=>h.kd (e▸hk))).mono (fun k hk=>.inl hk)
 ·intro e he;rcases List.mem_append.1 he with he|he
  ·exact(((h.ctx e he).grow hg (fun k hk hx=>(h.kc k (hX k hx)).1 hk)).grow k3 (fun k hk e=>h.kd (e▸hk))).mono (fun k hk=>.inl hk)
  ·rw[List.mem_singleton.1 he];have h5:=hs.grow k3 (fun k hk e=>by have hk:w2.heap.size<=k:=hk;omega);exact⟨h5.1,fun q e=>.inr (by have e2:g=q:=(by simpa[Value.ownBlock]using e);exact e2.symm)⟩
 ·rintro k (hk|rfl)
  ·exact⟨(h.kin k hk).1,Nat.lt_of_lt_of_le (h.kin k hk).2 (Nat.le_trans hg.size k3.size)⟩
  ·exact⟨Nat.le_trans hG hgk,Nat.lt_of_lt_of_le hgl k3.size⟩
 ·rintro(hk|rfl)
  ·exact h.kd hk
  ·have hgk:w2.heap.size<=d:=hgk;omega
 ·intro q e;have hq:=(h.nH.lt q e).2;refine⟨?_,(h.kl q e).2.1,fun e2=>?_⟩
  ·rintro(hk|rfl)
   ·exact(h.kl q e).1 hk
   ·have hgk:w2.heap.size<=q:=hgk;omega
  ·have e2:gh=q:=(by simpa[Value.ownBlock]using e2)
   rcases hor with e3|e3
   ·exact(h.kl q e).2.2 (e2▸e3)
   ·omega
 ·intro q e;have e2:gh=q:=(by simpa[Value.ownBlock]using e)
  subst e2;refine⟨?_,hgd⟩;rintro(hk|hk)
  ·rcases hor with e3|e3
   ·exact(h.kc gh e3).1 hk
   ·have:=(h.kin gh hk).2;omega
  ·exact hne hk
 ·refine⟨h.ok.l,fun x hx=>?_,h.ok.n,h.ok.f1,h.ok.f2⟩;rcases List.mem_append.1 hx with hx|hx
  ·exact h.ok.c x hx
  ·rw[List.mem_singleton.1 hx];exact⟨hi,hl⟩
def WDw(vc:Value)(j b:Nat):Prop:=j=10/\vc.ownBlock=some b
def vG(G d HZ nc cc iq:Nat)(ac:Option Addr)(bq oq cv:Nat)(l:List UInt8)(EC:List Ce)(vc:Value)(i:Nat)(v:Value)(lo hi:Nat)(w:World):Prop:=
 match i with
 | 0=>v=.pointer (some ⟨d,0,none⟩)
 | 1=>v=.pointer (some ⟨d,0,none⟩)
 | 2=>v=.pointer (some ⟨d,0,none⟩)
 | 3=>v=.pointer (some ⟨d,1,none⟩)
 | 4=>v=.slice ac nc cc
 | 5=>v=.int .i64 ((iq:Nat):Int)
 | 6=>v=.slice (some ⟨bq,oq,none⟩) 128 cv
 | 7=>∃g c,v=.slice (some ⟨g,0,none⟩) 128 c/\bH w (fun k=>HZ<=k) l (.slice (some ⟨g,0,none⟩) 128 c)
 | 8=>∃g c,v=.agg #[.int .i64 ((iq:Nat):Int),.slice (some ⟨g,0,none⟩) 128 c]/\bH w (fun k=>HZ<=k) l (.slice (some ⟨g,0,none⟩) 128 c)
 | 9=>∃h g c,v=.slice (some ⟨h,0,none⟩) 1 1/\HZ<=h/\h<w.heap.size/\w.cell? ⟨h,0,none⟩=some (.int .i64 ((iq:Nat):Int))/\w.cell? ⟨h,1,none⟩=some (.slice (some ⟨g,0,none⟩) 128 c)/\bH w (fun k=>HZ<=k) l (.slice (some ⟨g,0,none⟩) 128 c)
 | 10=>∃gh ch g c,v=.slice (some ⟨gh,0,none⟩) (nc+1) ch/\w.ownsRow G 130 2 (.slice (some ⟨gh,0,none⟩) (nc+1) ch) (nc+1) (wB EC++[.int .i64 ((iq:Nat):Int),.slice (some ⟨g,0,none⟩) 128 c])/\(vc.ownBlock=some gh\/HZ<=gh)/\gh≠g/\bH w (fun k=>HZ<=k) l (.slice (some ⟨g,0,none⟩) 128 c)
 | 11=>v=.pointer (some ⟨d,0,none⟩)
 | 12=>v=.pointer (some ⟨d,1,none⟩)
 | _=>True
theorem VK(G d HZ nc cc iq:Nat)(ac:Option Addr)(bq oq cv:Nat)(l:List UInt8)(EC:List Ce)(vc:Value)(qV:∀q,vc.ownBlock=some q->q<HZ):∀i j,i<13->j<13->j≠i->j∉([[],[],[1],[1,2],[1,2,3],[],[],[6],[5,6,7],[5,6,7,8],[1,2,3,4,5,6,7,8,9],[0,1,2,3,4,5,6,7,8,9,10],[0,1,2,3,4,5,6,7,8,9,10,11]]:List (List Nat)).getD i []->(i,j)∉([]:List (Nat×Nat))->∀v lo hi wv wv',vG G d HZ nc cc iq ac bq oq cv l EC vc i v lo hi wv->aj (WDw vc j) wv wv'->vG G d HZ nc cc iq ac bq oq cv l EC vc i v lo hi wv':=by
 intro i j hi hj hne hbs _ v lo hj2 wv wv' h hg
 match i,hi with
 | 0,_|1,_|2,_|3,_|4,_|5,_|6,_|11,_|12,_=>
  simp only[vG]at h⊢;exact h
 | 7,_|8,_=>
  simp only[vG]at h⊢;obtain⟨g,c,h1,h2⟩:=h;exact⟨g,c,h1,h2.grow hg (fun k hk hw=>by have:=qV k hw.2;omega)⟩
 | 9,_=>
  simp only[vG]at h⊢;obtain⟨hh,g,c,h1,h2,h3,h4,h5,h6⟩:=h;have hbk:=hg.block hh h3 (fun hw=>by have:=qV hh hw.2;omega);exact⟨hh,g,c,h1,h2,Nat.lt_of_lt_of_le h3 hg.size,(World.cell?_of_block (w:=wv) hbk).trans h4,(World.cell?_of_block (w:=wv) hbk).trans h5,h6.grow hg (fun k hk hw=>by have:=qV k hw.2;omega)⟩
 | 10,_=>
  simp only[vG]at h⊢;obtain⟨gh,ch,g,c,h1,h2,h3,h4,h5⟩:=h;exact⟨gh,ch,g,c,h1,aI h2 hg (fun q e hw=>hne hw.1),h3,h4,h5.grow hg (fun k hk hw=>by have:=qV k hw.2;omega)⟩
 | (q+13),hq=>exact absurd hq (by omega)
theorem yZ{W0 w:World}{d:Nat}{D:Dv}{S:Nat->Prop}(h:DV W0 d D S w)(kL:D.dead=false)(hcl:D.c.length<=1048576)(iq:Nat)(hi:iq<D.l.length)(l:List UInt8)(hl:l.length=128)(v:Value)(hv:Reads 1 w v 128 (l.map B))(hsl:∀b,v.ownBlock=some b->¬S b):
  Calls Tryz.prog 125 #[.pointer (some ⟨d,0,none⟩),.int .i64 (iq:Nat),v] w fun e w'=>∃S',e=.returned (.int .i64 (jS D.bJ.1))/\DV W0 d (D.write iq l) S' w'/\aG S S' w w':=by
 obtain⟨vl,vc,EL,EC,K,h1,h2,h3,rfl⟩:=h;have hln:D.l.length=EL.length:=by rw[h1.lZ,List.length_map]
 obtain⟨nl,hnl⟩:∃n,EL.length=n:=⟨_,rfl⟩
 obtain⟨nc,hnc⟩:∃n,EC.length=n:=⟨_,rfl⟩
 have hinl:iq<nl:=by omega
 have af0:nc<=1048576:=by rw[h1.wK,List.length_map,hnc]at hcl;exact hcl
 obtain⟨al,ll,Ig⟩:=bF h1.nH;obtain⟨ac,cc,CV⟩:=bF h1.pO;obtain⟨av,cv,rfl,hlm,qV,rQ⟩:=hv;obtain⟨bq,oq,rfl,hbq,hcell⟩:=rQ (by omega);have c0:=h1.box.cell 0 _ rfl;have c3:=h1.box.cell 3 _ rfl;rw[Ig,hnl]at c0;clear Ig;rw[kL]at c3;have hlt:=h1.box.lt;have Ad:=hsl bq rfl;have hvs:bH w (fun k=>k=bq) l (.slice (some ⟨bq,oq,none⟩) 128 cv):=⟨by rw[hl];exact⟨_,_,rfl,hlm,qV,fun _=>⟨bq,oq,rfl,hbq,hcell⟩⟩,fun q e=>(show bq=q from by simpa[Value.ownBlock]using e).symm⟩
 have aoF:=hid hvs;have af7:=hid Ad;have qU:=hid hl;have Fz:=hid hnc;rw[hnc]at CV;have CX:=hid CV;have H1:=hid h1;have H3:=hid h3;have hb1:decide ((iq:Int)<0)=false:=by simp
 have hb2:decide ((nl:Int)<=(iq:Int))=false:=by simp;omega
 have hb3:decide ((iq:Int)>=(nl:Int))=false:=by simp;omega
 have hb4:decide (nl<=iq)=false:=by simp;omega
 have hcall:=Ut h1;have HI:Hid (iq<D.bJ.2.l.length):=hid (by rw[(Dv.Aa D).1];exact hi);unfold Dv.write;clear h1 h3 hvs hl hnc CV hlm qV rQ hcell hsl Ad kL hln hcl hi hnl;cases hbn:D.bJ.1 with
 | false=>
  rw[hbn]at hcall;have HC:=hid hcall;clear hcall;go_enter Tryz.func125,Tryz.ntmps125;go_wp2_with fail;refine HC.out.mono ?_;rintro e w2 ⟨rfl,hat,hgr⟩;have HA:=hid hat;have HG:=hid hgr;clear hat hgr;simp only[jS];go_wp2_with fail;go_ret;refine⟨rfl,_,⟨_,_,EL,EC,K,HA.out,h2,H3.out.trans (HG.out.below (fun k hk=>⟨Nat.lt_of_lt_of_le hk H3.out.size,fun e=>by omega⟩)),rfl⟩,⟨HG.out.mono (fun k e=>.inl e),fun k h=>.inl h⟩⟩
 | true=>
  rw[hbn]at hcall;have HC:=hid hcall;clear hcall;go_enter Tryz.func125,Tryz.ntmps125;go_wp2_with fail;refine HC.out.mono ?_;rintro e w2 ⟨rfl,hat,hgr⟩;have HVS:Hid (bH w2 (fun k=>k=bq) l (.slice (some ⟨bq,oq,none⟩) 128 cv)):=hid (aoF.out.grow hgr (fun k hk e=>af7.out (.inl (hk.symm.trans e))));have Ih:Hid (¬vc.ownBlock=some bq):=hid (fun e=>af7.out (.inr (.inr (.inl e))));have HAT:=hid hat;have HG:=hid hgr;obtain⟨HZ,YG⟩:∃g,w2.heap.size=g:=⟨_,rfl⟩
  have hcz:∀q,vc.ownBlock=some q->q<HZ:=fun q e=>by rw[<-YG];exact(hat.pO.lt q e).2
  have hlt2:=hat.box.lt;have zf:Hid (W0.heap.size<=w2.heap.size):=hid (Nat.le_trans H3.out.size hgr.size);clear hat hgr;simp only[jS];go_wp2_with fail;refine Fp (WDw vc) 13 [[],[],[1],[1,2],[1,2,3],[],[],[6],[5,6,7],[5,6,7,8],[1,2,3,4,5,6,7,8,9],[0,1,2,3,4,5,6,7,8,9,10],[0,1,2,3,4,5,6,7,8,9,10,11]] [some 33,some 34,some 35,some 36,some 37,some 38,some 39,some 40,some 41,some 42,some 43,some 44,some 45,none] [[],[],[1],[2],[3],[],[],[6],[5,7],[8],[4,9],[0],[11]] [0,10,12] [] (by decide) (by kernel_rfl) (by kernel_rfl) rfl (vG W0.heap.size d HZ nc cc iq ac bq oq cv l EC vc) (VK W0.heap.size d HZ nc cc iq ac bq oq cv l EC vc hcz) ?pDw ?_
  case pDw=>
   intro i hi o ho vs lo eX w' hg hp;replace hp:=fun j hj=>(hp j hj).2.2.2
   match i,hi with
   | 0,_|1,_|5,_|6,_=>
    cases ho;simp only[ak,Act.put,aA];go_wp2;exact⟨_,rfl,aC (Below.refl _ _),rfl⟩
   | 2,_=>
    cases ho;simp only[ak,Act.put,aA];have h1:=hp 1 (by simp);simp only[vG]at h1;rw[h1];go_wp2;exact⟨_,rfl,aC (Below.refl _ _),rfl⟩
   | 3,_=>
    cases ho;simp only[ak,Act.put,aA];have h2:=hp 2 (by simp);simp only[vG]at h2;rw[h2];go_wp2;exact⟨_,rfl,aC (Below.refl _ _),rfl⟩
   | 4,_=>
    cases ho;simp only[ak,Act.put,aA];have h3:=hp 3 (by simp);simp only[vG]at h3;rw[h3];have e0:=(HAT.out.box.aH hg (by rintro⟨j,_,_,_,hw⟩;exact(HAT.out.kc d hw.2).2 rfl)).cell 1 _ rfl;rw[CX.out]at e0;go_wp2;exact⟨_,rfl,aC (Below.refl _ _),rfl⟩
   | 7,_=>
    cases ho;simp only[ak,Act.put,aA];have h6:=hp 6 (by simp);simp only[vG]at h6;rw[h6];have hv2:bH w' (fun k=>k=bq) l (.slice (some ⟨bq,oq,none⟩) 128 cv):=HVS.out.grow hg (by rintro k rfl ⟨j,_,_,_,hw⟩;exact Ih.out hw.2);have hv3:=hv2.1;rw[qU.out]at hv3;have hz:=hg.size;go_wp2_with fail;refine(clone_any l 128 qU.out (by omega) (by omega) _ _ hv3).mono ?_;rintro e wc ⟨g,c,rfl,g1,g2,g3,g4⟩;go_wp2;exact⟨_,rfl,aC g4,g,c,rfl,by rw[qU.out];exact g1,fun q e=>by have e2:g=q:=(by simpa[Value.ownBlock]using e);have:=YG;show HZ<=q;omega⟩
   | 8,_=>
    cases ho;simp only[ak,Act.put,aA];have h5:=hp 5 (by simp);have h7:=hp 7 (by simp);simp only[vG]at h5 h7;rw[h5];obtain⟨g,c,e7,s7⟩:=h7;rw[e7];go_wp2;exact⟨_,rfl,aC (Below.refl _ _),g,c,rfl,s7⟩
   | 9,_=>
    cases ho;simp only[ak,Act.put,aA];have h8:=hp 8 (by simp);simp only[vG]at h8;obtain⟨g,c,e8,s8⟩:=h8;rw[e8];have hz:=hg.size;have l9:=hid s8;clear s8;go_wp2;have hbz:=Box.new w' #[.int .i64 (iq:Nat),.slice (some ⟨g,0,none⟩) 128 c] 130 rfl;have hal:aj (fun _=>False) w' (w'.alloc (.cells #[.int .i64 (iq:Nat),.slice (some ⟨g,0,none⟩) 128 c] 130)):=aC ((Below.refl _ _).alloc (Nat.le_refl _) _);exact⟨_,rfl,hal.mono (fun _ h=>h.elim),w'.heap.size,g,c,rfl,by have:=YG;omega,hbz.lt,hbz.cell 0 _ rfl,hbz.cell 1 _ rfl,l9.out.grow hal (fun _ _ h=>h)⟩
   | 10,_=>
    cases ho;simp only[ak,Act.put,aA];have h4:=hp 4 (by simp);have h9:=hp 9 (by simp);simp only[vG]at h4 h9;rw[h4];obtain⟨hh,g,c,e9,p1,p2,p3,p4,p5⟩:=h9;rw[e9];have hz:=hg.size;have pW:=hid p5;have HP3:=hid p3;have HP4:=hid p4;clear p3 p4 p5;have HOw:Hid (w'.ownsRow W0.heap.size 130 2 (.slice ac nc cc) nc (wB EC)):=hid (by
     have:=aI HAT.out.pO hg (by rintro q e ⟨j,_,hne,_,hw⟩;exact hne hw.1);rw[Fz.out]at this;rw[<-CX.out];exact this)
    have hG:W0.heap.size<=w'.heap.size:=by have:=zf.out;omega
    go_wp2_with (at_builtin;refine dX ald (.tmp 37) (.tmp 42) rfl rfl (base:=W0.heap.size) rfl HOw.out rfl rfl (news:=[.int .i64 ((iq:Nat):Int),.slice (some ⟨g,0,none⟩) 128 c]) (by intro j u hu;rw[Addr.add_lit];match j,hu with|0,hu=>(simp at hu;subst hu;exact HP3.out)|1,hu=>(simp at hu;subst hu;exact HP4.out)|(q+2),hu=>(simp at hu)) (by intro u hu;simp at hu;rcases hu with rfl|rfl<;>rfl) (by omega) (by omega) (by omega) (by omega) ?_;intro ob cp wq fD iK kE);have hgx:aj (WDw vc 10) w' wq:=aj.aK iK (fun k o h=>⟨rfl,by rw[CX.out];exact h.1⟩);have hob:vc.ownBlock=some ob\/HZ<=ob:=kE.elim (fun h=>.inl (by rw[CX.out];exact h)) (fun h=>.inr (by have:=YG;omega));have hbg:g<w'.heap.size:=(pW.out.lt (by have:=qU.out;omega)).1;have hgz:HZ<=g:=pW.out.2 g rfl;exact⟨_,rfl,hgx,ob,cp,g,c,rfl,fD,hob,(by rintro rfl;rcases kE with h|h;exact absurd (hcz ob (by rw[CX.out];exact h)) (by omega);omega),pW.out.grow hgx (fun k hk hw=>by have:=hcz k hw.2;omega)⟩
   | 11,_=>
    cases ho;simp only[ak,Act.put,aA];have h0:=hp 0 (by simp);simp only[vG]at h0;rw[h0];go_wp2;exact⟨_,rfl,aC (Below.refl _ _),rfl⟩
   | 12,_=>
    cases ho;simp only[ak,Act.put,aA];have h11:=hp 11 (by simp);simp only[vG]at h11;rw[h11];go_wp2;exact⟨_,rfl,aC (Below.refl _ _),rfl⟩
   | (q+13),hq=>exact absurd hq (by omega)
  intro vS lo hi w5 hg hp hd;have hP:=fun j hj=>(hp j hj).2.2.2;have h10:=hP 10 (by decide);have h12:=hP 12 (by decide);clear hP;replace h10:=h10 (by decide);replace h12:=h12 (by decide);simp only[vG]at h10 h12;obtain⟨gh,ch,g,c,e10,hown,hor,hne,hs⟩:=h10;clear hp hd;subst YG;have Ob:=HAT.out.box.aH hg (by rintro⟨j,_,hw⟩;exact(HAT.out.kc d hw.2).2 rfl);have cx1:=Ob.cell 1 _ rfl;have cxf:=Ob.free;have zN:=Ob.lt;have HW5:=hid (HAT.out.wrote hg (fun k ⟨j,_,hw⟩=>hw.2) qU.out HI.out hown Fz.out hor hne hs zf.out);have Uw:Hid (aj (fun k=>k=d) w5 (w5.setCell ⟨d,1,none⟩ (.slice (some ⟨gh,0,none⟩) (nc+1) ch))):=hid (aj.aK (Box.set1 Ob 1 (.slice (some ⟨gh,0,none⟩) (nc+1) ch)).2 (fun k o h=>h.1));have lD:Hid (aj (fun k=>vc.ownBlock=some k) w2 w5):=hid (hg.mono (fun k ⟨j,_,hw⟩=>hw.2));have HOR:=hid hor;have hgl:w2.heap.size<=g:=(hs.lt (by have:=qU.out;omega)).2;have Ux:=hid hgl;clear Ob hown hor hne hs hg hgl;have hr:List.range 13=[0,1,2,3,4,5,6,7,8,9,10,11,12]:=rfl;rw[hr];clear hr;simp only[List.drop_succ_cons,List.drop_zero,List.drop_nil,ak,Act.put,aA,e10,h12];go_wp2_with fail;go_ret;have hws:=HG.out.size;refine⟨rfl,_,⟨_,_,_,_,_,HW5.out,h2,?_,rfl⟩,⟨((HG.out.mono (fun k e=>.inl e)).step lD.out (fun q _ e=>.inr (.inr (.inl e)))).step Uw.out (fun q _ e=>.inl e),?_⟩⟩
  ·refine H3.out.trans (Below.trans (HG.out.below (fun k hk=>⟨Nat.lt_of_lt_of_le hk H3.out.size,fun e=>by omega⟩)) (Below.trans (lD.out.below (fun k hk=>⟨Nat.lt_of_lt_of_le hk zf.out,fun e=>by have:=(HAT.out.pO.lt k e).1;omega⟩)) (Uw.out.below (fun k hk=>⟨by have:=lD.out.size;have:=zf.out;omega,fun e=>by omega⟩))))
  ·rintro k (e|e|e|e|e)
   ·exact .inl (.inl e)
   ·exact .inl (.inr (.inl e))
   ·have e2:gh=k:=(by simpa[Value.ownBlock]using e)
    subst e2;exact HOR.out.elim (fun h=>.inl (.inr (.inr (.inl h)))) (fun h=>.inr (by omega))
   ·exact .inl (.inr (.inr (.inr e)))
   ·exact .inr (by have:=Ux.out;omega)
end
section
open Go.RowKit
theorem aF(w:World)(g i:Nat)(v:Value):aj (fun k=>k=g) w (w.setCell ⟨g,i,none⟩ v):=
 ⟨rfl,rfl,rfl,by simp[World.setCell],fun k hk hx=>Below.heap_setCell _ _ _ _ (fun e=>hx e)⟩
theorem qW{w:World}{base e K n:Nat}{v:Value}{xs:List Value}{g cap:Nat}(h:w.ownsRow base e K v n xs)(hv:v=.slice (some ⟨g,0,none⟩) n cap)(j:Nat)(hj:j<n*K)(u:Value):
  (w.setCell ⟨g,j,none⟩ u).ownsRow base e K v n (xs.set j u):=by
 subst hv;obtain⟨hl,h⟩:=h;refine⟨by simpa using hl,.inr ?_⟩;rcases h with ⟨h0,_⟩|⟨g',cap',cur,e0,hb,hg,hn,hc,hs,ht⟩
 ·simp at h0
 ·injection e0 with e1 e2 e3;injection e1 with e1;injection e1 with e1;subst e1 e3;refine⟨g,cap,cur.setIfInBounds j u,rfl,hb,Fq hg u,hn,hc,by simpa using hs,?_⟩;rw[<-ht];simp[List.take_set]
theorem iJ.aoG{w:World}{G d:Nat}{D:Dv}{vl vc:Value}{EL:List Se}{EC:List Ce}{K:Nat->Prop}(h:iJ w G d D vl vc EL EC K){gl cl:Nat}(hv:vl=.slice (some ⟨gl,0,none⟩) EL.length cl)(i:Nat)(hi:i<EL.length)(e:Ce)(he:e∈EC):
  iJ (w.setCell ⟨gl,i,none⟩ e.2.2) G d { D with l:=D.l.set i e.2.1 } vl vc (EL.set i (e.2.1,e.2.2)) EC K:=by
 have hg:=aF w gl i e.2.2;have ho:vl.ownBlock=some gl:=by rw[hv];rfl
 obtain⟨n1,n2,n3⟩:=h.kl gl ho;have hlen:e.2.1.length=128:=(h.ok.c (e.1,e.2.1) (by rw[h.wK];exact List.mem_map_of_mem (f:=fun e:Ce=>(e.1,e.2.1)) he)).2;refine⟨h.box.aH hg (fun e=>n2 e.symm),?_,aI h.pO hg (fun q e1 e2=>n3 (by rw[e1,e2])),?_,h.wK,?_,fun x hx=>(h.ctx x hx).grow hg (fun k hk e=>n1 (e▸hk)),
  fun k hk=>⟨(h.kin k hk).1,Nat.lt_of_lt_of_le (h.kin k hk).2 hg.size⟩,h.kd,h.kl,h.kc,?_⟩
 ·have:=qW h.nH hv i (by omega) e.2.2;rw[List.length_set,List.map_set];exact this
 ·show D.l.set i e.2.1=_;rw[h.lZ,List.map_set]
 ·intro x hx;rcases List.mem_or_eq_of_mem_set hx with hx|rfl
  ·exact(h.N7 x hx).grow hg (fun k hk e=>n1 (e▸hk))
  ·exact(h.ctx e he).grow hg (fun k hk e=>n1 (e▸hk))
 ·refine⟨fun s hs=>?_,fun x hx=>?_,?_,h.ok.f1,h.ok.f2⟩
  ·rcases List.mem_or_eq_of_mem_set hs with hs|rfl
   ·exact h.ok.l s hs
   ·exact .inr hlen
  ·have:=h.ok.c x hx;exact⟨by show x.1<(D.l.set i e.2.1).length;rw[List.length_set];exact this.1,this.2⟩
  ·show(D.l.set i e.2.1).length<=8192;rw[List.length_set];exact h.ok.n
def kM(l:List (List UInt8))(c:List (Nat×List UInt8)):List (List UInt8):=c.foldl (fun l x=>l.set x.1 x.2) l
theorem wC(l:List (List UInt8))(c:List (Nat×List UInt8)):(kM l c).length=l.length:=by
 induction c generalizing l with
 | nil=>rfl
 | cons x r ih=>show(kM (l.set x.1 x.2) r).length=_;rw[ih,List.length_set]
theorem TD(l:List (List UInt8))(c:List (Nat×List UInt8))(x:Nat×List UInt8):kM l (c++[x])=(kM l c).set x.1 x.2:=by simp[kM,List.foldl_append]
def Dv.sync(D:Dv):Dv:=if D.bJ.1 then { D.bJ.2 with l:=kM D.bJ.2.l D.bJ.2.c,c:=[] } else D.bJ.2
theorem afa{s:List UInt8}(h:s.length=128):kX s=s:=by
 unfold kX;rw[if_neg (fun e=>by rw[e]at h;cases h)]
theorem VL(l:List (List UInt8))(c:List (Nat×List UInt8))(hc:∀x∈c,x.1<l.length/\x.2.length=128)(i:Nat):kX ((kM l c).getD i [])=kK i c (kX (l.getD i [])):=by
 induction c generalizing l with
 | nil=>rfl
 | cons x r ih=>
  obtain⟨h1,h2⟩:=hc x (List.mem_cons_self ..);show kX ((kM (l.set x.1 x.2) r).getD i [])=kK i r (if x.1=i then x.2 else kX (l.getD i []));rw[ih (l.set x.1 x.2) (fun y hy=>by rw[List.length_set];exact hc y (List.mem_cons_of_mem _ hy))];congr 1;rw[List.getD_eq_getElem?_getD,List.getElem?_set];by_cases hx:x.1=i
  ·subst hx;rw[if_pos rfl,if_pos rfl,if_pos h1];exact afa h2
  ·rw[if_neg hx,if_neg hx,List.getD_eq_getElem?_getD]
end
end Go.Proofs.YtpajagkhmodbnaaGreat

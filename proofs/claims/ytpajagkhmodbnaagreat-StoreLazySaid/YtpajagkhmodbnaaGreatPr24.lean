/- Pr: texts of the store seat laid together by program: DcNum DcDec DcRead. Conditions: each theorem names its own. -/
import Derived.Test.YtpajagkhmodbnaaGreatPr21
import Derived.Test.YtpajagkhmodbnaaGreatPr19
import Derived.Test.YtpajagkhmodbnaaGreatPr18
import Derived.Test.YtpajagkhmodbnaaGreatPr23
namespace Go.Proofs.YtpajagkhmodbnaaGreat
set_option maxRecDepth 100000
set_option maxHeartbeats 12800000
open Lib(hid)
set_option linter.unusedSimpArgs false
set_option linter.unusedVariables false
section
open Go.RowKit
structure sQ(w:World)(rb:Nat)(l:List UInt8)(v:Value):Prop where
 box:Box w rb [v,.bool false]
 rd:Reads 1 w v l.length (l.map B)
 ne:∀q,v.ownBlock=some q->q≠rb
theorem iZ(n:Nat)(r:List UInt8):(aJ n++r).length=8+r.length:=by rw[List.length_append,dL]
section
variable{w w':World}{rb:Nat}
theorem sQ.below{l:List UInt8}{v:Value}(h:sQ w rb l v)(hb:Below w.heap.size w w'):sQ w' rb l v:=⟨h.box.below hb (Nat.le_refl _),h.rd.below hb (Nat.le_refl _),h.ne⟩
theorem lV(n:Nat)(hn:n<=1152921504606846976)(r l:List UInt8)(hlr:l=aJ n++r)(hl2:l.length<=1000000000)(v:Value)(h:sQ w rb l v):
  Calls Tryz.prog 163 #[.pointer (some ⟨rb,0,none⟩)] w fun e w'=>∃v',e=.returned (.int .i64 (n:Nat))/\sQ w' rb r v'/\(∀q,v'.ownBlock=some q->v.ownBlock=some q)/\aj (fun k=>k=rb) w w':=by
 have hlen:l.length=8+r.length:=by rw[hlr,iZ]
 obtain⟨m,hm⟩:∃m,l.length=m:=⟨_,rfl⟩
 have hrd:=h.rd;rw[hm]at hrd hlen hl2;obtain⟨ao,cc,rfl,hll,hmc,hcell⟩:=hrd;obtain⟨g,o,rfl,hg,hc2⟩:=hcell (by omega);have hm8:8<=m:=by omega
 have HL:Hid (∀(j:Nat)(c:UInt8),(aJ n)[j]? = some c->w.cell? ⟨g,o+j,none⟩=some (B c)):=hid (fun j c hj=>hc2 j (B c) (by
  have hj8:=(List.getElem?_eq_some_iff.1 hj).1;rw[hlr,List.getElem?_map,List.getElem?_append_left hj8,hj];rfl))
 have mO:Hid (Reads 1 w (.slice (bY (some ⟨g,o,none⟩) 8 cc 1) (m-8) (cc-8)) r.length (r.map B)):=hid (by
  have h1:=h.rd;rw[hm]at h1;have h2:=h1.bY 8 m (by omega) (Nat.le_refl _);rw[Nat.mul_one,Nat.mul_one,<-List.map_drop,<-List.map_take,List.take_of_length_le (Nat.le_of_eq (by rw[List.length_drop,hm]))]at h2;rw[hlr,List.drop_left' (dL n)]at h2;have e:m-8=r.length:=by omega
  rw[e]at h2⊢;exact h2)
 have Qs:=hid h.ne;have iC:=hid h.box;have k0:=h.box.cell 0 _ rfl;have k1:=h.box.cell 1 _ rfl;have kf:=h.box.free;have kl:=h.box.lt;have Aq:=hid (oJ n hn);have b1:decide ((m:Int)<8)=false:=by simp;omega
 have b2:decide (m<8)=false:=by simp;omega
 have hc8:8<=cc:=by omega
 have hc0:0<cc:=by omega
 clear h hcell hll hc2 hlr hm hlen;go_enter Tryz.func163,Tryz.ntmps163;go_wp2_with fail;refine jC 0 rfl ?_;go_wp2_with fail;go_loopw [3,5,24] (fun nn cz j wr=>∃t:Nat,t<=8/\j=.int .i64 t/\nn=.int .i64 ((dN ((aJ n).take t):Nat):Int)/\wr=w) (fun _ _ j _=>8-(intOf j).toNat)
 case atStart=>exact⟨0,by omega,rfl,rfl,rfl⟩
 case round=>
  obtain⟨t,ht,rfl,rfl,hy⟩:=hrel;obtain rfl:w=wr:=hy.symm;by_cases hlt:t<8
  ·have htl:t<(aJ n).length:=by rw[dL];exact hlt
   have hck:=HL.out t _ (List.getElem?_eq_getElem htl);simp only[B]at hck;have hsm:=DY (aJ n) (t+1) (by omega);rw[Aq.out,oI (aJ n) t htl]at hsm;have HS:=hid (oI (aJ n) t htl);generalize hae:dN ((aJ n).take t)=a at hsm HS⊢;generalize hce:(aJ n)[t]=cb at hck hsm HS;have hcb:=cb.toNat_lt;have hab:a<=4503599627370496:=by omega
   have HO:=hid (Kt a cb (by omega));have b3:decide ((a:Int)>18014398509481984)=false:=by simp;omega
   have b4:decide (18014398509481984<(a:Int))=false:=by simp;omega
   have b5:decide (18014398509481984<a)=false:=by simp;omega
   clear hae hce hsm;go_wp2_with fail;go_roundw
   case rel=>exact⟨t+1,by omega,by go_num,by rw[HS.out];exact congrArg (Value.int IntKind.i64) HO.out,trivial⟩
   case measure=>simp[intOf];omega
  ·obtain rfl:t=8:=by omega
   have Gf:dN ((aJ n).take 8)=n:=by rw[List.take_of_length_le (Nat.le_of_eq (dL n)),Aq.out]
   rw[Gf];have b3:decide ((n:Int)>4611686018427387904)=false:=by simp;omega
   have b4:decide (4611686018427387904<(n:Int))=false:=by simp;omega
   have b5:decide (4611686018427387904<n)=false:=by simp;omega
   clear Gf;go_wp2_with (first|(refine iI bytesOf (.tmp 42) (.const (.int .i64 8)) rfl rfl rfl (l:=8) rfl hm8 ?_)|fail);simp only[Exit.jump];go_ret;have hb:=iC.out.set1 0 (.slice (bY (some ⟨g,o,none⟩) 8 cc 1) (m-8) (cc-8));refine⟨_,rfl,⟨hb.1,?_,fun q e=>?_⟩,fun q e=>mM _ _ _ _ _ _ q e _ _,aF _ _ _ _⟩
   ·exact mO.out.aH (aF _ _ _ _) (fun q e1 e2=>Qs.out q (mM _ _ _ _ _ _ q e1 _ _) e2)
   ·exact Qs.out q (mM _ _ _ _ _ _ q e _ _)
theorem Q9(x r l:List UInt8)(n:Nat)(hx:x.length=n)(hn:n<=1048576)(hlr:l=aJ n++(x++r))(hl2:l.length<=1000000000)(v:Value)(h:sQ w rb l v)(hlt:∀q,v.ownBlock=some q->q<w.heap.size):
  Calls Tryz.prog 164 #[.pointer (some ⟨rb,0,none⟩)] w fun e w'=>∃(a:Option Addr)(v':Value),e=.returned (.slice a n n)/\Reads 1 w' (.slice a n n) n (x.map B)/\(∀q,(Value.slice a n n).ownBlock=some q->w.heap.size<=q/\q<w'.heap.size)/\sQ w' rb r v'/\(∀q,v'.ownBlock=some q->v.ownBlock=some q)/\aj (fun k=>k=rb) w w':=by
 have HC:=hid (lV n (by omega) (x++r) l hlr hl2 v h);have jH:=hid hlt;have hll:(x++r).length<=1000000000:=by rw[hlr,iZ]at hl2;omega
 clear h hlt hlr hl2;go_enter Tryz.func164,Tryz.ntmps164;go_wp2_with fail;refine HC.out.mono ?_;rintro e y ⟨v1,rfl,hra,hsub,hgx⟩;obtain⟨m,hm⟩:∃m,(x++r).length=m:=⟨_,rfl⟩
 have hnm:n<=m:=by rw[<-hm,List.length_append];omega
 have hrd:=hra.rd;rw[hm]at hrd hll;obtain⟨ao,cc,rfl⟩:=hrd.shape;have hmc:m<=cc:=by obtain⟨_,_,e,_,h2,_⟩:=hrd;injection e with _ _ e3;omega
 have HX1:Hid (Reads 1 y (.slice ao n cc) n (x.map B)):=hid (by
  have h1:=hrd.bY 0 n (Nat.zero_le _) hnm;have e1:(((x++r).map B).drop (0*1)).take ((n-0)*1)=x.map B:=by
   rw[Nat.zero_mul,List.drop_zero,Nat.sub_zero,Nat.mul_one,List.map_append,List.take_left' (by rw[List.length_map];exact hx)]
  rw[e1]at h1;have e2:bY ao 0 cc 1=ao:=by
   unfold bY;split
   ·rfl
   ·cases ao with
    | none=>rfl
    | some a=>simp[Addr.add_lit,Addr.add]
  rw[e2]at h1;exact h1)
 have HR1:Hid (Reads 1 y (.slice (bY ao n cc 1) (m-n) (cc-n)) r.length (r.map B)):=hid (by
  have h1:=hrd.bY n m hnm (Nat.le_refl _);have e1:(((x++r).map B).drop (n*1)).take ((m-n)*1)=r.map B:=by
   rw[Nat.mul_one,Nat.mul_one,List.map_append,List.drop_left' (by rw[List.length_map];exact hx),List.take_of_length_le (by rw[List.length_map];rw[List.length_append]at hm;omega)]
  rw[e1]at h1;have e2:m-n=r.length:=by rw[List.length_append]at hm;omega
  rw[e2]at h1⊢;exact h1)
 have Qs:=hid hra.ne;have iC:=hid hra.box;have ap3:=hid hsub;have jX:=hid hgx;have k0:=hra.box.cell 0 _ rfl;have k1:=hra.box.cell 1 _ rfl;have kf:=hra.box.free;have kl:=hra.box.lt;have hml:(x++r).length=m:=hm;have b1:decide ((n:Int)>(m:Int))=false:=by simp;omega
 have b2:decide ((m:Int)<(n:Int))=false:=by simp;omega
 have b3:decide (m<n)=false:=by simp;omega
 have HE2:Hid (m-n=r.length):=hid (by rw[List.length_append]at hm;omega);clear hra hsub hgx hrd hm hml HC;go_wp2_with (first
  | (at_builtin;refine bI (base:=y.heap.size) bytesOf (.const (.slice none 0 0)) (.tmp 28) rfl rfl rfl (World.ownsRow_nil _ _ _ _) rfl HX1.out (eU _) (by omega) (by omega) (Nat.le_refl _) ?_;intro ob cq wq ho2 hg2 hn2;have HO:=hid ho2;have HG2:Hid (aj (fun _=>False) y wq):=hid (hg2.mono (fun k e=>by cases e));have bq:=iC.out.aH HG2.out (fun h=>h);have j0:=bq.cell 0 _ rfl;have jf:=bq.free;have jl:=bq.lt;have hcn:0+n<=cq:=(by obtain⟨_,_,e,_,h2,_⟩:=Reads.aY ho2;injection e with _ _ e3;omega);clear ho2 hg2 hn2 bq)
  | (refine iI bytesOf (.tmp 34) (.tmp 35) rfl rfl rfl rfl hnm ?_)
  | fail)
 go_ret;have hb:=(iC.out.aH HG2.out (fun h=>h)).set1 0 (.slice (bY ao n cc 1) (m-n) (cc-n));have hg3:aj (fun k=>k=rb) y _:=(HG2.out.mono (fun k h=>h.elim)).trans (aF wq rb 0 (.slice (bY ao n cc 1) (m-n) (cc-n)));have ho:=HO.out;rw[Nat.zero_add,List.nil_append]at ho;have abX:∀q,(Value.slice ob n n).ownBlock=some q->y.heap.size<=q/\q<wq.heap.size:=fun q e=>ho.lt q (by cases ob<;>exact e);refine⟨ob,_,rfl,?_,fun q e=>⟨Nat.le_trans jX.out.size (abX q e).1,by have:=(abX q e).2;simpa[World.setCell]using this⟩,⟨hb.1,?_,fun q e=>Qs.out q (mM _ _ _ _ _ _ q e _ _)⟩,fun q e=>ap3.out q (mM _ _ _ _ _ _ q e _ _),jX.out.trans hg3⟩
 ·exact((Reads.aY ho).cut (Nat.le_refl _)).aH (aF _ _ _ _) (fun q e1 e2=>by have h1:=abX q e1;have h2:=kl;subst e2;omega)
 ·exact HR1.out.aH hg3 (fun q e1 e2=>Qs.out q (mM _ _ _ _ _ _ q e1 _ _) e2)
end
end
section
open Go.RowKit
def qC(t2 nb na:Nat)(ab aa:Option Addr)(r:Rc)(j b o:Nat):Prop:=(j=19/\b=t2/\o=8)\/(j=21/\b=t2/\o=9)
def xw(t2 nb na:Nat)(ab aa:Option Addr)(r:Rc)(i:Nat)(v:Value)(lo hi:Nat)(w:World):Prop:=
 match i with
 | 0=>v=.pointer (some ⟨t2,8,none⟩)
 | 1=>v=.slice none 0 0
 | 2=>v=.pointer (some ⟨t2,8,none⟩)
 | 3=>v=.slice none 0 0
 | 4=>v=.int .i64 ((0:Nat):Int)
 | 5=>v=.pointer (some ⟨t2,8,none⟩)
 | 6=>v=.slice none 0 0
 | 7=>v=.int .i64 ((0:Nat):Int)
 | 8=>v=.slice none 0 0
 | 9=>v=.pointer (some ⟨t2,9,none⟩)
 | 10=>v=.slice none 0 0
 | 11=>v=.pointer (some ⟨t2,9,none⟩)
 | 12=>v=.slice none 0 0
 | 13=>v=.int .i64 ((0:Nat):Int)
 | 14=>v=.pointer (some ⟨t2,9,none⟩)
 | 15=>v=.slice none 0 0
 | 16=>v=.int .i64 ((0:Nat):Int)
 | 17=>v=.slice none 0 0
 | 18=>v=.pointer (some ⟨t2,8,none⟩)
 | 19=>t2<w.heap.size/\w.cell? ⟨t2,8,none⟩=some (.slice none 0 0)
 | 20=>v=.pointer (some ⟨t2,9,none⟩)
 | 21=>t2<w.heap.size/\w.cell? ⟨t2,9,none⟩=some (.slice none 0 0)
 | _=>True
theorem Rf(t2 nb na:Nat)(ab aa:Option Addr)(r:Rc)  : ∀i j,i<22->j<22->j≠i->j∉([[],[0],[],[2],[2,3],[],[5],[5,6],[0,1,2,3,4,5,6,7],[],[9],[],[11],[11,12],[],[14],[14,15],[9,10,11,12,13,14,15,16],[0,1,2,3,4,5,6,7,8,9,10,11,12,14,15],[0,1,2,3,4,5,6,7,8,9,10,11,12,14,15,18],[0,1,2,3,4,5,6,7,8,9,10,11,12,13,14,15,16,17,18,19],[0,1,2,3,4,5,6,7,8,9,10,11,12,13,14,15,16,17,18,19,20]]:List (List Nat)).getD i []->∀v lo hi w w',xw t2 nb na ab aa r i v lo hi w->aB (qC t2 nb na ab aa r j) w w'->xw t2 nb na ab aa r i v lo hi w':=by
 intro i j hi hj hne hbs v lo hj2 w w' h hg
 match i,hi with
 | 0,_|1,_|2,_|3,_|4,_|5,_|6,_|7,_|8,_|9,_|10,_|11,_|12,_|13,_|14,_|15,_|16,_|17,_|18,_|20,_=>
  simp only[xw]at h⊢;exact h
 | 19,_|21,_=>
  simp only[xw]at h⊢;obtain⟨h0,h1⟩:=h;exact⟨Nat.lt_of_lt_of_le h0 hg.size,(hg.cell _ _ h0 (by simp only[qC];omega)).trans h1⟩
 | (q+22),hq=>exact absurd hq (by omega)
def Rh(r:Rc):List UInt8:=aJ r.count++[]
def L9(r:Rc):List UInt8:=aJ 0++Rh r
def L8(r:Rc):List UInt8:=aJ 0++L9 r
def L7(r:Rc):List UInt8:=aJ r.after.length++(r.after++L8 r)
def L6(r:Rc):List UInt8:=aJ r.before.length++(r.before++L7 r)
def L5(r:Rc):List UInt8:=aJ r.off++L6 r
def L4(r:Rc):List UInt8:=aJ r.page++L5 r
def L3(r:Rc):List UInt8:=aJ r.next++L4 r
def L2(r:Rc):List UInt8:=aJ r.prev++L3 r
def L1(r:Rc):List UInt8:=aJ r.aV++L2 r
def L0(r:Rc):List UInt8:=aJ r.kind++L1 r
theorem alP(r:Rc)(ht:r.lQ=[])(hd:r.dirty=[]):r.enc=aJ (r.size-8)++L0 r:=by
 unfold Rc.enc L0 L1 L2 L3 L4 L5 L6 L7 L8 L9 Rh;rw[ht,hd];simp only[List.length_nil,List.flatMap_nil,List.append_nil,List.append_assoc]
theorem aiy(r:Rc):(L0 r).length=88+r.before.length+r.after.length:=by
 unfold L0 L1 L2 L3 L4 L5 L6 L7 L8 L9 Rh;simp only[List.length_append,dL,List.length_nil];omega
section
variable{w w':World}{rb:Nat}
theorem sQ.other{l:List UInt8}{v:Value}{X:Nat->Prop}(h:sQ w rb l v)(hg:aj X w w')(h1:¬X rb)(h2:∀q,v.ownBlock=some q->¬X q):sQ w' rb l v:=⟨h.box.aH hg h1,h.rd.aH hg h2,h.ne⟩
theorem sQ.cut{a b:List UInt8}{v:Value}{n m c:Nat}{ao:Option Addr}(h:sQ w rb (a++b) v)(hv:v=.slice ao m c)(hn:a.length=n):sQ (w.setCell ⟨rb,0,none⟩ (.slice ao n c)) rb a (.slice ao n c):=by
 subst hv;have hne:∀q,(Value.slice ao n c).ownBlock=some q->q≠rb:=fun q e=>h.ne q (by cases ao<;>exact e);refine⟨(h.box.set1 0 _).1,?_,hne⟩;have hrd:=h.rd;have hm:(a++b).length=m:=by obtain⟨_,_,e,_⟩:=hrd;injection e with _ e2 _;exact e2.symm
 rw[hm]at hrd;have hnm:n<=m:=by rw[<-hm,List.length_append];omega
 have h1:=hrd.bY 0 n (Nat.zero_le _) hnm;have e1:(((a++b).map B).drop (0*1)).take ((n-0)*1)=a.map B:=by
  rw[Nat.zero_mul,List.drop_zero,Nat.sub_zero,Nat.mul_one,List.map_append,List.take_left' (by rw[List.length_map];exact hn)]
 have e2:bY ao 0 c 1=ao:=by
  unfold bY;split
  ·rfl
  ·cases ao with
   | none=>rfl
   | some x=>simp[Addr.add_lit,Addr.add]
 rw[e1,e2,Nat.sub_zero,Nat.sub_zero]at h1;rw[hn];exact h1.aH (aF w rb 0 (.slice ao n c)) (fun q e1 e2=>hne q e1 e2)
theorem decode_ok(r:Rc)(hs:r.small)(hk:r.kind<=1152921504606846976/\r.aV<=1152921504606846976/\r.prev<=1152921504606846976/\r.next<=1152921504606846976/\r.page<=1152921504606846976/\r.off<=1152921504606846976/\r.count<=1152921504606846976)(rest:List UInt8)(v:Value)(m:Nat)(hm:(r.enc++rest).length=m)(hm2:m<=900000000)(hv:Reads 1 w v m ((r.enc++rest).map B)):
  Calls Tryz.prog 138 #[v] w fun e w'=>∃ab aa nb na,e=.returned (.tuple #[.agg (recC r ab aa nb nb na na),.int .i64 (r.size:Nat),.bool true])/\r.before.length=nb/\r.after.length=na/\Reads 1 w' (.slice ab nb nb) nb (r.before.map B)/\Reads 1 w' (.slice aa na na) na (r.after.map B)/\
   (∀q,(Value.slice ab nb nb).ownBlock=some q\/(Value.slice aa na na).ownBlock=some q->w.heap.size<=q/\q<w'.heap.size)/\Below w.heap.size w w':=by
 obtain⟨av,cv,rfl⟩:=hv.shape;obtain⟨nb,hnb⟩:∃x,r.before.length=x:=⟨_,rfl⟩
 obtain⟨na,hna⟩:∃x,r.after.length=x:=⟨_,rfl⟩
 have ap4:nb<=1048576:=by rw[<-hnb];exact hs.b
 have ap5:na<=1048576:=by rw[<-hna];exact hs.a
 have hsz:r.size=96+nb+na:=by unfold Rc.size;rw[hnb,hna,hs.t,hs.d];rfl
 have abY:(L0 r).length=88+nb+na:=by rw[aiy,hnb,hna]
 obtain⟨q0,hq0⟩:∃x,r.size-8=x:=⟨_,rfl⟩
 have hq1:q0=88+nb+na:=by omega
 have he:r.enc++rest=aJ q0++(L0 r++rest):=by rw[alP r hs.t hs.d,hq0,List.append_assoc]
 rw[he]at hv hm;have hmq:q0<=m-8/\8<=m:=by rw[<-hm,iZ,List.length_append,abY];omega
 have hmm:m-8=(L0 r++rest).length:=by rw[<-hm,iZ];omega
 have HV:=hid hv;have HM:=hid hm;have ny:=hid hsz;have HQ0:=hid hq0;have UN:=hid hq1;have tK:=hid hnb;have rD:=hid hna;have HK:=hid hk;have nS:=hid abY;have jP:=hid hmm;clear hv hsz hq0 hq1 hnb hna hs hk he hm abY hmm;go_enter Tryz.func138,Tryz.ntmps138;obtain⟨t2,ht2⟩:∃x,w.heap.size=x:=⟨_,rfl⟩
 have HT2:=hid ht2;have hbx:=Box.new w #[.int .i64 0,.int .i64 0,.int .i64 0,.int .i64 0,.int .i64 0,.int .i64 0,.slice none 0 0,.slice none 0 0,.slice none 0 0,.slice none 0 0,.int .i64 0] 85 rfl;have hal:=(Below.refl w.heap.size w).alloc (Nat.le_refl _) (.cells #[.int .i64 0,.int .i64 0,.int .i64 0,.int .i64 0,.int .i64 0,.int .i64 0,.slice none 0 0,.slice none 0 0,.slice none 0 0,.slice none 0 0,.int .i64 0] 85);go_upto_region 2 with (fail);obtain⟨rb,hrb⟩:∃x,t2+1=x:=⟨_,rfl⟩
 have fK:=hid hrb;have hbr:=Box.new (w.alloc (.cells #[.int .i64 0,.int .i64 0,.int .i64 0,.int .i64 0,.int .i64 0,.int .i64 0,.slice none 0 0,.slice none 0 0,.slice none 0 0,.slice none 0 0,.int .i64 0] 85)) #[.slice av m cv,.bool false] 207 rfl;have hal2:=hal.alloc hal.size (.cells #[.slice av m cv,.bool false] 207);have hbx2:=hbx.alloc (.cells #[.slice av m cv,.bool false] 207);have l7:=hid (HV.out.below hal2 (Nat.le_refl _));rw[hrb];rw[ht2]at hbx2;rw[show(w.alloc (.cells #[.int .i64 0,.int .i64 0,.int .i64 0,.int .i64 0,.int .i64 0,.int .i64 0,.slice none 0 0,.slice none 0 0,.slice none 0 0,.slice none 0 0,.int .i64 0] 85)).heap.size=rb by rw[<-hrb,<-ht2];simp]at hbr;have HW2:=hid hal2;clear hbx hal hal2 ht2 hrb;generalize (w.alloc (.cells #[.int .i64 0,.int .i64 0,.int .i64 0,.int .i64 0,.int .i64 0,.int .i64 0,.slice none 0 0,.slice none 0 0,.slice none 0 0,.slice none 0 0,.int .i64 0] 85)).alloc (.cells #[.slice av m cv,.bool false] 207)=w2 at *;have aiz:Hid (Box w2 t2 [.int .i64 0,.int .i64 0,.int .i64 0,.int .i64 0,.int .i64 0,.int .i64 0,.slice none 0 0,.slice none 0 0,.slice none 0 0,.slice none 0 0,.int .i64 0]):=hid hbx2;have HOWN:Hid (∀q,(Value.slice av m cv).ownBlock=some q->q<t2):=hid (fun q e=>by
  obtain⟨_,_,e1,_,_,hc⟩:=HV.out;obtain⟨b,o,e2,hb,_⟩:=hc (by omega);injection e1 with e3;rw[e3,e2]at e;have e4:b=q:=by simpa[Value.ownBlock]using e
  rw[<-e4,<-HT2.out];exact hb)
 have aiA:Hid (sQ w2 rb (aJ q0++(L0 r++rest)) (.slice av m cv)):=hid ⟨hbr,by rw[HM.out];exact l7.out,fun q e=>by have:=HOWN.out q e;have:=fK.out;omega⟩;have aiB:Hid (aj (fun k=>k=t2\/k=rb) w2 w2):=hid (aj.refl _);have aiC:Hid (∀q,(Value.slice av m cv).ownBlock=some q->q<t2):=HOWN;have P6:(aJ q0++(L0 r++rest)).length<=1000000000:=by rw[HM.out];omega
 clear hbx2 hbr HV l7;have HN:=hid (lV q0 (by omega) (L0 r++rest) (aJ q0++(L0 r++rest)) rfl P6 (.slice av m cv) aiA.out);go_wp2_with fail;refine HN.out.mono ?_;rintro e y1 ⟨v1,rfl,hra,hsub,hgx⟩;have D8:=hid hra;have aiD:=hid (aiz.out.aH hgx (by have:=fK.out;omega));have aiE:=hid (aiB.out.trans (hgx.mono (fun k h=>.inr h)));have aiF:Hid (∀q,Value.ownBlock v1=some q->q<t2):=hid (fun q e=>aiC.out q (hsub q e));clear hra hsub hgx HN aiA aiz aiB aiC;obtain⟨a1,k1,rfl⟩:=D8.out.rd.shape;have b0:=D8.out.box.cell 0 _ rfl;have b1:=D8.out.box.cell 1 _ rfl;have bf:=D8.out.box.free;have bl:=D8.out.box.lt;rw[<-jP.out]at b0;have hmk:m-8<=k1:=by
  obtain⟨_,_,e,_,h2,_⟩:=D8.out.rd;injection e with _ _ e3;rw[jP.out];omega
 have g1:decide ((q0:Int)>((m-8:Nat):Int))=false:=by simp;omega
 have g2:decide (((m-8:Nat):Int)<(q0:Int))=false:=by simp;omega
 have g3:decide (m-8<q0)=false:=by simp;omega
 obtain⟨m1,hm1⟩:∃x,m-8=x:=⟨_,rfl⟩
 have KL:=hid hm1;rw[hm1]at b0 hmk g1 g2 g3;have hqm:q0<=m1:=by omega
 have hqk:q0<=k1:=by omega
 clear hm1;go_upto_region 6 with (fail);have hrc:=D8.out.cut (a:=L0 r) (b:=rest) (n:=q0) (m:=m1) (c:=k1) (ao:=a1) (by rw[<-jP.out,KL.out]) (by rw[nS.out,UN.out]);have aiG:=hid hrc;have aiH:=hid (aiD.out.aH (aF y1 rb 0 (.slice a1 q0 k1)) (by have:=fK.out;omega));have aiI:=hid (aiE.out.trans ((aF y1 rb 0 (.slice a1 q0 k1)).mono (fun k h=>.inr h)));have aiJ:Hid (∀q,(Value.slice a1 q0 k1).ownBlock=some q->q<t2):=hid (fun q e=>aiF.out q (by cases a1<;>exact e));clear b0 b1 bf bl g1 g2 g3 hrc D8 aiD aiE aiF;generalize y1.setCell ⟨rb,0,none⟩ (.slice a1 q0 k1)=y2 at *;have ap6:(L0 r).length<=1000000000:=by rw[nS.out];omega
 have e10:(Rh r).length=8:=by unfold Rh;rw[iZ];rfl
 have e9:(L9 r).length=16:=by unfold L9;rw[iZ,e10]
 have e8:(L8 r).length=24:=by unfold L8;rw[iZ,e9]
 have e7:(L7 r).length=32+na:=by unfold L7;rw[iZ,List.length_append,e8,rD.out];omega
 have e6:(L6 r).length=40+na+nb:=by unfold L6;rw[iZ,List.length_append,e7,tK.out];omega
 have e5:(L5 r).length=48+na+nb:=by unfold L5;rw[iZ,e6];omega
 have e4:(L4 r).length=56+na+nb:=by unfold L4;rw[iZ,e5];omega
 have e3:(L3 r).length=64+na+nb:=by unfold L3;rw[iZ,e4];omega
 have e2:(L2 r).length=72+na+nb:=by unfold L2;rw[iZ,e3];omega
 have e1:(L1 r).length=80+na+nb:=by unfold L1;rw[iZ,e2];omega
 have HE:=hid (And.intro e10 (And.intro e9 (And.intro e8 (And.intro e7 (And.intro e6 (And.intro e5 (And.intro e4 (And.intro e3 (And.intro e2 e1)))))))));clear e10 e9 e8 e7 e6 e5 e4 e3 e2 e1 ap6;have HN:=hid (lV r.kind HK.out.1 (L1 r) (L0 r) rfl (by rw[nS.out];omega) (.slice a1 q0 k1) aiG.out);go_wp2_with fail;refine HN.out.mono ?_;rintro e y3 ⟨v3,rfl,hra,hsub,hgx⟩;have aiK:=hid hra;have aiL:=hid (aiH.out.aH hgx (by have:=fK.out;omega));have aiM:=hid (aiI.out.trans (hgx.mono (fun k h=>.inr h)));have aiN:Hid (∀q,Value.ownBlock v3=some q->q<t2):=hid (fun q e=>aiJ.out q (hsub q e));clear hra hsub hgx HN aiG aiH aiI aiJ;have HN:=hid (lV r.aV HK.out.2.1 (L2 r) (L1 r) rfl (by rw[HE.out.2.2.2.2.2.2.2.2.2];omega) v3 aiK.out);go_wp2_with fail;refine HN.out.mono ?_;rintro e y4 ⟨v4,rfl,hra,hsub,hgx⟩;have aiO:=hid hra;have aiP:=hid (aiL.out.aH hgx (by have:=fK.out;omega));have aiQ:=hid (aiM.out.trans (hgx.mono (fun k h=>.inr h)));have aiR:Hid (∀q,Value.ownBlock v4=some q->q<t2):=hid (fun q e=>aiN.out q (hsub q e));clear hra hsub hgx HN aiK aiL aiM aiN;have HN:=hid (lV r.prev HK.out.2.2.1 (L3 r) (L2 r) rfl (by rw[HE.out.2.2.2.2.2.2.2.2.1];omega) v4 aiO.out);go_wp2_with fail;refine HN.out.mono ?_;rintro e y5 ⟨v5,rfl,hra,hsub,hgx⟩;have aiS:=hid hra;have aiT:=hid (aiP.out.aH hgx (by have:=fK.out;omega));have aiU:=hid (aiQ.out.trans (hgx.mono (fun k h=>.inr h)));have aiV:Hid (∀q,Value.ownBlock v5=some q->q<t2):=hid (fun q e=>aiR.out q (hsub q e));clear hra hsub hgx HN aiO aiP aiQ aiR;have HN:=hid (lV r.next HK.out.2.2.2.1 (L4 r) (L3 r) rfl (by rw[HE.out.2.2.2.2.2.2.2.1];omega) v5 aiS.out);go_wp2_with fail;refine HN.out.mono ?_;rintro e y6 ⟨v6,rfl,hra,hsub,hgx⟩;have aiW:=hid hra;have aiX:=hid (aiT.out.aH hgx (by have:=fK.out;omega));have aiY:=hid (aiU.out.trans (hgx.mono (fun k h=>.inr h)));have aiZ:Hid (∀q,Value.ownBlock v6=some q->q<t2):=hid (fun q e=>aiV.out q (hsub q e))
 clear hra hsub hgx HN aiS aiT aiU aiV;have HN:=hid (lV r.page HK.out.2.2.2.2.1 (L5 r) (L4 r) rfl (by rw[HE.out.2.2.2.2.2.2.1];omega) v6 aiW.out);go_wp2_with fail;refine HN.out.mono ?_;rintro e y7 ⟨v7,rfl,hra,hsub,hgx⟩;have ai0:=hid hra;have ai1:=hid (aiX.out.aH hgx (by have:=fK.out;omega));have ai2:=hid (aiY.out.trans (hgx.mono (fun k h=>.inr h)));have ai3:Hid (∀q,Value.ownBlock v7=some q->q<t2):=hid (fun q e=>aiZ.out q (hsub q e));clear hra hsub hgx HN aiW aiX aiY aiZ;have HN:=hid (lV r.off HK.out.2.2.2.2.2.1 (L6 r) (L5 r) rfl (by rw[HE.out.2.2.2.2.2.1];omega) v7 ai0.out);go_wp2_with fail;refine HN.out.mono ?_;rintro e y8 ⟨v8,rfl,hra,hsub,hgx⟩;have ai4:=hid hra;have abZ:=hid (ai1.out.aH hgx (by have:=fK.out;omega));have ai5:=hid (ai2.out.trans (hgx.mono (fun k h=>.inr h)));have Xi:Hid (∀q,Value.ownBlock v8=some q->q<t2):=hid (fun q e=>ai3.out q (hsub q e));clear hra hsub hgx HN ai0 ai1 ai2 ai3;have rM:=abZ;have c0:=rM.out.cell 0 _ rfl;have c1:=rM.out.cell 1 _ rfl;have c2:=rM.out.cell 2 _ rfl;have c3:=rM.out.cell 3 _ rfl;have c4:=rM.out.cell 4 _ rfl;have c5:=rM.out.cell 5 _ rfl;have cf:=rM.out.free;have cl:=rM.out.lt;go_upto_region 7 with (fail);obtain⟨y9,hy9⟩:∃x,((((((y8.setCell ⟨t2,0,none⟩ (.int .i64 (r.kind:Nat))).setCell ⟨t2,1,none⟩ (.int .i64 (r.aV:Nat))).setCell ⟨t2,2,none⟩ (.int .i64 (r.prev:Nat))).setCell ⟨t2,3,none⟩ (.int .i64 (r.next:Nat))).setCell ⟨t2,4,none⟩ (.int .i64 (r.page:Nat))).setCell ⟨t2,5,none⟩ (.int .i64 (r.off:Nat)))=x:=⟨_,rfl⟩
 have IV:=((((((abZ.out.setCell 0 (.int .i64 (r.kind:Nat))).setCell 1 (.int .i64 (r.aV:Nat))).setCell 2 (.int .i64 (r.prev:Nat))).setCell 3 (.int .i64 (r.next:Nat))).setCell 4 (.int .i64 (r.page:Nat))).setCell 5 (.int .i64 (r.off:Nat)))
 have pK:aj (fun k=>k=t2) y8 ((((((y8.setCell ⟨t2,0,none⟩ (.int .i64 (r.kind:Nat))).setCell ⟨t2,1,none⟩ (.int .i64 (r.aV:Nat))).setCell ⟨t2,2,none⟩ (.int .i64 (r.prev:Nat))).setCell ⟨t2,3,none⟩ (.int .i64 (r.next:Nat))).setCell ⟨t2,4,none⟩ (.int .i64 (r.page:Nat))).setCell ⟨t2,5,none⟩ (.int .i64 (r.off:Nat))):=(((((((aj.refl y8).trans (aF _ t2 0 _)).trans (aF _ t2 1 _)).trans (aF _ t2 2 _)).trans (aF _ t2 3 _)).trans (aF _ t2 4 _)).trans (aF _ t2 5 _))
 rw[hy9]at IV pK;rw[hy9];have Xj:Hid (Box y9 t2 [.int .i64 (r.kind:Nat),.int .i64 (r.aV:Nat),.int .i64 (r.prev:Nat),.int .i64 (r.next:Nat),.int .i64 (r.page:Nat),.int .i64 (r.off:Nat),.slice none 0 0,.slice none 0 0,.slice none 0 0,.slice none 0 0,.int .i64 0]):=hid IV;have ab1:=hid (ai4.out.other pK (by have:=fK.out;omega) (fun q e h=>by have:=Xi.out q e;omega));have ai7:=hid (ai5.out.trans (pK.mono (fun k h=>.inl h)));have ai8:=Xi;have ai9:∀q,Value.ownBlock v8=some q->q<y9.heap.size:=fun q e=>by have h1:=Xi.out q e;have h2:=Xj.out.lt;omega
 clear c0 c1 c2 c3 c4 c5 cf cl rM IV pK hy9 ai4 abZ ai5;have HD:=hid (Q9 r.before (L7 r) (L6 r) nb tK.out ap4 (by unfold L6;rw[tK.out]) (by rw[HE.out.2.2.2.2.1];omega) v8 ab1.out ai9);clear ai9;go_wp2_with fail;refine HD.out.mono ?_;rintro e IW ⟨ab,v10,rfl,PY,aja,hra,hsub,hgx⟩;have ajb:=hid PY;have ajc:=hid aja;have Xk:=hid hra;have NM:=hid (Xj.out.aH hgx (by have:=fK.out;omega));have Xl:=hid (ai7.out.trans (hgx.mono (fun k h=>.inr h)));have Xm:Hid (∀q,Value.ownBlock v10=some q->q<t2):=hid (fun q e=>ai8.out q (hsub q e));have ajd:Hid (t2<y9.heap.size/\rb<y9.heap.size):=hid ⟨Xj.out.lt,ab1.out.box.lt⟩;have aea:∀q,Value.ownBlock v10=some q->q<IW.heap.size:=fun q e=>by have h1:=Xm.out q e;have h2:=NM.out.lt;omega
 clear PY aja hra hsub hgx HD ab1 Xj ai7 ai8 Xi;have HD:=hid (Q9 r.after (L8 r) (L7 r) na rD.out ap5 (by unfold L7;rw[rD.out]) (by rw[HE.out.2.2.2.1];omega) v10 Xk.out aea);clear aea;go_wp2_with fail;refine HD.out.mono ?_;rintro e CB ⟨aa,v11,rfl,aje,ajf,hra,hsub,hgx⟩;have Xn:=hid aje;have ab2:Hid (∀q,(Value.slice aa na na).ownBlock=some q->t2<q/\rb<q/\q<CB.heap.size):=hid (fun q e=>by have h1:=ajf q e;have h2:=ajd.out;have h3:=Xl.out;have h4:=NM.out.lt;have h5:=Xk.out.box.lt;omega);have Xo:Hid (∀q,(Value.slice ab nb nb).ownBlock=some q->t2<q/\rb<q/\q<CB.heap.size):=hid (fun q e=>by have h1:=ajc.out q e;have h2:=ajd.out;have h3:=hgx.size;omega);have ajg:=hid (ajb.out.aH hgx (fun q e h=>by have:=Xo.out q e;omega));have aeb:=hid hra;have Xp:=hid (NM.out.aH hgx (by have:=fK.out;omega));have aec:=hid (Xl.out.trans (hgx.mono (fun k h=>.inr h)));have aed:Hid (∀q,Value.ownBlock v11=some q->q<t2):=hid (fun q e=>Xm.out q (hsub q e));clear aje ajf hra hsub HD Xk NM Xl Xm ajb ajc;have DU:Hid (True):=hid trivial;clear hgx;have rM:=Xp;have c6:=rM.out.cell 6 _ rfl;have c7:=rM.out.cell 7 _ rfl;have cf:=rM.out.free;have cl:=rM.out.lt;go_upto_region 8 with (fail);have ab3:=(Xp.out.setCell 6 (.slice ab nb nb)).setCell 7 (.slice aa na na);have BJ:aj (fun k=>k=t2) CB ((CB.setCell ⟨t2,6,none⟩ (.slice ab nb nb)).setCell ⟨t2,7,none⟩ (.slice aa na na)):=(aF CB t2 6 _).trans (aF _ t2 7 _);obtain⟨zD,ab4⟩:∃x,(CB.setCell ⟨t2,6,none⟩ (.slice ab nb nb)).setCell ⟨t2,7,none⟩ (.slice aa na na)=x:=⟨_,rfl⟩
 rw[ab4]at ab3 BJ;rw[ab4];have aee:Hid (Box zD t2 [.int .i64 (r.kind:Nat),.int .i64 (r.aV:Nat),.int .i64 (r.prev:Nat),.int .i64 (r.next:Nat),.int .i64 (r.page:Nat),.int .i64 (r.off:Nat),.slice ab nb nb,.slice aa na na,.slice none 0 0,.slice none 0 0,.int .i64 0]):=hid ab3;have aef:=hid (aeb.out.other BJ (by have:=fK.out;omega) (fun q e h=>by have:=aed.out q e;omega));have aeg:=hid (aec.out.trans (BJ.mono (fun k h=>.inl h)));have aeh:=aed;have alQ:Hid (CB.heap.size<=zD.heap.size):=hid BJ.size;have ap7:=hid (ajg.out.aH BJ (fun q e h=>by have:=Xo.out q e;omega));have ap8:=hid (Xn.out.aH BJ (fun q e h=>by have:=ab2.out q e;omega));clear c6 c7 cf cl rM ab3 BJ ab4 aeb Xp aec Xn ajg;have ajh:Hid (aj (fun k=>k=t2\/k=rb) zD zD):=hid (aj.refl _);have HN:=hid (lV 0 (by omega) (L9 r) (L8 r) rfl (by rw[HE.out.2.2.1];omega) v11 aef.out);go_wp2_with fail;refine HN.out.mono ?_;rintro e y13 ⟨v13,rfl,hra,hsub,hgx⟩;have Jk:=hid hra;have aei:=hid (aee.out.aH hgx (by have:=fK.out;omega));have aej:=hid (aeg.out.trans (hgx.mono (fun k h=>.inr h)));have aek:Hid (∀q,Value.ownBlock v13=some q->q<t2):=hid (fun q e=>aeh.out q (hsub q e));have aji:=hid (ajh.out.trans (hgx.mono (fun k h=>.inr h)));clear hra hsub hgx HN aef aee aeg aeh;go_wp2_with fail;have r1:=Jk.out.box.cell 1 _ rfl;have r0:=Jk.out.box.cell 0 _ rfl;have rl:=Jk.out.box.lt;refine wp_loop_rounds 1 ?_;rw[rounds_succ];go_wp2_with fail;clear r1 r0 rl;have HN:=hid (lV 0 (by omega) (Rh r) (L9 r) rfl (by rw[HE.out.2.1];omega) v13 Jk.out);refine HN.out.mono ?_;rintro e y14 ⟨v14,rfl,hra,hsub,hgx⟩;have Jl:=hid hra;have ael:=hid (aei.out.aH hgx (by have:=fK.out;omega));have aem:=hid (aej.out.trans (hgx.mono (fun k h=>.inr h)));have aen:Hid (∀q,Value.ownBlock v14=some q->q<t2):=hid (fun q e=>aek.out q (hsub q e));have ajj:=hid (aji.out.trans (hgx.mono (fun k h=>.inr h)))
 clear hra hsub hgx HN Jk aei aej aek;go_wp2_with fail;have r1:=Jl.out.box.cell 1 _ rfl;have r0:=Jl.out.box.cell 0 _ rfl;have rl:=Jl.out.box.lt;refine wp_loop_rounds 1 ?_;rw[rounds_succ];go_wp2_with fail;clear r1 r0 rl;have HN:=hid (lV r.count HK.out.2.2.2.2.2.2 ([]) (Rh r) rfl (by rw[HE.out.1];omega) v14 Jl.out);refine HN.out.mono ?_;rintro e y15 ⟨v15,rfl,hra,hsub,hgx⟩;have aeo:=hid hra;have Xq:=hid (ael.out.aH hgx (by have:=fK.out;omega));have aep:=hid (aem.out.trans (hgx.mono (fun k h=>.inr h)));have aer:Hid (∀q,Value.ownBlock v15=some q->q<t2):=hid (fun q e=>aen.out q (hsub q e));have ajl:=hid (ajj.out.trans (hgx.mono (fun k h=>.inr h)));clear hra hsub hgx HN Jl ael aem aen;have rM:=Xq;have c10:=rM.out.cell 10 _ rfl;have cf:=rM.out.free;have cl:=rM.out.lt;go_upto_region 17 with (fail);have hb16:=Xq.out.setCell 10 (.int .i64 (r.count:Nat));have Ri:=aF y15 t2 10 (.int .i64 (r.count:Nat));obtain⟨Rj,ab5⟩:∃x,y15.setCell ⟨t2,10,none⟩ (.int .i64 (r.count:Nat))=x:=⟨_,rfl⟩
 rw[ab5]at hb16 Ri;rw[ab5];have alR:Hid (Box Rj t2 [.int .i64 (r.kind:Nat),.int .i64 (r.aV:Nat),.int .i64 (r.prev:Nat),.int .i64 (r.next:Nat),.int .i64 (r.page:Nat),.int .i64 (r.off:Nat),.slice ab nb nb,.slice aa na na,.slice none 0 0,.slice none 0 0,.int .i64 (r.count:Nat)]):=hid hb16;have NP:=hid (aeo.out.other Ri (by have:=fK.out;omega) (fun q e h=>by have:=aer.out q e;omega));have alS:=hid (aep.out.trans (Ri.mono (fun k h=>.inl h)));have Xr:=hid (ajl.out.trans (Ri.mono (fun k h=>.inl h)));clear c10 cf cl rM hb16 Ri ab5 aeo Xq aep aer;obtain⟨a16,k16,rfl⟩:=NP.out.rd.shape;have r1:=NP.out.box.cell 1 _ rfl;have r0:Rj.cell? ⟨rb,0,none⟩=some (.slice a16 0 k16):=NP.out.box.cell 0 _ rfl;have rl:=NP.out.box.lt;go_upto_region 19 with (fail);clear r1 r0 rl;have bt:Box Rj t2 [.int .i64 (r.kind:Nat),.int .i64 (r.aV:Nat),.int .i64 (r.prev:Nat),.int .i64 (r.next:Nat),.int .i64 (r.page:Nat),.int .i64 (r.off:Nat),.slice ab nb nb,.slice aa na na,.slice none 0 0,.slice none 0 0,.int .i64 (r.count:Nat)]:=alR.out;have hB:Below 0 Rj Rj:=Below.refl _ _;refine aQ (qC t2 nb na ab aa r) 22 [[],[0],[],[2],[2,3],[],[5],[5,6],[0,1,2,3,4,5,6,7],[],[9],[],[11],[11,12],[],[14],[14,15],[9,10,11,12,13,14,15,16],[0,1,2,3,4,5,6,7,8,9,10,11,12,14,15],[0,1,2,3,4,5,6,7,8,9,10,11,12,14,15,18],[0,1,2,3,4,5,6,7,8,9,10,11,12,13,14,15,16,17,18,19],[0,1,2,3,4,5,6,7,8,9,10,11,12,13,14,15,16,17,18,19,20]] [some 125,some 126,some 127,some 128,some 129,some 130,some 131,some 132,some 133,some 134,some 135,some 136,some 137,some 138,some 139,some 140,some 141,some 142,some 143,none,some 144,none] (by kernel_rfl) (by kernel_rfl) rfl (xw t2 nb na ab aa r) (Rf t2 nb na ab aa r) ?alT ?_
 case alT=>
  intro i hi o ho vs lo eX w' hg hp;have hsz:=hg.size;replace hp:=fun j hj=>(hp j hj).2.2.2
  match i,hi with
  | 0,_|2,_|5,_|9,_|11,_|14,_|18,_|1,_|3,_|4,_|6,_|7,_|8,_|10,_|12,_|13,_|15,_|16,_|17,_|20,_=>
   cases ho;simp only[aA,xw]at hp
   first|simp only[ak,Act.put,aA,hp]|simp only[ak,Act.put,aA]
   try have e0:=(hg.cell (t2) 8 bt.lt (by rintro⟨j,_,hne,hb,hw⟩;first|(simp only[qC]at hw;rcases hw with ⟨rfl,e1,e2⟩|⟨rfl,e1,e2⟩<;>first|omega|(exact hb (by decide)))|fail)).trans (bt.cell 8 _ rfl)
   try have e1:=(hg.cell (t2) 9 bt.lt (by rintro⟨j,_,hne,hb,hw⟩;first|(simp only[qC]at hw;rcases hw with ⟨rfl,e1,e2⟩|⟨rfl,e1,e2⟩<;>first|omega|(exact hb (by decide)))|fail)).trans (bt.cell 9 _ rfl)
   go_wp2;exact⟨_,rfl,aB.refl _,rfl⟩
  | 19,_=>
   cases ho;simp only[ak,Act.put,aA];have h8:=hp 8 (by simp);have h18:=hp 18 (by simp);simp only[xw]at h8 h18;rw[h8,h18];have o0:=(hg.cell (t2) 8 bt.lt (by rintro⟨j,_,hne,hb,hw⟩;simp only[qC]at hw;omega)).trans (bt.cell 8 _ rfl);have fz:∀o,w'.frozen? ⟨t2,o,none⟩=false:=fun o=>(hg.frozen _ o bt.lt).trans (bt.free o);have hlt:t2<w'.heap.size:=by have:=bt.lt;omega
   go_wp2;exact⟨.bool true,rfl,((aB.refl _).setCell (by unfold qC;omega) hlt _),by simpa[World.setCell]using hlt,World.cell?_setCell_same _ _ _ o0⟩
  | 21,_=>
   cases ho;simp only[ak,Act.put,aA];have h17:=hp 17 (by simp);have h19:=hp 19 (by simp);have h20:=hp 20 (by simp);simp only[xw]at h17 h19 h20;rw[h17,h20];have o0:=(hg.cell (t2) 9 bt.lt (by rintro⟨j,_,hne,hb,hw⟩;simp only[qC]at hw;omega)).trans (bt.cell 9 _ rfl);have fz:∀o,w'.frozen? ⟨t2,o,none⟩=false:=fun o=>(hg.frozen _ o bt.lt).trans (bt.free o);have hlt:t2<w'.heap.size:=by have:=bt.lt;omega
   go_wp2;exact⟨.bool true,rfl,((aB.refl _).setCell (by unfold qC;omega) hlt _),by simpa[World.setCell]using hlt,World.cell?_setCell_same _ _ _ o0⟩
  | (q+22),hq=>exact absurd hq (by omega)
 intro vS lo hi y17 hg hp;generalize hLL:List.drop 22 _=LL;simp only[List.drop_succ_cons,List.drop_zero,List.drop_nil]at hLL;intro hd;have hP:=fun j hj=>(hp j hj).2.2.2;have h0:=hP 0 (by decide);have h1:=hP 1 (by decide);have h2:=hP 2 (by decide);have h3:=hP 3 (by decide);have h4:=hP 4 (by decide);have h5:=hP 5 (by decide);have h6:=hP 6 (by decide);have h7:=hP 7 (by decide);have h8:=hP 8 (by decide);have h9:=hP 9 (by decide);have h10:=hP 10 (by decide);have h11:=hP 11 (by decide);have h12:=hP 12 (by decide);have h13:=hP 13 (by decide);have dH:=hP 14 (by decide);have h15:=hP 15 (by decide);have h16:=hP 16 (by decide);have h17:=hP 17 (by decide);have h18:=hP 18 (by decide);have h19:=hP 19 (by decide);have h20:=hP 20 (by decide);have h21:=hP 21 (by decide);clear hP;simp only[xw]at h0 h1 h2 h3 h4 h5 h6 h7 h8 h9 h10 h11 h12 h13 dH h15 h16 h17 h18 h19 h20 h21;clear hp hd;have hsz:=hg.size;replace bt:Box y17 (t2) [.int .i64 (r.kind:Nat),.int .i64 (r.aV:Nat),.int .i64 (r.prev:Nat),.int .i64 (r.next:Nat),.int .i64 (r.page:Nat),.int .i64 (r.off:Nat),.slice ab nb nb,.slice aa na na,.slice none 0 0,.slice none 0 0,.int .i64 (r.count:Nat)]:=bt.upd hg (by
  intro i v hi
  match i,hi with
  | 0,hi|1,hi|2,hi|3,hi|4,hi|5,hi|6,hi|7,hi|10,hi=>exact .inr ⟨(by rintro⟨j,_,hw⟩;simp only[qC]at hw;omega),hi⟩
  | 8,hi=>exact .inl (by obtain rfl:=Option.some.inj hi;exact h19.2)
  | 9,hi=>exact .inl (by obtain rfl:=Option.some.inj hi;exact h21.2)
  | (q+11),hi=>cases hi)
 replace hB:=hB.trans (hg.below (fun k hk=>⟨by omega,fun o=>by rintro⟨j,_,hw⟩;simp only[qC]at hw;omega⟩));subst hLL;have hr:List.range 22=[0,1,2,3,4,5,6,7,8,9,10,11,12,13,14,15,16,17,18,19,20,21]:=rfl;rw[hr];clear hr;simp only[List.drop_succ_cons,List.drop_zero,List.drop_nil,ak,Act.put,aA,h0,h1,h2,h3,h4,h5,h6,h7,h8,h9,h10,h11,h12,h13,dH,h15,h16,h17,h18,h20];clear h0 h1 h2 h3 h4 h5 h6 h7 h8 h9 h10 h11 h12 h13 dH h15 h16 h17 h18 h19 h20 h21;have nX:Hid (Box y17 t2 [.int .i64 (r.kind:Nat),.int .i64 (r.aV:Nat),.int .i64 (r.prev:Nat),.int .i64 (r.next:Nat),.int .i64 (r.page:Nat),.int .i64 (r.off:Nat),.slice ab nb nb,.slice aa na na,.slice none 0 0,.slice none 0 0,.int .i64 (r.count:Nat)]):=hid bt;have ajm:Hid (aj (fun k=>k=t2) Rj y17):=hid (aj.aK hg (fun k o hw=>by obtain⟨j,_,hw⟩:=hw;simp only[qC]at hw;omega));clear bt hB hg hsz;have c0:=nX.out.cell 0 _ rfl;have c1:=nX.out.cell 1 _ rfl;have c2:=nX.out.cell 2 _ rfl;have c3:=nX.out.cell 3 _ rfl;have c4:=nX.out.cell 4 _ rfl;have c5:=nX.out.cell 5 _ rfl;have c6:=nX.out.cell 6 _ rfl;have c7:=nX.out.cell 7 _ rfl;have c8:=nX.out.cell 8 _ rfl;have c9:=nX.out.cell 9 _ rfl;have c10:=nX.out.cell 10 _ rfl;have cf:=nX.out.free;have cl:=nX.out.lt;go_wp2_with fail;obtain⟨hp1,hp2⟩:=NG nX.out (.int .i64 (r.kind:Nat)) (.int .i64 (r.aV:Nat)) (.int .i64 (r.prev:Nat)) (.int .i64 (r.next:Nat)) (.int .i64 (r.page:Nat)) (.int .i64 (r.off:Nat)) (.slice ab nb nb) (.slice aa na na) (.slice none 0 0) (.slice none 0 0) (.int .i64 (r.count:Nat))
 obtain⟨y18,ab6⟩:∃x,(((((((((((y17.setCell ⟨t2,0,none⟩ (.int .i64 (r.kind:Nat))).setCell ⟨t2,1,none⟩ (.int .i64 (r.aV:Nat))).setCell ⟨t2,2,none⟩ (.int .i64 (r.prev:Nat))).setCell ⟨t2,3,none⟩ (.int .i64 (r.next:Nat))).setCell ⟨t2,4,none⟩ (.int .i64 (r.page:Nat))).setCell ⟨t2,5,none⟩ (.int .i64 (r.off:Nat))).setCell ⟨t2,6,none⟩ (.slice ab nb nb)).setCell ⟨t2,7,none⟩ (.slice aa na na)).setCell ⟨t2,8,none⟩ (.slice none 0 0)).setCell ⟨t2,9,none⟩ (.slice none 0 0)).setCell ⟨t2,10,none⟩ (.int .i64 (r.count:Nat)))=x:=⟨_,rfl⟩
 rw[ab6]at hp1 hp2;rw[ab6];clear ab6 c0 c1 c2 c3 c4 c5 c6 c7 c8 c9 c10;have d0:=hp1.cell 0 _ rfl;have d1:=hp1.cell 1 _ rfl;have d2:=hp1.cell 2 _ rfl;have d3:=hp1.cell 3 _ rfl;have d4:=hp1.cell 4 _ rfl;have d5:=hp1.cell 5 _ rfl;have d6:=hp1.cell 6 _ rfl;have d7:=hp1.cell 7 _ rfl;have d8:=hp1.cell 8 _ rfl;have d9:=hp1.cell 9 _ rfl;have d10:=hp1.cell 10 _ rfl;have dl:=hp1.lt;have ahb:(q0:Int)+8=((r.size:Nat):Int):=by have h1:=ny.out;have h2:=UN.out;omega
 refine bodyPost_ret (v:=.tuple #[.agg (recC r ab aa nb nb na na),.int .i64 ((q0:Int)+8),.bool true]) (by simp[results,Tryz.results138,go_sem,d0,d1,d2,d3,d4,d5,d6,d7,d8,d9,d10]) rfl ?_;have ab7:aj (fun k=>k=t2\/k=rb) zD y18:=(Xr.out.trans (ajm.out.mono (fun k h=>.inl h))).trans (hp2.mono (fun k h=>.inl h));have auJ:CB.heap.size<=y18.heap.size:=Nat.le_trans alQ.out ab7.size;refine⟨ab,aa,nb,na,by rw[ahb],tK.out,rD.out,ap7.out.aH ab7 (fun q e h=>by have:=Xo.out q e;omega),ap8.out.aH ab7 (fun q e h=>by have:=ab2.out q e;omega),fun q e=>?_,?_⟩
 ·rw[HT2.out];rcases e with e|e
  ·have:=Xo.out q e;exact⟨by omega,by omega⟩
  ·have:=ab2.out q e;exact⟨by omega,by omega⟩
 ·have hg:=(alS.out.trans (ajm.out.mono (fun k h=>.inl h))).trans (hp2.mono (fun k h=>.inl h));exact HW2.out.trans (hg.below (fun k hk=>⟨by have:=HW2.out.size;omega,fun h=>by have h1:=HT2.out;have h2:=fK.out;omega⟩))
end
end
section
open Go.RowKit
def dG:Nat->List Rc->List (Nat×Rc)
 | _,[]=>[]
 | st,r::rs=>(st+1,r)::dG (st+r.size) rs
def dR(rs:List Rc):Nat:=(rs.map Rc.size).sum
def lW(n:Nat)(rs:List Rc):Nat:=rs.foldl (fun a r=>max a (r.aV+1)) n
def cZ(rs:List Rc):List UInt8:=rs.flatMap Rc.enc
theorem Jm(r:Rc):∀(rs:List Rc)(st:Nat),dG st (rs++[r])=dG st rs++[(st+dR rs+1,r)]
 | [],st=>by simp[dG,dR]
 | x::rs,st=>by
  show(st+1,x)::dG (st+x.size) (rs++[r])=_;rw[Jm r rs];have:st+x.size+dR rs+1=st+dR (x::rs)+1:=by simp[dR];omega
  rw[this];rfl
theorem Ea(r:Rc)(rs:List Rc):dR (rs++[r])=dR rs+r.size:=by simp[dR]
theorem Ug(r:Rc)(rs:List Rc)(n:Nat):lW n (rs++[r])=max (lW n rs) (r.aV+1):=by simp[lW]
theorem Jo(r:Rc)(rs:List Rc):cZ (r::rs)=r.enc++cZ rs:=rfl
structure Rc.mid(r:Rc):Prop where
 s:r.small
 kind:r.kind<=1099511627776
 aV:r.aV<=1099511627776
 prev:r.prev<=1099511627776
 next:r.next<=1099511627776
 page:r.page<=1099511627776
 off:r.off<=1099511627776
 count:r.count<=1099511627776
theorem vZ:∀rs:List Rc,(∀r∈rs,r.mid)->(cZ rs).length=dR rs
 | [],_=>rfl
 | r::rs,h=>by
  rw[Jo,List.length_append,vZ rs (fun x hx=>h x (by simp[hx])),oZ r (h r (by simp)).s.t (h r (by simp)).s.d];simp[dR]
theorem Eb(m:Nat):∀(rs:List Rc)(n:Nat),(∀r∈rs,r.aV+1<=m)->n<=m->lW n rs<=m
 | [],n,_,h=>h
 | r::rs,n,h1,h2=>Eb m rs (max n (r.aV+1)) (fun x hx=>h1 x (by simp[hx])) (by have:=h1 r (by simp);omega)
def aeu(A:bG)(σ:St)(vl vo:Value)(st nb G:Nat)(L:List UInt8)(j b o:Nat):Prop:=False
def jK(A:bG)(σ:St)(vl vo:Value)(st nb G:Nat)(L:List UInt8)(i:Nat)(VS:Nat->Value)(LO HI:Nat->Nat)(v:Value)(lo hi:Nat)(w:World):Prop:=
 match i with
 | 0=>v=.pointer (some ⟨A.sb,0,none⟩)
 | 1=>v=.pointer (some ⟨A.sb,0,none⟩)
 | 2=>v=.pointer (some ⟨A.sb,1,none⟩)
 | 3=>v=.pointer (some ⟨A.r,0,none⟩)
 | 4=>v=.pointer (some ⟨A.sb,0,none⟩)
 | 5=>v=.pointer (some ⟨A.sb,0,none⟩)
 | 6=>v=.pointer (some ⟨A.sb,1,none⟩)
 | 7=>v=.pointer (some ⟨A.r,0,none⟩)
 | 8=>v=.int .i64 ((st:Nat):Int)
 | 9=>v=.pointer (some ⟨A.sb,0,none⟩)
 | 10=>v=.pointer (some ⟨A.sb,0,none⟩)
 | 11=>v=.pointer (some ⟨A.sb,1,none⟩)
 | 12=>v=.pointer (some ⟨A.r,0,none⟩)
 | 13=>v=.int .i64 ((st+nb:Nat):Int)
 | 14=>v=.pointer (some ⟨A.sb,0,none⟩)
 | 15=>v=.pointer (some ⟨A.sb,0,none⟩)
 | 16=>v=.pointer (some ⟨A.sb,1,none⟩)
 | 17=>v=.pointer (some ⟨A.r,0,none⟩)
 | 18=>v=.int .i64 ((st:Nat):Int)
 | 19=>v=.int .i64 ((nb:Nat):Int)
 | 20=>∃ao cp,v=.tuple #[.slice ao nb cp,.int .i64 0]/\w.ownsRow G 5 1 (.slice ao nb cp) nb (L.map B)
 | 21=>v=VS 20
 | 22=>∃ao cp,VS 20=.tuple #[.slice ao nb cp,.int .i64 0]/\v=.slice ao nb cp
 | 23=>v=.int .i64 0
 | 24=>v=VS 22
 | 25=>v=.int .i64 0
 | _=>True
abbrev Xt:List (List Nat):=[[],[0],[0,1],[0,1,2],[],[4],[4,5],[4,5,6],[4,5,6,7],[],[9],[9,10],[9,10,11],[4,5,6,7,8,9,10,11,12],[],[14],[14,15],[14,15,16],[4,5,6,7,8,9,10,11,12,13,14,15,16,17],[4,5,6,7,8,9,10,11,12,13,14,15,16,17,18],[0,1,2,3,4,5,6,7,8,9,10,11,12,13,14,15,16,17,18,19],[0,1,2,3,4,5,6,7,8,9,10,11,12,13,14,15,16,17,18,19,20],[0,1,2,3,4,5,6,7,8,9,10,11,12,13,14,15,16,17,18,19,20,21],[0,1,2,3,4,5,6,7,8,9,10,11,12,13,14,15,16,17,18,19,20,21],[0,1,2,3,4,5,6,7,8,9,10,11,12,13,14,15,16,17,18,19,20,21,22],[0,1,2,3,4,5,6,7,8,9,10,11,12,13,14,15,16,17,18,19,20,21,22,23,24]]
theorem Rk(A:bG)(σ:St)(vl vo:Value)(st nb G:Nat)(L:List UInt8)  : ∀i j,i<26->j<26->j≠i->j∉Xt.getD i []->(i,j)∉([]:List (Nat×Nat))->∀VS LO HI v lo hi w w',jK A σ vl vo st nb G L i VS LO HI v lo hi w->aB (aeu A σ vl vo st nb G L j) w w'->jK A σ vl vo st nb G L i VS LO HI v lo hi w':=by
 intro i j hi hj hne hbs hx VS LO HI v lo hj2 w w' h hg
 match i,hi with
 | 0,_|1,_|2,_|3,_|4,_|5,_|6,_|7,_|8,_|9,_|10,_|11,_|12,_|13,_|14,_|15,_|16,_|17,_|18,_|19,_|21,_|22,_|23,_|24,_|25,_=>
  simp only[jK]at h⊢;exact h
 | 20,_=>
  simp only[jK]at h⊢;obtain⟨ao,cp,e,ho⟩:=h;exact⟨ao,cp,e,aI (X:=fun _=>False) ho (aj.aK hg (fun k o hw=>hw)) (fun _ _ h=>h)⟩
 | (q+26),hq=>exact absurd hq (by omega)
theorem Xu(A:bG)(σ:St)(vl vo:Value)(st nb G:Nat)(L:List UInt8):∀i,i<26->∀VS dZ LO eu HI eF v lz hz w,(∀j∈Xt.getD i [],VS j=dZ j/\LO j=eu j/\HI j=eF j)->jK A σ vl vo st nb G L i VS LO HI v lz hz w->jK A σ vl vo st nb G L i dZ eu eF v lz hz w:=by
 intro i hi VS dZ LO eu HI eF v lz hz w he h
 match i,hi with
 | 0,_|1,_|2,_|3,_|4,_|5,_|6,_|7,_|8,_|9,_|10,_|11,_|12,_|13,_|14,_|15,_|16,_|17,_|18,_|19,_|20,_|23,_|25,_=>
  simp only[jK]at h⊢;exact h
 | 21,_|22,_=>
  simp only[jK]at h⊢;obtain⟨ap9,aqa,aqb⟩:=he 20 (by decide);simp only[<-ap9,<-aqa,<-aqb];exact h
 | 24,_=>
  simp only[jK]at h⊢;obtain⟨aqc,aqd,aqe⟩:=he 22 (by decide);simp only[<-aqc,<-aqd,<-aqe];exact h
 | (q+26),hq=>exact absurd hq (by omega)
def kW(A:bG)(σj:St)(vj vo:Value)(r:Rc)(ab aa:Option Addr)(qb qa t6 T k G0 G:Nat)(EL:List Le)(j b o:Nat):Prop:=(j=10/\vj.ownBlock=some b)
def qE(A:bG)(σj:St)(vj vo:Value)(r:Rc)(ab aa:Option Addr)(qb qa t6 T k G0 G:Nat)(EL:List Le)(i:Nat)(v:Value)(lo hi:Nat)(w:World):Prop:=
 match i with
 | 0=>v=.pointer (some ⟨A.sb,0,none⟩)
 | 1=>v=.pointer (some ⟨A.sb,0,none⟩)
 | 2=>v=.pointer (some ⟨A.sb,0,none⟩)
 | 3=>v=.pointer (some ⟨A.sb,4,none⟩)
 | 4=>v=vj
 | 5=>v=.int .i64 ((T:Nat):Int)
 | 6=>v=.int .i64 ((T+1:Nat):Int)
 | 7=>v=.agg #[.int .i64 (r.kind:Nat),.int .i64 (r.aV:Nat),.int .i64 (r.prev:Nat),.int .i64 (r.next:Nat),.int .i64 (r.page:Nat),.int .i64 (r.off:Nat),.slice ab qb qb,.slice aa qa qa,.slice none 0 0,.slice none 0 0,.int .i64 (r.count:Nat)]
 | 8=>v=.agg #[.int .i64 ((T+1:Nat):Int),.int .i64 (r.kind:Nat),.int .i64 (r.aV:Nat),.int .i64 (r.prev:Nat),.int .i64 (r.next:Nat),.int .i64 (r.page:Nat),.int .i64 (r.off:Nat),.slice ab qb qb,.slice aa qa qa,.slice none 0 0,.slice none 0 0,.int .i64 (r.count:Nat)]
 | 9=>∃g,v=.slice (some ⟨g,0,none⟩) 1 1/\G<=g/\Reads 12 w v 1 (eG ⟨T+1,r,.slice ab qb qb,.slice aa qa qa⟩)
 | 10=>∃ao c,v=.slice ao (k+1) c/\w.ownsRow G0 87 12 (.slice ao (k+1) c) (k+1) (fA EL++(eG ⟨T+1,r,.slice ab qb qb,.slice aa qa qa⟩))/\∀q,(Value.slice ao (k+1) c).ownBlock=some q->vj.ownBlock=some q\/G<=q
 | 11=>v=.pointer (some ⟨A.sb,0,none⟩)
 | 12=>v=.pointer (some ⟨A.sb,4,none⟩)
 | _=>True
theorem Rl(A:bG)(σj:St)(vj vo:Value)(r:Rc)(ab aa:Option Addr)(qb qa t6 T k G0 G:Nat)(EL:List Le)(hv:∀q,vj.ownBlock=some q->q<G):∀i j,i<13->j<13->j≠i->j∉([[],[],[1],[1,2],[1,2,3],[],[5],[],[5,6,7],[5,6,7,8],[1,2,3,4,5,6,7,8,9],[0,1,2,3,4,5,6,7,8,9,10],[0,1,2,3,4,5,6,7,8,9,10,11]]:List (List Nat)).getD i []->∀v lo hi w w',qE A σj vj vo r ab aa qb qa t6 T k G0 G EL i v lo hi w->aB (kW A σj vj vo r ab aa qb qa t6 T k G0 G EL j) w w'->qE A σj vj vo r ab aa qb qa t6 T k G0 G EL i v lo hi w':=by
 intro i j hi hj hne hbs v lo hj2 w w' h hg
 match i,hi with
 | 0,_|1,_|2,_|3,_|4,_|5,_|6,_|7,_|8,_|11,_|12,_=>
  simp only[qE]at h⊢;exact h
 | 9,_=>
  simp only[qE]at h⊢;obtain⟨g,h1,h2,h3⟩:=h;refine⟨g,h1,h2,h3.aH (aj.aK hg (Y:=fun b=>vj.ownBlock=some b) (fun k o h=>h.2)) (fun q e hx=>?_)⟩;rw[h1]at e;have e2:g=q:=by simpa[Value.ownBlock]using e
  subst e2;have:=hv _ hx;omega
 | 10,_=>
  simp only[qE]at h⊢;obtain⟨ao,c,h1,h2,h3⟩:=h;exact⟨ao,c,h1,aI h2 (aj.aK hg (Y:=fun _=>False) (fun k o h=>hne h.1)) (fun _ _ h=>h),h3⟩
 | (q+13),hq=>exact absurd hq (by omega)
def aev(A:bG)(σj:St)(v4 vo:Value)(r:Rc)(ab aa:Option Addr)(qb qa t6 mx:Nat)(j b o:Nat):Prop:=False
def uV(A:bG)(σj:St)(v4 vo:Value)(r:Rc)(ab aa:Option Addr)(qb qa t6 mx:Nat)(i:Nat)(v:Value)(lo hi:Nat)(w:World):Prop:=
 match i with
 | 0=>v=.pointer (some ⟨A.sb,0,none⟩)
 | 1=>v=.pointer (some ⟨A.sb,0,none⟩)
 | 2=>v=.pointer (some ⟨A.sb,0,none⟩)
 | 3=>v=.pointer (some ⟨A.sb,7,none⟩)
 | 4=>v=.int .i64 (σj.next:Nat)
 | 5=>v=.pointer (some ⟨t6,1,none⟩)
 | 6=>v=.int .i64 (r.aV:Nat)
 | 7=>v=.int .i64 ((r.aV+1:Nat):Int)
 | 8=>v=.int .i64 ((mx:Nat):Int)
 | 9=>v=.pointer (some ⟨A.sb,0,none⟩)
 | 10=>v=.pointer (some ⟨A.sb,7,none⟩)
 | _=>True
theorem Rn(A:bG)(σj:St)(v4 vo:Value)(r:Rc)(ab aa:Option Addr)(qb qa t6 mx:Nat)  : ∀i j,i<11->j<11->j≠i->j∉([[],[],[1],[1,2],[1,2,3],[],[5],[5,6],[1,2,3,4,5,6,7],[0,1,2,3,4,5,6,7,8],[0,1,2,3,4,5,6,7,8,9]]:List (List Nat)).getD i []->∀v lo hi w w',uV A σj v4 vo r ab aa qb qa t6 mx i v lo hi w->aB (aev A σj v4 vo r ab aa qb qa t6 mx j) w w'->uV A σj v4 vo r ab aa qb qa t6 mx i v lo hi w':=by
 intro i j hi hj hne hbs v lo hj2 w w' h hg
 match i,hi with
 | 0,_|1,_|2,_|3,_|4,_|5,_|6,_|7,_|8,_|9,_|10,_=>
  simp only[uV]at h⊢;exact h
 | (q+11),hq=>exact absurd hq (by omega)
section
variable{W0 w w' w2:World}{A:bG}{c:Cf}{σ:St}{S:Nat->Prop}{vl vo gV:Value}{EL:List Le}{EO:List Te}{K S1:Nat->Prop}{X:Nat->Prop}
theorem Vg(h:aP W0 w A c σ vl vo EL EO K S1)(recs:List Rc)(hmid:∀r∈recs,r.mid)(st nb:Nat)(hst:σ.io.R.start=st)(hfi:σ.io.R.fin=st+nb)(hft:σ.io.R.fin<=σ.io.R.tail)(hby:(σ.io.R.bytes.drop (st-σ.io.R.base)).take nb=cZ recs)(hlen:(cZ recs).length=nb)
  (hnb:nb<=900000000) (Xv:st<=549755813888) (hel:EL.length+recs.length<=1073741824) (hnx:σ.next<=1099511627776):
  Calls Tryz.prog 116 #[.pointer (some ⟨A.sb,0,none⟩)] w fun er w'=>er=.returned (.int .i64 0)/\∃gJ jq K' aT,aP W0 w' A c { σ with lines:=σ.lines++dG st recs,next:=lW σ.next recs } gJ vo jq EO K' aT/\aG (aO S1 vl vo EO K) (aO aT gJ vo EO K') w w'/\jq.length=EL.length+recs.length:=by
 have HS:=hid h;have hstart:∀y,(∃σ' gJ jq K' aT,aP W0 y A c σ' gJ vo jq EO K' aT/\σ'.io=σ.io)->Calls Tryz.prog 96 #[.pointer (some ⟨A.r,0,none⟩)] y fun e w'=>e=.returned (.int .i64 (st:Nat))/\w'=y:=by
  rintro y ⟨σ',gJ,jq,K',aT,hb,vV⟩;obtain⟨S5,gW,_⟩:=hb.EW;obtain⟨Y1,uy⟩:=gW.at;rw[<-hst,<-vV];exact YX uy
 have hend:∀y,Below w.heap.size w y->Calls Tryz.prog 83 #[.pointer (some ⟨A.r,0,none⟩)] y fun e w'=>e=.returned (.int .i64 ((st+nb:Nat):Int))/\w'=y:=by
  intro y hb;obtain⟨S5,gW,_⟩:=(h.below hb).EW;obtain⟨Y1,uy⟩:=gW.at;rw[<-hfi];exact JK uy
 have hread:∀y,Below w.heap.size w y->Calls Tryz.prog 137 #[.pointer (some ⟨A.r,0,none⟩),.int .i64 (st:Nat),.int .i64 (nb:Nat)] y fun e w'=>∃ao cp,e=.returned (.tuple #[.slice ao nb cp,.int .i64 0])/\w'.ownsRow y.heap.size 5 1 (.slice ao nb cp) nb ((cZ recs).map B)/\Below y.heap.size y w':=by
  intro y hb;obtain⟨S5,gW,_⟩:=(h.below hb).EW;obtain⟨Y1,uy⟩:=gW.at;have hok:=gW.ok;refine(aa8 uy hok st nb (by omega) (by rw[<-hfi];exact hft)).mono ?_;rintro e w' ⟨v,rfl,ho,hb2⟩;rw[hby]at ho;obtain⟨a,cp,rfl⟩:=bF ho;exact⟨a,cp,rfl,ho,hb2⟩
 have HST:=hid hstart;have ab8:=hid (fun y (hb:Below w.heap.size w y)=>hstart y ⟨σ,vl,EL,K,S1,h.below hb,rfl⟩);have qX:=hid hend;have jD:=hid hread;have Xw:=hid hmid;have HEL:=hid hel;have HLEN:=hid hlen;have sH:=hid hnx;have bs:Box w A.sb [.pointer (some ⟨A.d,0,none⟩),.pointer (some ⟨A.r,0,none⟩),.pointer (some ⟨A.f,0,none⟩),.pointer (some ⟨A.g,0,none⟩),vl,vo,.int .i64 (σ.master:Nat),.int .i64 (σ.next:Nat),.int .i64 (σ.commits:Nat),.bool false,.int .i64 (σ.aW:Nat),.int .i64 (σ.aZ:Nat)]:=h.bC;have vM:=hid bs;have hB:Below w.heap.size w w:=Below.refl _ _;obtain⟨n,hn⟩:∃n,recs.length=n:=⟨_,rfl⟩
 have HN:=hid hn;clear h hstart hend hread hst hfi hmid hel hlen hft hby hn hnx;go_enter Tryz.func116,Tryz.ntmps116;go_upto_region 1 with (fail);refine eP (aeu A σ vl vo st nb (w.heap.size) (cZ recs)) 26 Xt [some 12,some 13,some 14,some 15,some 16,some 17,some 18,some 19,some 20,some 21,some 22,some 23,some 24,some 25,some 26,some 27,some 28,some 29,some 30,some 31,some 32,some 11,some 33,some 34,some 3,some 4] [[],[0],[1],[2],[],[4],[5],[6],[7],[],[9],[10],[11],[12],[],[14],[15],[16],[17],[13,18],[3,8,19],[20],[20,21],[20,21],[22],[23]] [0,1,2,3,4,5,6,7,8,9,10,11,12,13,14,15,16,17,18,19,20,21,22,23,24,25] [] (by decide) (by kernel_rfl) (by kernel_rfl) rfl (jK A σ vl vo st nb (w.heap.size) (cZ recs)) (Xu A σ vl vo st nb (w.heap.size) (cZ recs)) (Rk A σ vl vo st nb (w.heap.size) (cZ recs)) ?alU ?_
 case alU=>
  intro i hi o ho vs lo eX w' hg hp hdd;have hsz:=hg.size;have hgB:Below w.heap.size w w':=hg.below (fun k hk=>⟨hk,fun o=>by rintro⟨j,_,_,_,hw⟩;exact False.elim hw⟩);replace hp:=fun j hj=>(hp j hj).2.2.2
  match i,hi with
  | 0,_|4,_|9,_|14,_|1,_|2,_|3,_|5,_|6,_|7,_|10,_|11,_|12,_|15,_|16,_|17,_|21,_|24,_|25,_=>
   cases ho;simp only[aA,jK]at hp
   first|simp only[ak,Act.put,aA,hp]|simp only[ak,Act.put,aA]
   try have e0:=(hg.cell (A.sb) 1 bs.lt (by rintro⟨j,_,hne,hb,hw⟩;exact False.elim hw)).trans (bs.cell 1 _ rfl)
   go_wp2;exact⟨_,rfl,aB.refl _,rfl⟩
  | 8,_=>
   cases ho;simp only[ak,Act.put,aA];have h7:=hp 7 (by simp);simp only[jK]at h7;rw[h7];go_wp2_with fail;refine(ab8.out _ hgB).mono ?_;rintro er wh ⟨rfl,hy⟩;obtain rfl:w'=wh:=hy.symm;go_wp2;exact⟨_,rfl,aB.refl _,rfl⟩
  | 13,_=>
   cases ho;simp only[ak,Act.put,aA];have h12:=hp 12 (by simp);simp only[jK]at h12;rw[h12];go_wp2_with fail;refine(qX.out _ hgB).mono ?_;rintro er wh ⟨rfl,hy⟩;obtain rfl:w'=wh:=hy.symm;go_wp2;exact⟨_,rfl,aB.refl _,rfl⟩
  | 18,_=>
   cases ho;simp only[ak,Act.put,aA];have h17:=hp 17 (by simp);simp only[jK]at h17;rw[h17];go_wp2_with fail;refine(ab8.out _ hgB).mono ?_;rintro er wh ⟨rfl,hy⟩;obtain rfl:w'=wh:=hy.symm;go_wp2;exact⟨_,rfl,aB.refl _,rfl⟩
  | 19,_=>
   cases ho;simp only[ak,Act.put,aA];have h13:=hp 13 (by simp);have h18:=hp 18 (by simp);simp only[jK]at h13 h18;rw[h13,h18];go_wp2;exact⟨_,rfl,aB.refl _,by simp only[jK]<;>first|rfl|omega|(congr 1<;>omega)|simp⟩
  | 20,_=>
   cases ho;simp only[ak,Act.put,aA];have h3:=hp 3 (by simp);have h8:=hp 8 (by simp);have h19:=hp 19 (by simp);simp only[jK]at h3 h8 h19;rw[h3,h8,h19];go_wp2_with fail;refine(jD.out _ hgB).mono ?_;rintro er wh ⟨ao,cp,rfl,ho,hbl⟩;go_wp2;exact⟨_,rfl,aB.bK ⟨hbl.os,hbl.tape,hbl.output,hbl.size,hbl.block⟩,ao,cp,rfl,own_base ho hgB.size⟩
  | 22,_=>
   cases ho;simp only[ak,Act.put,aA];have h20:=hp 20 (by simp);have h21:=hp 21 (by simp);simp only[jK]at h20 h21;obtain⟨ao,cp,e20,ho⟩:=h20;rw[h21,e20];go_wp2;exact⟨_,rfl,aB.refl _,ao,cp,e20,rfl⟩
  | 23,_=>
   cases ho;simp only[ak,Act.put,aA];have h20:=hp 20 (by simp);have h21:=hp 21 (by simp);simp only[jK]at h20 h21;obtain⟨ao,cp,e20,ho⟩:=h20;rw[h21,e20];go_wp2;exact⟨_,rfl,aB.refl _,rfl⟩
  | (q+26),hq=>exact absurd hq (by omega)
 intro vS lo hi w5 hg hp hd;have hP:=fun j hj=>(hp j hj).2.2.2;have h0:=hP 0 (by decide) (by decide);have h1:=hP 1 (by decide) (by decide);have h2:=hP 2 (by decide) (by decide);have h3:=hP 3 (by decide) (by decide);have h4:=hP 4 (by decide) (by decide);have h5:=hP 5 (by decide) (by decide);have h6:=hP 6 (by decide) (by decide);have h7:=hP 7 (by decide) (by decide);have h8:=hP 8 (by decide) (by decide);have h9:=hP 9 (by decide) (by decide);have h10:=hP 10 (by decide) (by decide);have h11:=hP 11 (by decide) (by decide);have h12:=hP 12 (by decide) (by decide);have h13:=hP 13 (by decide) (by decide);have dH:=hP 14 (by decide) (by decide);have h15:=hP 15 (by decide) (by decide);have h16:=hP 16 (by decide) (by decide);have h17:=hP 17 (by decide) (by decide);have h18:=hP 18 (by decide) (by decide);have h19:=hP 19 (by decide) (by decide);have h20:=hP 20 (by decide) (by decide);have h21:=hP 21 (by decide) (by decide);have h22:=hP 22 (by decide) (by decide);have h23:=hP 23 (by decide) (by decide);have h24:=hP 24 (by decide) (by decide);have h25:=hP 25 (by decide) (by decide);clear hP;simp only[jK]at h0 h1 h2 h3 h4 h5 h6 h7 h8 h9 h10 h11 h12 h13 dH h15 h16 h17 h18 h19 h20 h21 h22 h23 h24 h25;clear hp hd;have hsz:=hg.size;replace bs:=bs.grow hg (by intro i _;rintro⟨j,_,hw⟩;exact False.elim hw);replace hB:=hB.trans (hg.below (fun k hk=>⟨by omega,fun o=>by rintro⟨j,_,hw⟩;exact False.elim hw⟩));have hr:List.range 26=[0,1,2,3,4,5,6,7,8,9,10,11,12,13,14,15,16,17,18,19,20,21,22,23,24,25]:=rfl;rw[hr];clear hr;simp only[List.drop_succ_cons,List.drop_zero,List.drop_nil,ak,Act.put,aA,h0,h1,h2,h3,h4,h5,h6,h7,h8,h9,h10,h11,h12,h13,dH,h15,h16,h17,h18,h19,h23,h25];clear h0 h1 h2 h3 h4 h5 h6 h7 h8 h9 h10 h11 h12 h13 dH h15 h16 h17 h18 h19 h23 h25;obtain⟨ao,cp,ab9,ajp⟩:=h20;have e22:vS 22=.slice ao nb cp:=by
  obtain⟨a',c',e1,e2⟩:=h22;rw[ab9]at e1;injection e1 with e1;injection e1 with e1;injection e1 with e1;injection e1 with e1 e3 e4;rw[e2,e1,e4]
 rw[h24,e22,h21,ab9];have HB:=hid hB;have HOWN:=hid ajp;have bs2:=vM.out.below hB (Nat.le_refl _);have c1:=bs2.cell 1 _ rfl;have bU:=bs2.lt;clear ab9 ajp h21 h22 h24 e22 hB hg hsz bs bs2;go_wp2_with fail;refine(ab8.out _ HB.out).mono ?_;rintro er y1 ⟨rfl,hy⟩;obtain rfl:w5=y1:=hy.symm;clear c1 bU;go_wp2_with fail;have ajr:({ σ with lines:=σ.lines++dG st (recs.take 0),next:=lW σ.next (recs.take 0) }:St)=σ:=by simp[dG,lW]
 go_loopw [3,5,6,7,8,10] (fun z3 z5 z6 z7 z8 z10 wr=>∃(j:Nat)(vj:Value)(Gi:List Le)(Kj Sj:Nat->Prop),j<=n/\z5=.int .i64 ((st+dR (recs.take j):Nat):Int)/\Reads 1 wr z3 (cZ (recs.drop j)).length ((cZ (recs.drop j)).map B)/\(∀q,z3.ownBlock=some q->¬aO Sj vj vo EO Kj q)/\
  aP W0 wr A c { σ with lines:=σ.lines++dG st (recs.take j),next:=lW σ.next (recs.take j) } vj vo Gi EO Kj Sj/\aG (aO S1 vl vo EO K) (aO Sj vj vo EO Kj) w wr/\Gi.length=EL.length+j) (fun _ z5 _ _ _ _ _=>st+nb-(intOf z5).toNat)
 case atStart=>exact⟨0,vl,EL,K,S1,Nat.zero_le _,rfl,by rw[List.drop_zero,HLEN.out];exact Reads.aY HOWN.out,fun q e hq=>(by have h1:=(HOWN.out.lt q e).1;have h2:=(HS.out.lt q hq).2;omega),by rw[ajr];exact HS.out.below HB.out,aG.below (aC HB.out),rfl⟩
 case round=>
  obtain⟨j,vj,Gi,Kj,Sj,hj,rfl,hrd,hno,hsv,hft,hlj⟩:=hrel;have yu:=hid hno;have sF:=hid hsv;have iQ:=hid hft;have HLJ:=hid hlj;clear hno hsv hft hlj HOWN HB ajr;by_cases hjn:j<n
  ·obtain⟨r,hr⟩:∃r,recs[j]? = some r:=⟨_,List.getElem?_eq_getElem (by rw[HN.out];exact hjn)⟩
   have hrm:=Xw.out r (List.mem_of_getElem? hr);have hdr:recs.drop j=r::recs.drop (j+1):=by
    obtain⟨h1,h2⟩:=List.getElem?_eq_some_iff.1 hr;rw[List.drop_eq_getElem_cons h1,h2]
   have htk:recs.take (j+1)=recs.take j++[r]:=by rw[List.take_add_one,hr];rfl
   have hsz:dR (recs.take (j+1))+(cZ (recs.drop (j+1))).length=nb:=by
    rw[vZ _ (fun x hx=>Xw.out x (List.mem_of_mem_drop hx)),<-HLEN.out,vZ _ Xw.out];unfold dR;rw[<-List.sum_append,<-List.map_append,List.take_append_drop]
   have auK:96<=r.size:=by unfold Rc.size;omega
   rw[hdr,Jo]at hrd;obtain⟨m,hm⟩:∃m,(r.enc++cZ (recs.drop (j+1))).length=m:=⟨_,rfl⟩
   have hrl:r.enc.length=r.size:=oZ r hrm.s.t hrm.s.d;have hmm:m=r.size+(cZ (recs.drop (j+1))).length:=by rw[<-hm,List.length_append,hrl]
   have JH:dR (recs.take (j+1))=dR (recs.take j)+r.size:=by rw[htk,Ea]
   rw[hm]at hrd;obtain⟨az,cz,rfl⟩:=hrd.shape;have HD:=hid (decode_ok (w:=wr) r hrm.s ⟨by have:=hrm.kind;omega,by have:=hrm.aV;omega,by have:=hrm.prev;omega,by have:=hrm.next;omega,by have:=hrm.page;omega,by have:=hrm.off;omega,by have:=hrm.count;omega⟩ (cZ (recs.drop (j+1))) _ m hm (by omega) hrd);have acd:=hid hrd;have U0:=hid hrm;have vF:=hid htk;have aaS:=hid JH;have ny:=hid hsz;have jP:=hid hmm;have HRL:=hid hrl;obtain⟨T,hT⟩:∃x,st+dR (recs.take j)=x:=⟨_,rfl⟩
   have oG:=hid hT;have hTb:T<=549755813888+900000000:=by omega
   have ao5:r.size<=900000000:=by omega
   rw[hT];obtain⟨σj,Xx⟩:∃s:St,({ σ with lines:=σ.lines++dG st (recs.take j),next:=lW σ.next (recs.take j) }:St)=s:=⟨_,rfl⟩
   have HSG:=hid Xx;rw[Xx]at sF;have auL:σj.next<=1099511627777:=by
    rw[<-Xx];exact Eb 1099511627777 _ _ (fun x hx=>by have:=(Xw.out x (List.mem_of_mem_take hx)).aV;omega) (by have:=sH.out;omega)
   clear hr hdr hrd hrm htk JH hsz hmm hrl hm hT Xx;go_wp2_with fail;refine HD.out.mono ?_;rintro er y1 ⟨ab,aa,qb,qa,rfl,hqb,hqa,hrb,hra,hnew,hbl⟩;have HQB:=hid hqb;have HQA:=hid hqa;have dP:=hid hbl;have fK:=hid hrb;have qg:=hid hra;have uF:=hid hnew;obtain⟨t6,ZG⟩:∃x,y1.heap.size=x:=⟨_,rfl⟩
   have HT6:=hid ZG;have ajt:=Box.new y1 (recC r ab aa qb qb qa qa) 85 rfl;have aju:=(Below.refl y1.heap.size y1).alloc (Nat.le_refl _) (.cells (recC r ab aa qb qb qa qa) 85);have ajv:=hid ajt;have ace:=hid aju;clear hqb hqa hbl hrb hra hnew ajt aju HD;go_upto_region 8 with (fail);rw[ZG]at ajv;have hb2:Below wr.heap.size wr (y1.alloc (.cells (recC r ab aa qb qb qa qa) 85)):=dP.out.trans (ace.out.mono dP.out.size);have HB2:=hid hb2;have h61:wr.heap.size<=t6:=by rw[<-ZG];exact dP.out.size
   have Xn:=hid (fK.out.below ace.out (Nat.le_refl _));have aqf:=hid (qg.out.below ace.out (Nat.le_refl _));have Jp:Hid (∀q,(Value.slice ab qb qb).ownBlock=some q\/(Value.slice aa qa qa).ownBlock=some q->wr.heap.size<=q/\q<t6):=hid (fun q e=>by rw[<-ZG];exact uF.out q e);clear hb2 fK qg ZG;generalize y1.alloc (.cells (recC r ab aa qb qb qa qa) 85)=y2 at *;have hs2:=sF.out.below HB2.out;have HS2:=hid hs2;have bs:Box y2 A.sb [.pointer (some ⟨A.d,0,none⟩),.pointer (some ⟨A.r,0,none⟩),.pointer (some ⟨A.f,0,none⟩),.pointer (some ⟨A.g,0,none⟩),vj,vo,.int .i64 (σj.master:Nat),.int .i64 (σj.next:Nat),.int .i64 (σj.commits:Nat),.bool false,.int .i64 (σj.aW:Nat),.int .i64 (σj.aZ:Nat)]:=hs2.bC;have bt:Box y2 t6 [.int .i64 (r.kind:Nat),.int .i64 (r.aV:Nat),.int .i64 (r.prev:Nat),.int .i64 (r.next:Nat),.int .i64 (r.page:Nat),.int .i64 (r.off:Nat),.slice ab qb qb,.slice aa qa qa,.slice none 0 0,.slice none 0 0,.int .i64 (r.count:Nat)]:=ajv.out;have BT6:=hid bt;have hns:vj.ownBlock≠some A.sb:=fun hk=>hs2.d1 _ hs2.pG hk;have hvl:∀q,vj.ownBlock=some q->q<wr.heap.size:=fun q e=>(sF.out.ln.row.lt q e).2;have hnl:vj.ownBlock≠some t6:=fun hk=>by have:=hvl _ hk;omega
   have qM:∀q,vj.ownBlock=some q->q<y2.heap.size:=fun q e=>(hs2.ln.row.lt q e).2;obtain⟨k,hk⟩:∃x,Gi.length=x:=⟨_,rfl⟩
   have hrow:y2.ownsRow W0.heap.size 87 12 vj k (fA Gi):=by rw[<-hk];exact hs2.ln.row
   have gZ:=hid hrow;have HKL:=hid hk;have hk2:k<=1073741824:=by have h1:=HLJ.out;have h2:=HEL.out;have h3:=HN.out;omega
   have hW0:W0.heap.size<=y2.heap.size:=hs2.bel.size;have hB:Below 0 y2 y2:=Below.refl _ _;clear hs2 hrow hk;refine aQ (kW A σj vj vo r ab aa qb qa t6 T k (W0.heap.size) (y2.heap.size) Gi) 13 [[],[],[1],[1,2],[1,2,3],[],[5],[],[5,6,7],[5,6,7,8],[1,2,3,4,5,6,7,8,9],[0,1,2,3,4,5,6,7,8,9,10],[0,1,2,3,4,5,6,7,8,9,10,11]] [some 51,some 52,some 53,some 54,some 55,some 56,some 57,some 58,some 59,some 60,some 61,some 62,some 63,none] (by kernel_rfl) (by kernel_rfl) rfl (qE A σj vj vo r ab aa qb qa t6 T k (W0.heap.size) (y2.heap.size) Gi) (Rl A σj vj vo r ab aa qb qa t6 T k (W0.heap.size) (y2.heap.size) Gi qM) ?alV ?_
   case alV=>
    intro i hi o ho vs lo eX w' hg hp;have hsz:=hg.size;replace hp:=fun j hj=>(hp j hj).2.2.2
    match i,hi with
    | 0,_|1,_|5,_|2,_|3,_|4,_|7,_|8,_|11,_|12,_=>
     cases ho;simp only[aA,qE]at hp
     first|simp only[ak,Act.put,aA,hp]|simp only[ak,Act.put,aA]
     try have e0:=(hg.cell (A.sb) 4 bs.lt (by rintro⟨j,_,hne,hb,hw⟩;simp only[kW]at hw;first|exact hns hw.2|exact hnl hw.2)).trans (bs.cell 4 _ rfl)
     try have e1:=(hg.cell (t6) 0 bt.lt (by rintro⟨j,_,hne,hb,hw⟩;simp only[kW]at hw;first|exact hns hw.2|exact hnl hw.2)).trans (bt.cell 0 _ rfl)
     try have e2:=(hg.cell (t6) 1 bt.lt (by rintro⟨j,_,hne,hb,hw⟩;simp only[kW]at hw;first|exact hns hw.2|exact hnl hw.2)).trans (bt.cell 1 _ rfl)
     try have e3:=(hg.cell (t6) 2 bt.lt (by rintro⟨j,_,hne,hb,hw⟩;simp only[kW]at hw;first|exact hns hw.2|exact hnl hw.2)).trans (bt.cell 2 _ rfl)
     try have e4:=(hg.cell (t6) 3 bt.lt (by rintro⟨j,_,hne,hb,hw⟩;simp only[kW]at hw;first|exact hns hw.2|exact hnl hw.2)).trans (bt.cell 3 _ rfl)
     try have e5:=(hg.cell (t6) 4 bt.lt (by rintro⟨j,_,hne,hb,hw⟩;simp only[kW]at hw;first|exact hns hw.2|exact hnl hw.2)).trans (bt.cell 4 _ rfl)
     try have e6:=(hg.cell (t6) 5 bt.lt (by rintro⟨j,_,hne,hb,hw⟩;simp only[kW]at hw;first|exact hns hw.2|exact hnl hw.2)).trans (bt.cell 5 _ rfl)
     try have e7:=(hg.cell (t6) 6 bt.lt (by rintro⟨j,_,hne,hb,hw⟩;simp only[kW]at hw;first|exact hns hw.2|exact hnl hw.2)).trans (bt.cell 6 _ rfl)
     try have e8:=(hg.cell (t6) 7 bt.lt (by rintro⟨j,_,hne,hb,hw⟩;simp only[kW]at hw;first|exact hns hw.2|exact hnl hw.2)).trans (bt.cell 7 _ rfl)
     try have e9:=(hg.cell (t6) 8 bt.lt (by rintro⟨j,_,hne,hb,hw⟩;simp only[kW]at hw;first|exact hns hw.2|exact hnl hw.2)).trans (bt.cell 8 _ rfl)
     try have e10:=(hg.cell (t6) 9 bt.lt (by rintro⟨j,_,hne,hb,hw⟩;simp only[kW]at hw;first|exact hns hw.2|exact hnl hw.2)).trans (bt.cell 9 _ rfl)
     try have e11:=(hg.cell (t6) 10 bt.lt (by rintro⟨j,_,hne,hb,hw⟩;simp only[kW]at hw;first|exact hns hw.2|exact hnl hw.2)).trans (bt.cell 10 _ rfl)
     go_wp2;exact⟨_,rfl,aB.refl _,rfl⟩
    | 6,_=>
     cases ho;simp only[ak,Act.put,aA];have h5:=hp 5 (by simp);simp only[qE]at h5;rw[h5];go_wp2;refine⟨_,rfl,aB.refl _,?_⟩;simp only[qE]
     first|omega|(congr 1<;>omega)|skip
    | 9,_=>
     cases ho;simp only[ak,Act.put,aA];have h8:=hp 8 (by simp);simp only[qE]at h8;rw[h8];have hbl:=(Below.refl w'.heap.size w').alloc (Nat.le_refl _) (.cells #[.int .i64 ((T+1:Nat):Int),.int .i64 (r.kind:Nat),.int .i64 (r.aV:Nat),.int .i64 (r.prev:Nat),.int .i64 (r.next:Nat),.int .i64 (r.page:Nat),.int .i64 (r.off:Nat),.slice ab qb qb,.slice aa qa qa,.slice none 0 0,.slice none 0 0,.int .i64 (r.count:Nat)] 87);go_wp2;exact⟨_,rfl,aB.bK ⟨hbl.os,hbl.tape,hbl.output,hbl.size,hbl.block⟩,_,rfl,hsz,Reads.lit rfl rfl (Nat.le_refl _) rfl⟩
    | 10,_=>
     cases ho;simp only[ak,Act.put,aA];have h4:=hp 4 (by simp);have h9:=hp 9 (by simp);simp only[qE]at h4 h9;rw[h4];obtain⟨g,rE,yj,yt⟩:=h9;rw[rE];rw[rE]at yt;have hgx:aj (fun _=>False) y2 w':=aj.aK hg (fun k o ⟨j,hj,hne,hb,hw⟩=>hne hw.1);have hown:=aI gZ.out hgx (fun _ _ h=>h);go_wp2_with (at_builtin;refine dU JO (.tmp 55) (.tmp 60) rfl rfl rfl hown rfl yt (by intro u hu;simp[eG,GN]at hu;rcases hu with rfl|rfl|rfl|rfl|rfl|rfl|rfl|rfl|rfl|rfl|rfl|rfl<;>rfl) (by omega) (by omega) (by omega) ?_;intro ob cq wq ho2 hg2 hn2);exact⟨_,rfl,hg2.mono (fun b o h=>⟨rfl,h⟩),ob,cq,rfl,ho2,fun q e=>(hn2 q e).imp id (fun h=>by omega)⟩
    | (q+13),hq=>exact absurd hq (by omega)
   intro vS lo hi y3 hg hp hd;have hP:=fun j hj=>(hp j hj).2.2.2;have h0:=hP 0 (by decide);have h1:=hP 1 (by decide);have h2:=hP 2 (by decide);have h3:=hP 3 (by decide);have h4:=hP 4 (by decide);have h5:=hP 5 (by decide);have h6:=hP 6 (by decide);have h7:=hP 7 (by decide);have h8:=hP 8 (by decide);have h9:=hP 9 (by decide);have h10:=hP 10 (by decide);have h11:=hP 11 (by decide);have h12:=hP 12 (by decide);clear hP;simp only[qE]at h0 h1 h2 h3 h4 h5 h6 h7 h8 h9 h10 h11 h12;clear hp hd;have hsz:=hg.size;have jX:Hid (aj (fun b=>vj.ownBlock=some b) y2 y3):=hid (aj.aK hg (fun k o ⟨j,_,hw⟩=>hw.2));replace bs:=bs.grow hg (by intro i _;rintro⟨j,_,hw⟩;simp only[kW]at hw;first|exact hns hw.2|exact hnl hw.2|(have:=qM _ hw.2;omega));replace bt:=bt.grow hg (by intro i _;rintro⟨j,_,hw⟩;simp only[kW]at hw;first|exact hns hw.2|exact hnl hw.2|(have:=qM _ hw.2;omega));replace hB:=hB.trans (hg.below (fun k hk=>⟨by omega,fun o=>by rintro⟨j,_,hw⟩;simp only[kW]at hw;first|exact hns hw.2|exact hnl hw.2|(have:=qM _ hw.2;omega)⟩));have hr:List.range 13=[0,1,2,3,4,5,6,7,8,9,10,11,12]:=rfl;rw[hr];clear hr;simp only[List.drop_succ_cons,List.drop_zero,List.drop_nil,ak,Act.put,aA,h0,h1,h2,h3,h4,h5,h6,h7,h8,h11,h12];clear h0 h1 h2 h3 h4 h5 h6 h7 h8 h11 h12;obtain⟨ol,cl,He,yF,yG⟩:=h10;rw[He];have c4:=bs.cell 4 _ rfl;have cfz:=bs.free;have bU:=bs.lt;have HO9:=hid yF;have P5:=hid yG;have BT8:=hid bt;clear He yF yG bs bt hB hg;go_upto_region 9 with (fail);have hlt2:=sF.out.lt;have auM:t6<y2.heap.size:=BT6.out.lt;obtain⟨S4,hs4,hg4,hS4,hV4⟩:=HS2.out.addLine jX.out (T+1) r (.slice ab qb qb) (.slice aa qa qa) ⟨U0.out.s,by omega⟩ ol cl k HKL.out HO9.out P5.out (fun q=>(Value.slice ab qb qb).ownBlock=some q\/(Value.slice aa qa qa).ownBlock=some q)
    ⟨by rw[HQB.out];exact Xn.out,fun q e=>.inl e⟩ ⟨by rw[HQA.out];exact aqf.out,fun q e=>.inr e⟩ (fun q e=>by have h1:=Jp.out q e;have h2:=sF.out.bel.size;omega)
    (fun q e h=>by have h1:=Jp.out q e;have h2:=(hlt2 q (.inl h)).2;omega) (fun q e h=>by have h1:=Jp.out q e;have h2:=(hlt2 q (.inr (.inl h))).2;omega) (fun q e h=>by have h1:=Jp.out q e;have h2:=(hlt2 q (.inr (.inr (.inl h)))).2;omega)
   have ajw:¬t6=A.sb:=fun e=>by have h1:=(hlt2 A.sb (.inl sF.out.pG)).2;omega
   have BT4:=hid (BT8.out.aH (aF y3 A.sb 4 (.slice ol (k+1) cl)) ajw);have iD:=hid hs4;have Cj:=hid hg4;have FT:=hid hS4;have vO:=hid hV4;clear hs4 hg4 hS4 hV4 hlt2 c4 cfz bU;generalize y3.setCell ⟨A.sb,4,none⟩ (.slice ol (k+1) cl)=y4 at *;obtain⟨mx,hmx⟩:∃x,max σj.next (r.aV+1)=x:=⟨_,rfl⟩
   have HMX:=hid hmx;have htx:=U0.out.aV;have bs:Box y4 A.sb [.pointer (some ⟨A.d,0,none⟩),.pointer (some ⟨A.r,0,none⟩),.pointer (some ⟨A.f,0,none⟩),.pointer (some ⟨A.g,0,none⟩),(.slice ol (k+1) cl),vo,.int .i64 (σj.master:Nat),.int .i64 (σj.next:Nat),.int .i64 (σj.commits:Nat),.bool false,.int .i64 (σj.aW:Nat),.int .i64 (σj.aZ:Nat)]:=iD.out.bC;have bt:Box y4 t6 [.int .i64 (r.kind:Nat),.int .i64 (r.aV:Nat),.int .i64 (r.prev:Nat),.int .i64 (r.next:Nat),.int .i64 (r.page:Nat),.int .i64 (r.off:Nat),.slice ab qb qb,.slice aa qa qa,.slice none 0 0,.slice none 0 0,.int .i64 (r.count:Nat)]:=BT4.out;have hB:Below y4.heap.size y4 y4:=Below.refl _ _;refine aQ (aev A σj (.slice ol (k+1) cl) vo r ab aa qb qa t6 mx) 11 [[],[],[1],[1,2],[1,2,3],[],[5],[5,6],[1,2,3,4,5,6,7],[0,1,2,3,4,5,6,7,8],[0,1,2,3,4,5,6,7,8,9]] [some 64,some 65,some 66,some 67,some 68,some 69,some 70,some 71,some 72,some 73,some 74,none] (by kernel_rfl) (by kernel_rfl) rfl (uV A σj (.slice ol (k+1) cl) vo r ab aa qb qa t6 mx) (Rn A σj (.slice ol (k+1) cl) vo r ab aa qb qa t6 mx) ?alW ?_
   case alW=>
    intro i hi o ho vs lo eX w' hg hp;have hsz:=hg.size;replace hp:=fun j hj=>(hp j hj).2.2.2
    match i,hi with
    | 0,_|1,_|5,_|2,_|3,_|4,_|6,_|9,_|10,_=>
     cases ho;simp only[aA,uV]at hp
     first|simp only[ak,Act.put,aA,hp]|simp only[ak,Act.put,aA]
     try have e0:=(hg.cell (A.sb) 7 bs.lt (by rintro⟨j,_,hne,hb,hw⟩;exact False.elim hw)).trans (bs.cell 7 _ rfl)
     try have e1:=(hg.cell (t6) 1 bt.lt (by rintro⟨j,_,hne,hb,hw⟩;exact False.elim hw)).trans (bt.cell 1 _ rfl)
     go_wp2;exact⟨_,rfl,aB.refl _,rfl⟩
    | 7,_=>
     cases ho;simp only[ak,Act.put,aA];have h6:=hp 6 (by simp);simp only[uV]at h6;rw[h6];go_wp2;refine⟨_,rfl,aB.refl _,?_⟩;simp only[uV]
     first|omega|(congr 1<;>omega)|skip
    | 8,_=>
     cases ho;simp only[ak,Act.put,aA];have h4:=hp 4 (by simp);have h7:=hp 7 (by simp);simp only[uV]at h4 h7;rw[h4,h7];go_wp2;exact⟨_,rfl,aB.refl _,by simp only[uV]<;>congr 1<;>first|omega|(split<;>omega)⟩
    | (q+11),hq=>exact absurd hq (by omega)
   intro vS lo hi y5 hg hp hd;have hP:=fun j hj=>(hp j hj).2.2.2;have h0:=hP 0 (by decide);have h1:=hP 1 (by decide);have h2:=hP 2 (by decide);have h3:=hP 3 (by decide);have h4:=hP 4 (by decide);have h5:=hP 5 (by decide);have h6:=hP 6 (by decide);have h7:=hP 7 (by decide);have h8:=hP 8 (by decide);have h9:=hP 9 (by decide);have h10:=hP 10 (by decide);clear hP;simp only[uV]at h0 h1 h2 h3 h4 h5 h6 h7 h8 h9 h10;clear hp hd;have hsz:=hg.size;replace bs:=bs.grow hg (by intro i _;rintro⟨j,_,hw⟩;exact False.elim hw);replace bt:=bt.grow hg (by intro i _;rintro⟨j,_,hw⟩;exact False.elim hw);replace hB:=hB.trans (hg.below (fun k hk=>⟨by omega,fun o=>by rintro⟨j,_,hw⟩;exact False.elim hw⟩));have hr:List.range 11=[0,1,2,3,4,5,6,7,8,9,10]:=rfl;rw[hr];clear hr;simp only[List.drop_succ_cons,List.drop_zero,List.drop_nil,ak,Act.put,aA,h0,h1,h2,h3,h4,h5,h6,h7,h8,h9,h10];clear h0 h1 h2 h3 h4 h5 h6 h7 h8 h9 h10;have xO:=hid hB;have sK:=hid (iD.out.below hB);have BT5:=hid bt;have c7:=bs.cell 7 _ rfl;have cfz:=bs.free;have bU:=bs.lt;clear bs bt hB hg hsz hmx htx;go_upto_region 10 with (fail);obtain⟨S6,hs6,tN⟩:=sK.out.xq (σ':={ σj with lines:=σj.lines++[(T+1,r)],next:=mx }) 7 (by decide) (.int .i64 (mx:Nat)) rfl rfl rfl rfl rfl;have ql:=hid hs6;have HF6:=hid tN;have BT7:=hid (BT5.out.aH (aF y5 A.sb 7 (.int .i64 (mx:Nat))) ajw);clear hs6 tN c7 cfz bU;generalize y5.setCell ⟨A.sb,7,none⟩ (.int .i64 (mx:Nat))=y6 at *;have c8:=BT7.out.cell 8 _ rfl;have bU:=BT7.out.lt;go_wp2_with fail;refine wp_loop_rounds 1 ?_;rw[rounds_succ];have Ro:r.size<=m:=by have:=jP.out;omega
   have auN:m<=cz:=by obtain⟨_,_,e,_,h2,_⟩:=acd.out;injection e with _ _ e3;omega
   go_wp2_with (first|(refine iI bytesOf (.tmp 97) (.tmp 98) rfl rfl rfl rfl Ro ?_)|fail);have hkn:∀q,(Value.slice ab qb qb).ownBlock=some q\/(Value.slice aa qa qa).ownBlock=some q->wr.heap.size<=q:=fun q e=>(Jp.out q e).1;have F1:aG (aO Sj vj vo EO Kj) (aO S4 (.slice ol (k+1) cl) vo EO (fun q=>Kj q\/((Value.slice ab qb qb).ownBlock=some q\/(Value.slice aa qa qa).ownBlock=some q))) wr y4:=by
    have h2:=HB2.out.size;exact fQ ((aC HB2.out).trans (Cj.out.mono (fun q h=>h.elim .inl (fun h=>.inr (.inl h))))) (fun q h=>(FT.out q h).imp id (fun h=>by omega)) (fun q h=>(vO.out q h).imp id (fun h=>by omega)) (fun q h=>.inl h) (fun q h=>h.imp id (fun h=>hkn q h))
   have F2:=F1.trans ((aG.below (aC xO.out)).trans (iY HF6.out));have aqg:∀q,(Value.slice az m cz).ownBlock=some q->q<wr.heap.size:=fun q e=>by
    obtain⟨_,_,e1,_,_,hc⟩:=acd.out;obtain⟨b,o,e2,hb,_⟩:=hc (by omega);injection e1 with e3;rw[e3,e2]at e;have e4:b=q:=by simpa[Value.ownBlock]using e
    rw[<-e4];exact hb
   have hcut:=acd.out.bY r.size m Ro (Nat.le_refl _);have hrl:=HRL.out;have hcx:(((r.enc++cZ (recs.drop (j+1))).map B).drop (r.size*1)).take ((m-r.size)*1)=(cZ (recs.drop (j+1))).map B:=by
    rw[Nat.mul_one,Nat.mul_one,List.map_append,List.drop_left' (by rw[List.length_map];exact hrl),List.take_of_length_le (by rw[List.length_map];have:=jP.out;omega)]
   rw[hcx]at hcut;have hml:m-r.size=(cZ (recs.drop (j+1))).length:=by have:=jP.out;omega
   have hsz2:=ny.out;have JH:=aaS.out;have htt:=oG.out;refine⟨⟨j+1,.slice ol (k+1) cl,Gi++[⟨T+1,r,.slice ab qb qb,.slice aa qa qa⟩],_,S6,by omega,?_,?_,fun q e hq=>?_,?_,iQ.out.trans F2,?_⟩,?_⟩
   ·congr 1;omega
   ·rw[<-hml];exact hcut.aH F2.grow (fun q e=>yu.out q (mM _ _ _ _ _ _ q e _ _))
   ·have e2:=mM _ _ _ _ _ _ q e m cz;exact(F2.new q hq).elim (yu.out q e2) (fun h=>by have:=aqg q e2;omega)
   ·have e:({ σj with lines:=σj.lines++[(T+1,r)],next:=mx }:St)={ σ with lines:=σ.lines++dG st (recs.take (j+1)),next:=lW σ.next (recs.take (j+1)) }:=by
     rw[<-HMX.out,<-HSG.out,vF.out,Jm,Ug,<-htt,List.append_assoc]
    rw[<-e];exact ql.out
   ·rw[List.length_append,HLJ.out];rfl
   ·simp only[intOf];omega
  ·obtain rfl:j=n:=by omega
   have hd0:recs.drop j=[]:=List.drop_of_length_le (Nat.le_of_eq HN.out);have htk:recs.take j=recs:=List.take_of_length_le (Nat.le_of_eq HN.out);rw[hd0]at hrd;obtain⟨az,cz,rfl⟩:=hrd.shape;have hl0:(cZ []).length=0:=rfl;rw[hl0];clear hrd hd0 hl0;go_wp2_with fail;refine(decode_nil _ _ _).mono ?_;rintro er y2 ⟨rfl,hb2⟩;have HB2:=hid hb2;clear hb2;go_wp2_with fail;go_ret;have hbb:=HB2.out.alloc HB2.out.size (.cells #[.int .i64 0,.int .i64 0,.int .i64 0,.int .i64 0,.int .i64 0,.int .i64 0,.slice none 0 0,.slice none 0 0,.slice none 0 0,.slice none 0 0,.int .i64 0] 85);have hs:=sF.out.below hbb;rw[htk]at hs;exact⟨rfl,vj,Gi,Kj,Sj,hs,iQ.out.trans (aG.below (aC hbb)),by rw[HLJ.out,HN.out]⟩
end
end
end Go.Proofs.YtpajagkhmodbnaaGreat

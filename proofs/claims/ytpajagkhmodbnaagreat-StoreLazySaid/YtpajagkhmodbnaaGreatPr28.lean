/- Pr: texts of the store seat laid together by program: Again. Conditions: each theorem names its own. -/
import Derived.Test.YtpajagkhmodbnaaGreatPr26
import Derived.Test.YtpajagkhmodbnaaGreatPr27
import Derived.Test.YtpajagkhmodbnaaGreatPr23
import Derived.Test.YtpajagkhmodbnaaGreatPr20
import Derived.Test.YtpajagkhmodbnaaGreatPr21
namespace Go.Proofs.YtpajagkhmodbnaaGreat
set_option maxRecDepth 100000
set_option maxHeartbeats 12800000
open Lib(hid)
set_option linter.unusedSimpArgs false
set_option linter.unusedVariables false
section
open Go.RowKit Go.Maps
theorem XK(w:World)(g o m cc:Nat)(L:List UInt8)(hL:L.length=8)(hm:8<=m)(hc:m<=cc)(hn:dN L<=1152921504606846976)(hg:g<w.heap.size)(hl:∀j c,L[j]? = some c->w.cell? ⟨g,o+j,none⟩=some (B c)):
  Calls Tryz.prog 110 #[.slice (some ⟨g,o,none⟩) m cc] w fun e w'=>e=.returned (.int .i64 (dN L:Nat))/\w'=w:=by
 have HL:=hid hl;have nS:=hid hL;have HN:=hid hn;have hc8:8<=cc:=by omega
 have hc0:0<cc:=by omega
 have b1:decide ((cc:Int)<8)=false:=by simp;omega
 have b2:decide (cc<8)=false:=by simp;omega
 clear hl hn;go_enter Tryz.func110,Tryz.ntmps110;go_wp2_with fail;go_loopw [3,5,9] (fun nn cz j wr=>∃t:Nat,t<=8/\j=.int .i64 t/\nn=.int .i64 ((dN (L.take t):Nat):Int)/\wr=w) (fun _ _ j _=>8-(intOf j).toNat)
 case atStart=>exact⟨0,by omega,rfl,rfl,rfl⟩
 case round=>
  obtain⟨t,ht,rfl,rfl,hy⟩:=hrel;obtain rfl:w=wr:=hy.symm;by_cases hlt:t<8
  ·have htl:t<L.length:=by rw[nS.out];exact hlt
   have hck:=HL.out t _ (List.getElem?_eq_getElem htl);simp only[B]at hck;have hsm:=DY L (t+1) (by omega);rw[oI L t htl]at hsm;have HS:=hid (oI L t htl);generalize hae:dN (L.take t)=a at hsm HS⊢;generalize hce:L[t]=cb at hck hsm HS;have hcb:=cb.toNat_lt;have hab:a<=4503599627370496:=by have:=HN.out;omega
   have HO:=hid (Kt a cb (by have:=HN.out;omega));clear hae hce hsm;go_wp2_with fail;go_roundw
   case rel=>exact⟨t+1,by omega,by go_num,by rw[HS.out];exact congrArg (Value.int IntKind.i64) HO.out,trivial⟩
   case measure=>simp[intOf];omega
  ·obtain rfl:t=8:=by omega
   have HT:=hid (show L.take 8=L from List.take_of_length_le (Nat.le_of_eq nS.out));go_wp2_with fail;go_ret;rw[HT.out];exact⟨rfl,rfl⟩
theorem LX(dr:List D2)(P:Nat->Prop):∀(l:List (Nat×Rc))(s:(Nat->Nat)×List Nat),(∀m∈s.2,P m)->(∀x∈l,P x.1)->∀m∈(l.foldl (fC dr) s).2,P m
 | [],s,h,_=>h
 | x::l,s,h,hl=>by
  rw[List.foldl_cons];refine LX dr P l _ ?_ (fun y hy=>hl y (List.mem_cons_of_mem _ hy));unfold fC;split
  ·intro m hm;rcases List.mem_append.1 hm with hm|hm
   ·exact h m hm
   ·rw[List.mem_singleton.1 hm];exact hl x (List.mem_cons_self ..)
  ·exact h
theorem Ei(dr:List D2):∀(l:List (Nat×Rc))(s:(Nat->Nat)×List Nat),(l.foldl (fC dr) s).2.length<=s.2.length+l.length
 | [],s=>Nat.le_refl _
 | x::l,s=>by
  rw[List.foldl_cons];have h:=Ei dr l (fC dr s x);have h2:(fC dr s x).2.length<=s.2.length+1:=by
   unfold fC;split
   ·simp
   ·simp
  rw[List.length_cons];omega
def Z5(l:List (Nat×Rc))(W:Nat->List UInt8)(m:Nat):Nat->List UInt8:=
 match l.findIdx? (fun x=>decide (x.1=m))with
 | none=>W
 | some j=>fF W (l.getD j (0,Rc.zero)).2.page (aX (W (l.getD j (0,Rc.zero)).2.page) (l.getD j (0,Rc.zero)).2.off (l.getD j (0,Rc.zero)).2.after)
def AL(l:List (Nat×Rc))(W:Nat->List UInt8)(out:List Nat):Nat->List UInt8:=out.foldl (Z5 l) W
theorem uK{S1 aT:Nat->Prop}{vl vo:Value}{EO:List Te}{K:Nat->Prop}{w w':World}(h:aG S1 aT w w'):aG (aO S1 vl vo EO K) (aO aT vl vo EO K) w w':=
 fQ (h.grow.mono fun k h=>.inl h) h.new (fun k h=>.inl h) (fun k h=>.inl h) (fun k h=>.inl h)
section
variable{W0 w w' w2:World}{A:bG}{c:Cf}{nf:Nat}{σ:St}{S:Nat->Prop}{V:Nat->List UInt8}{vl vo vd:Value}{EL:List Le}{EO:List Te}{K S1:Nat->Prop}{X:Nat->Prop}{dr:List D2}{t1 t2 B1 bW u:Nat}
structure AgI(W0:World)(A:bG)(c:Cf)(nf:Nat)(σ:St)(V:Nat->List UInt8)(vl vo:Value)(EL:List Le)(EO:List Te)(K:Nat->Prop)(t1 t2:Nat)(vd:Value)(dr:List D2)(B1 bW:Nat)(u:Nat)(S:Nat->Prop)(w:World):Prop where
 sv:∃σ' S1 k,aP W0 w A c σ' vl vo EL EO K S1/\S=aO S1 vl vo EO K/\σ'.p.wr+u<=bW/\jy σ σ' k/\mF c nf σ' V
 b1:Box w t1 [.pointer (some ⟨A.sb,0,none⟩)]
 b2:Box w t2 [.int .i64 0]
 n1:¬S t1/\t1<B1
 n2:¬S t2/\t2<B1
 rd:Reads 2 w vd dr.length (iE dr)
 nd:∀q,vd.ownBlock=some q->¬S q/\q<B1
 lo:W0.heap.size<=B1/\B1<=w.heap.size
theorem afF(h:aP W0 w A c σ vl vo EL EO K S1)(b1:Box w t1 [.pointer (some ⟨A.sb,0,none⟩)])(p:Nat)(hp:p<c.pg)(hwr:σ.p.wr+1<=1000000000)(hN:dN ((σ.get c p).2.1.take 8)<=1152921504606846976):
  Calls Tryz.prog 151 #[.int .i64 (p:Nat),.pointer (some ⟨t1,0,none⟩),.pointer (some ⟨t2,0,none⟩)] w fun e w'=>∃aT,e=.returned (.int .i64 (dN ((σ.get c p).2.1.take 8):Nat))/\aP W0 w' A c (σ.get c p).2.2 vl vo EL EO K aT/\aG S1 aT w w':=by
 have hcall:=xC h p hp hwr;have hlen:=QI h p hp hwr;generalize (σ.get c p).2.1=L at hcall hlen hN⊢;have HL:=hid hlen;have HN:=hid hN;have HC:=hid hcall;have k0:=b1.cell 0 _ rfl;have Gh:=b1.lt;have c3:=h.bC.cell 3 _ rfl;have bU:=h.bC.lt;clear hcall hN hwr h b1;go_enter Tryz.func151,Tryz.ntmps151;go_wp2_with fail;refine HC.out.mono ?_;rintro er w3 ⟨g,k,S2,rfl,hrow,hg,hk,pI,hsv,hf⟩;have hnum:=XK w3 g 0 512 k (L.take 8) (by rw[List.length_take,HL.out];rfl) (by decide) hk HN.out (by
  have:=hrow.lt g rfl;exact this.2) (fun j c hj=>by
  have hj2:L[j]? = some c:=by
   rw[List.getElem?_take]at hj;split at hj
   ·exact hj
   ·cases hj
  have h1:=dh hrow j (B c) (by rw[List.getElem?_map,hj2];rfl);rw[Addr.add_lit,Nat.zero_add]at h1;rw[Nat.zero_add];exact h1)
 have HNU:=hid hnum;have sF:=hid hsv;have HF:=hid hf;clear hnum hsv hf hrow HC;go_wp2_with fail;refine HNU.out.mono ?_;rintro er w4 ⟨rfl,rfl⟩;go_wp2_with fail;go_ret;exact⟨S2,rfl,sF.out,HF.out⟩
theorem aqp(hc:c.ok)(hbW:bW<=1000000000)(hN:∀p,p<c.pg->dN ((V p).take 8)<=1152921504606846976):
  Ho 151 #[.pointer (some ⟨t1,0,none⟩),.pointer (some ⟨t2,0,none⟩)] c.pg (fun p=>dN ((V p).take 8)) B1 (AgI W0 A c nf σ V vl vo EL EO K t1 t2 vd dr B1 bW) vl EL W0.heap.size vd dr where
 eg:=enters_of Tryz.func151 (by kernel_rfl) rfl
 ans:=by
  intro u S w p h hp;obtain⟨σ',S1,k,h1,rfl,h2,h3,h4⟩:=h.sv;obtain⟨_,g2,g3⟩:=h4.get hc hp;obtain⟨_,g4⟩:=σ'.iV c p hp;refine(afF (t1:=t1) (t2:=t2) h1 h.b1 p hp (by omega) (by rw[g2];exact hN p hp)).mono ?_;rintro e w' ⟨aT,rfl,h5,h6⟩;have hf:=uK (vl:=vl) (vo:=vo) (EO:=EO) (K:=K) h6;have nn:∀q,q<B1->¬aO S1 vl vo EO K q->¬aO aT vl vo EO K q:=fun q hq hn hs=>(hf.new q hs).elim hn (fun h7=>by have:=h.lo.2;omega);refine⟨_,by rw[g2],⟨⟨_,aT,k+1,h5,rfl,?_,h3.trans g4,g3⟩,h.b1.aH hf.grow h.n1.1,h.b2.aH hf.grow h.n2.1,⟨nn _ h.n1.2 h.n1.1,h.n1.2⟩,⟨nn _ h.n2.2 h.n2.1,h.n2.2⟩,h.rd.aH hf.grow (fun q e=>(h.nd q e).1),fun q e=>⟨nn q (h.nd q e).2 (h.nd q e).1,(h.nd q e).2⟩,h.lo.1,Nat.le_trans h.lo.2 hf.grow.size⟩,hf⟩;have:=g4.wr;omega
 dec:=by
  intro u S w h;obtain⟨σ',S1,k,h1,e,h2,h3,h4⟩:=h.sv;exact⟨⟨σ',S1,k,h1,e,by omega,h3,h4⟩,h.b1,h.b2,h.n1,h.n2,h.rd,h.nd,h.lo⟩
 grow:=by
  intro u S X w w' h hg hd hX;obtain⟨σ',S1,k,h1,rfl,h2,h3,h4⟩:=h.sv;have hx:∀q,q<B1->¬X q:=fun q hq hx=>by have:=hX q hx;omega
  have h5:=h1.grow hg hd (h1.bel.trans (hg.below (fun q hq=>⟨Nat.lt_of_lt_of_le hq h1.bel.size,hx q (Nat.lt_of_lt_of_le hq h.lo.1)⟩)));exact⟨⟨σ',S1,k,h5,rfl,h2,h3,h4⟩,h.b1.aH hg (hx _ h.n1.2),h.b2.aH hg (hx _ h.n2.2),h.n1,h.n2,h.rd.aH hg (fun q e=>hx q (h.nd q e).2),h.nd,h.lo.1,Nat.le_trans h.lo.2 hg.size⟩
 lt:=by
  intro u S w q h hq;obtain⟨σ',S1,k,h1,rfl,_⟩:=h.sv;exact(h1.lt q hq).2
 row:=by
  intro u S w h;obtain⟨σ',S1,k,h1,rfl,_⟩:=h.sv;exact h1.ln.row
 dr:=fun u S w h=>h.rd
end
def uX(W0 ws:World)(A:bG)(c:Cf)(σ:St)(vl vo:Value)(EL:List Le)(EO:List Te)(K S1:Nat->Prop)(aN:Nat)(r:Rc)(ab aa:Option Addr)(nb cb na ca t1 t8 m g ix n cl:Nat)(j b:Nat):Prop:=(j=10/\S1 b)
def mX(W0 ws:World)(A:bG)(c:Cf)(σ:St)(vl vo:Value)(EL:List Le)(EO:List Te)(K S1:Nat->Prop)(aN:Nat)(r:Rc)(ab aa:Option Addr)(nb cb na ca t1 t8 m g ix n cl:Nat)(i:Nat)(VS:Nat->Value)(LO HI:Nat->Nat)(v:Value)(lo hi:Nat)(w:World):Prop:=
 match i with
 | 0=>v=.pointer (some ⟨A.sb,0,none⟩)
 | 1=>v=.pointer (some ⟨A.sb,0,none⟩)
 | 2=>v=.pointer (some ⟨A.sb,0,none⟩)
 | 3=>v=.pointer (some ⟨A.sb,4,none⟩)
 | 4=>v=.slice (some ⟨g,0,none⟩) n cl
 | 5=>v=.int .i64 ((ix:Nat):Int)
 | 6=>v=.pointer (some ⟨g,ix*12,none⟩)
 | 7=>v=.pointer (some ⟨g,ix*12+1,none⟩)
 | 8=>v=.agg #[.int .i64 (r.kind:Nat),.int .i64 (r.aV:Nat),.int .i64 (r.prev:Nat),.int .i64 (r.next:Nat),.int .i64 (r.page:Nat),.int .i64 (r.off:Nat),.slice ab nb cb,.slice aa na ca,.slice none 0 0,.slice none 0 0,.int .i64 (r.count:Nat)]
 | 9=>v=.int .i64 ((m:Nat):Int)
 | 10=>∃S8,v=.int .i64 0/\aP W0 w A c (σ.apply c r m).2 vl vo EL EO K S8/\aG S1 S8 ws w
 | 11=>v=.int .i64 0
 | _=>True
abbrev XL:List (List Nat):=[[],[],[1],[1,2],[1,2,3],[],[1,2,3,4,5],[1,2,3,4,5,6],[1,2,3,4,5,6,7],[],[0,1,2,3,4,5,6,7,8,9],[0,1,2,3,4,5,6,7,8,9,10]]
theorem RN(W0 ws:World)(A:bG)(c:Cf)(σ:St)(vl vo:Value)(EL:List Le)(EO:List Te)(K S1:Nat->Prop)(aN:Nat)(r:Rc)(ab aa:Option Addr)(nb cb na ca t1 t8 m g ix n cl:Nat)  : ∀i j,i<12->j<12->j≠i->j∉XL.getD i []->(i,j)∉([]:List (Nat×Nat))->∀VS LO HI v lo hi w w',mX W0 ws A c σ vl vo EL EO K S1 aN r ab aa nb cb na ca t1 t8 m g ix n cl i VS LO HI v lo hi w->aj (uX W0 ws A c σ vl vo EL EO K S1 aN r ab aa nb cb na ca t1 t8 m g ix n cl j) w w'->mX W0 ws A c σ vl vo EL EO K S1 aN r ab aa nb cb na ca t1 t8 m g ix n cl i VS LO HI v lo hi w':=by
 intro i j hi hj hne hbs hx VS LO HI v lo hj2 w w' h hg
 match i,hi with
 | 0,_|1,_|2,_|3,_|4,_|5,_|6,_|7,_|8,_|9,_|11,_=>
  simp only[mX]at h⊢;exact h
 | 10,_=>
  simp only[mX]at h⊢;obtain⟨S8,h1,h2,h3⟩:=h;have hgx:aj (fun _=>False) w w':=hg.mono (fun b hb=>hne hb.1);exact⟨S8,h1,h2.stay hgx,h3.trans (aG.below hgx)⟩
 | (q+12),hq=>exact absurd hq (by omega)
theorem XM(W0 ws:World)(A:bG)(c:Cf)(σ:St)(vl vo:Value)(EL:List Le)(EO:List Te)(K S1:Nat->Prop)(aN:Nat)(r:Rc)(ab aa:Option Addr)(nb cb na ca t1 t8 m g ix n cl:Nat):∀i,i<12->∀VS dZ LO eu HI eF v lz hz w,(∀j∈XL.getD i [],VS j=dZ j/\LO j=eu j/\HI j=eF j)->mX W0 ws A c σ vl vo EL EO K S1 aN r ab aa nb cb na ca t1 t8 m g ix n cl i VS LO HI v lz hz w->mX W0 ws A c σ vl vo EL EO K S1 aN r ab aa nb cb na ca t1 t8 m g ix n cl i dZ eu eF v lz hz w:=by
 intro i hi VS dZ LO eu HI eF v lz hz w he h
 match i,hi with
 | 0,_|1,_|2,_|3,_|4,_|5,_|6,_|7,_|8,_|9,_|10,_|11,_=>
  simp only[mX]at h⊢;exact h
 | (q+12),hq=>exact absurd hq (by omega)
section
variable{W0 w w' w2:World}{A:bG}{c:Cf}{nf:Nat}{σ:St}{S:Nat->Prop}{V:Nat->List UInt8}{vl vo vd:Value}{EL:List Le}{EO:List Te}{K S1:Nat->Prop}{X:Nat->Prop}{dr:List D2}
structure Z7(W0 w0:World)(A:bG)(c:Cf)(nf:Nat)(σ:St)(S0:Nat->Prop)(vl vo:Value)(EL:List Le)(EO:List Te)(K:Nat->Prop)(W:Nat->List UInt8)(t1:Nat)(v:Value)(out:List Nat)(n k:Nat)(σ':St)(S1:Nat->Prop)(w:World):Prop where
 sv:aP W0 w A c σ' vl vo EL EO K S1
 ss:jy { σ with aW:=σ.aW+k } σ' (n+2*k)
 sd:fG c nf σ' (AL (EL.map fun e=>(e.aN,e.r)) W (out.take k))
 ft:aG S0 (aO S1 vl vo EO K) w0 w
 b1:Box w t1 [.pointer (some ⟨A.sb,0,none⟩)]
 n1:¬aO S1 vl vo EO K t1
 rd:Reads 1 w v out.length (out.map vN)
 nv:∀q,v.ownBlock=some q->¬aO S1 vl vo EO K q/\q<w.heap.size
theorem Z7.below{w0:World}{S0:Nat->Prop}{W:Nat->List UInt8}{t1:Nat}{v:Value}{out:List Nat}{n k:Nat}{σ':St}(h:Z7 W0 w0 A c nf σ S0 vl vo EL EO K W t1 v out n k σ' S1 w)(hb:Below w.heap.size w w'):Z7 W0 w0 A c nf σ S0 vl vo EL EO K W t1 v out n k σ' S1 w':=
 ⟨h.sv.below hb,h.ss,h.sd,h.ft.trans (aG.below (aC hb)),h.b1.below hb (Nat.le_refl _),h.n1,h.rd.below hb (Nat.le_refl _),fun q e=>⟨(h.nv q e).1,Nat.lt_of_lt_of_le (h.nv q e).2 hb.size⟩⟩
theorem again_at(hc:c.ok)(h:aP W0 w A c σ vl vo EL EO K S1)(hV:mF c nf σ V)(Vt:∀p,p<c.pg->dN ((V p).take 8)<=1099511627776)(hd:Reads 2 w vd dr.length (iE dr))(hdn:∀q,vd.ownBlock=some q->¬aO S1 vl vo EO K q/\q<w.heap.size)
  (hn2:EL.length<=1000000) (aci:dr.length<=1000000) (hpg:c.pg<=1099511627776) (hdl:∀x∈dr,x.2<=1099511627776)
  (hr:∀e∈EL,1<=e.aN/\e.r.page<c.pg/\e.r.off+e.r.after.length<=504) (hwr:σ.p.wr+3*EL.length<=1000000000) (hre:σ.aW+EL.length<=1099511627776)
  (out:List Nat) (hout:(fE dr (fun p=>dN ((V p).take 8)) (EL.map fun e=>(e.aN,e.r))).2=out):
  Calls Tryz.prog 118 #[.pointer (some ⟨A.sb,0,none⟩),vd] w fun er w'=>er=.returned (.int .i64 0)/\∃(σ':St)(aT:Nat->Prop),aP W0 w' A c σ' vl vo EL EO K aT/\jy { σ with aW:=σ.aW+out.length } σ' (EL.length+2*out.length)/\
   fG c nf σ' (AL (EL.map fun e=>(e.aN,e.r)) (fun q=>(V q).drop 8) out)/\aG (aO S1 vl vo EO K) (aO aT vl vo EO K) w w':=by
 obtain⟨al,cl,hvl⟩:=bF h.ln.row;obtain⟨ad,cd,hvd⟩:=Reads.shape hd;have hb1:Below w.heap.size w (w.alloc (.cells #[.pointer (some ⟨A.sb,0,none⟩)] 28)):=(Below.refl _ _).alloc (Nat.le_refl _) _;have hb2:Below w.heap.size w ((w.alloc (.cells #[.pointer (some ⟨A.sb,0,none⟩)] 28)).alloc (.cells #[.int .i64 0] 35)):=hb1.alloc (by simp) _;have h2:=h.below hb2;have bb:=(Box.new w #[.pointer (some ⟨A.sb,0,none⟩)] 28 rfl).alloc (.cells #[.int .i64 0] 35);have bd:=Box.new (w.alloc (.cells #[.pointer (some ⟨A.sb,0,none⟩)] 28)) #[.int .i64 0] 35 rfl;have hd2:=hd.below hb2 (Nat.le_refl _);obtain⟨w2,hw2⟩:∃x,((w.alloc (.cells #[.pointer (some ⟨A.sb,0,none⟩)] 28)).alloc (.cells #[.int .i64 0] 35))=x:=⟨_,rfl⟩
 have hsz:(w.alloc (.cells #[.pointer (some ⟨A.sb,0,none⟩)] 28)).heap.size=w.heap.size+1:=by simp
 have hs2:w2.heap.size=w.heap.size+2:=by rw[<-hw2];simp
 obtain⟨t1,ht1⟩:∃x,w.heap.size=x:=⟨_,rfl⟩
 rw[hsz,hw2]at bd;rw[hw2]at h2 bb hd2 hb2;rw[ht1]at bd bb hs2;have hI:AgI W0 A c nf σ V vl vo EL EO K t1 (t1+1) vd dr (t1+2) (σ.p.wr+EL.length) EL.length (aO S1 vl vo EO K) w2:=
  ⟨⟨σ,S1,0,h2,rfl,Nat.le_refl _,jy.refl σ,hV⟩,bb,bd,⟨fun hs=>by have:=(h.lt _ hs).2;omega,by omega⟩,⟨fun hs=>by have:=(h.lt _ hs).2;omega,by omega⟩,hd2,fun q e=>⟨(hdn q e).1,by have:=(hdn q e).2;omega⟩,by have:=h.bel.size;omega,by omega⟩
 have hsm:=h.ln.sm;have htb:=h.ln.tb;have hP:=aqp (W0:=W0) (A:=A) (c:=c) (nf:=nf) (σ:=σ) (V:=V) (vl:=vl) (vo:=vo) (EL:=EL) (EO:=EO) (K:=K) (t1:=t1) (t2:=t1+1) (vd:=vd) (dr:=dr) (B1:=t1+2) (bW:=σ.p.wr+EL.length) hc (by omega) (fun p hp=>by have:=Vt p hp;omega);have hcall:=ach hP EL.length dr.length rfl hn2 rfl aci hpg Vt hdl (fun e he=>⟨(hsm e he).2,fun _=>(hr e he).2.1,(Reads.shape (htb e he).1.1).imp fun a ⟨k,hk⟩=>⟨_,k,hk⟩,(Reads.shape (htb e he).2.1).imp fun a ⟨k,hk⟩=>⟨_,k,hk⟩⟩) _ rfl (aO S1 vl vo EO K) w2 hs2.symm hI;have hlen:out.length<=EL.length:=by
  have:=Ei dr (EL.map fun e=>(e.aN,e.r)) ((fun p=>dN ((V p).take 8)),[]);rw[List.length_map]at this;rw[<-hout];simpa[fE]using this
 have hmem:∀m∈out,∃j e,EL[j]? = some e/\(EL.map fun e=>(e.aN,e.r)).findIdx? (fun x=>decide (x.1=m))=some j/\EL.findIdx? (fun x=>decide (x.aN=m))=some j/\1<=m/\m<=1099511627776:=fun m hm=>by
  have h1:=LX dr (fun m=>∃e∈EL,e.aN=m) (EL.map fun e=>(e.aN,e.r)) ((fun p=>dN ((V p).take 8)),[]) (fun m hm=>by cases hm) (fun x hx=>by
   obtain⟨e,he,rfl⟩:=List.mem_map.1 hx;exact⟨e,he,rfl⟩) m (by rw[<-hout]at hm;exact hm)
  obtain⟨e,he,rfl⟩:=h1;have h3:(EL.findIdx? fun x=>decide (x.aN=e.aN)).isSome:=by
   rw[List.findIdx?_isSome];exact List.any_eq_true.2 ⟨e,he,by simp⟩
  obtain⟨j,hj⟩:=Option.isSome_iff_exists.1 h3;obtain⟨h4,_⟩:=List.findIdx?_eq_some_iff_getElem.1 hj;refine⟨j,EL[j],List.getElem?_eq_getElem h4,?_,hj,(hr e he).1,(hsm e he).2⟩;rw[List.findIdx?_map];exact hj
 rw[hout]at hcall;have XO:=hid hcall;have HI:=hid hI;have HB2:=hid hb2;have HC:=hid hc;have HR:=hid hr;have Ci:=hid hsm;have QA:=hid htb;have nK:=hid hwr;have wo:=hid hre;have aqr:=hid hmem;have HLEN:=hid hlen;have FC:=hid hn2;have c4:=h2.bC.cell 4 _ rfl;rw[hvl]at c4;have bU:=h2.bC.lt;have k0:=bb.cell 0 _ rfl;have Gh:=bb.lt;rw[<-hw2]at c4 bU k0 Gh;have HW2:=hid hw2;have pX:=hid hvl;have HVD:=hid hvd;clear hd hd2 hb1 h2 bb bd hI hP hcall hc hr hsm htb hwr hre hmem hlen hn2 h hV Vt hdn aci hpg hdl hout hvl hvd hs2 hw2;rw[pX.out,HVD.out]at XO;rw[HVD.out];go_enter Tryz.func118,Tryz.ntmps118;go_wp2_with fail
 try rw[ht1]
 rw[HW2.out];refine XO.out.mono ?_;rintro er w3 ⟨v,S',rfl,hI,hf,hrd,Ad⟩;obtain⟨σ1,S2,k1,hsv,rfl,VP,hss,ajP⟩:=hI.sv;rw[<-pX.out]at hsv hf Ad;have d0:=hI.b2.cell 0 _ rfl;have mg:=hI.b2.lt;obtain⟨av,cv,hv⟩:=Reads.shape hrd;have hat:Z7 W0 w A c nf σ (aO S1 vl vo EO K) vl vo EL EO K (fun q=>(V q).drop 8) t1 v out EL.length 0 σ1 S2 w3:=
  ⟨hsv,⟨by have:=VP;show σ1.p.wr<=σ.p.wr+(EL.length+2*0);omega,hss.R,hss.lines,hss.opn,hss.master,hss.next,hss.commits,hss.aW,hss.aZ⟩,⟨V,ajP,fun q _=>rfl⟩,(aG.below (aC HB2.out)).trans hf,hI.b1,by rw[pX.out];exact hI.n1.1,hrd,fun q e=>⟨(Ad q e).1,(Ad q e).2.2⟩⟩
 subst hv;obtain⟨mm,hmm⟩:∃x,out.length=x:=⟨_,rfl⟩
 rw[hmm]at hat HLEN⊢;have jP:=hid hmm;have HAT:=hid hat;clear hat hI hf hrd Ad hsv hss ajP VP XO HI HB2 c4 bU k0 Gh hmm HW2 ht1 hsz;go_wp2_with fail;go_loopw [8,9,10,23] (fun z8 z9 z10 i wq=>∃(k:Nat)(σk:St)(Sk:Nat->Prop),k<=mm/\i=.int .i64 (k:Nat)/\Z7 W0 w A c nf σ (aO S1 vl vo EO K) vl vo EL EO K (fun q=>(V q).drop 8) t1 (.slice av mm cv) out EL.length k σk Sk wq) (fun _ _ _ i _=>mm-(intOf i).toNat)
 case atStart=>exact⟨0,σ1,S2,Nat.zero_le _,rfl,HAT.out⟩
 case round=>
  obtain⟨k,σk,Sk,hk,rfl,hat⟩:=hrel;have HAT:=hid hat;clear hat;by_cases hkn:k<mm
  ·obtain⟨m,hm⟩:∃m,out[k]? = some m:=⟨_,List.getElem?_eq_getElem (by rw[jP.out];exact hkn)⟩
   have hrd:=HAT.out.rd;rw[jP.out]at hrd;obtain⟨_,_,b,o,yP,hbl,hcd⟩:=hrd.gG (by omega);subst yP;have cm:=hcd k (vN m) (by rw[List.getElem?_map,hm];rfl);simp only[vN]at cm;obtain⟨j,e,Z9,hix1,hix2,hm1,hm2⟩:=aqr.out m (List.mem_of_getElem? hm);have hee:=List.mem_of_getElem? Z9;have hrr:=HR.out e hee;have acn:=QA.out e hee;obtain⟨aN,r,vb,va⟩:=e;obtain⟨ab,cb,hvb⟩:=Reads.shape acn.1.1;obtain⟨aa,ca,hva⟩:=Reads.shape acn.2.1;simp only at hvb hva hrr;subst hvb hva;have hstep:AL (EL.map fun e=>(e.aN,e.r)) (fun q=>(V q).drop 8) (out.take (k+1))=fF (AL (EL.map fun e=>(e.aN,e.r)) (fun q=>(V q).drop 8) (out.take k)) r.page (aX (AL (EL.map fun e=>(e.aN,e.r)) (fun q=>(V q).drop 8) (out.take k) r.page) r.off r.after):=by
    have h1:out.take (k+1)=out.take k++[m]:=by
     obtain⟨h2,h3⟩:=List.getElem?_eq_some_iff.1 hm;rw[List.take_add_one,hm];rfl
    have h4:(EL.map fun e=>(e.aN,e.r)).getD j (0,Rc.zero)=(aN,r):=by
     rw[List.getD_eq_getElem?_getD,List.getElem?_map,Z9];rfl
    unfold AL;rw[h1,List.foldl_append,List.foldl_cons,List.foldl_nil];rw[Z5,hix1];simp only[h4]
   have sS:=hid hstep;have FN:=hid hee;have AO:=hid hkn;have hkb:k<=1000000:=by have:=HLEN.out;have:=FC.out;omega
   have HRR:=hid hrr;have HIX:=hid hix2;have HEJ:=hid Z9;have KL:=hid hm1;have IJ:=hid hm2;have hjl:j<EL.length:=(List.getElem?_eq_some_iff.1 Z9).1;have c4:=HAT.out.sv.bC.cell 4 _ rfl;rw[pX.out]at c4;have bU:=HAT.out.sv.bC.lt;have k0:=HAT.out.b1.cell 0 _ rfl;have Gh:=HAT.out.b1.lt;clear hstep hix1 hix2 hm Z9 hrd hcd hm1 hm2 hee hrr acn;go_upto_region 8 with (fail);have hb7:Below wr.heap.size wr (wr.alloc (.cells #[.int .i64 (m:Nat)] 3)):=(Below.refl _ _).alloc (Nat.le_refl _) _;have bx:=Box.new wr #[.int .i64 (m:Nat)] 3 rfl;obtain⟨w7,hw7⟩:∃x,wr.alloc (.cells #[.int .i64 (m:Nat)] 3)=x:=⟨_,rfl⟩
   obtain⟨t8,Gf⟩:∃x,wr.heap.size=x:=⟨_,rfl⟩
   rw[hw7]at hb7 bx;rw[Gf]at bx;have Hq:=hid (HAT.out.below hb7);have Jc:Hid (¬aO Sk vl vo EO K t8):=hid (fun hs=>by have:=(HAT.out.sv.lt _ hs).2;omega);have hcall:=Z4 EL EL.length m t8 w7 bx rfl (by have:=FC.out;omega) al cl (by have:=Hq.out.sv.ln.row;rw[pX.out]at this;exact Reads.aY this);rw[HIX.out]at hcall;have HCI:=hid hcall;have iC:=hid bx;clear hcall bx cm hbl c4 bU k0 Gh;have c4:=Hq.out.sv.bC.cell 4 _ rfl;rw[pX.out]at c4;have bU:=Hq.out.sv.bC.lt;have k0:=Hq.out.b1.cell 0 _ rfl;have Gh:=Hq.out.b1.lt
   try rw[hw7]
   try rw[Gf]
   clear hb7 hw7 Gf HAT;go_wp2_with fail;refine HCI.out.mono ?_;rintro er w8 ⟨rfl,hb8⟩;have mY:=hid (Hq.out.below hb8);have bt:=iC.out.below hb8 (Nat.le_refl _);clear hb8 c4 bU k0 Gh Hq iC HCI;have RP:jh (some j)=(j:Int):=rfl;rw[RP];clear RP;go_upto_region 9 with (fail);have Lj:=hid (fun h=>mY.out.n1 (.inl h):¬Sk t1);have Aq:=hid (fun h=>Jc.out (.inl h):¬Sk t8);have l9:=hid mY.out.sv;have HWK:Hid (σk.p.wr+2<=1000000000):=hid (by have h1:=mY.out.ss.wr;have h2:=nK.out;have h3:=HLEN.out;simp only at h1;omega);obtain⟨g,cu,IU,_,_⟩:=dV mY.out.sv.ln.row (by omega);have aqs:=pX.out.symm.trans IU;injection aqs with q1 _ q3;subst q1 q3;clear IU;have gZ:Hid (w8.ownsRow W0.heap.size 87 12 (.slice (some ⟨g,0,none⟩) EL.length cl) EL.length (fA EL)):=hid (by rw[<-pX.out];exact mY.out.sv.ln.row);have bs:Box w8 A.sb [.pointer (some ⟨A.d,0,none⟩),.pointer (some ⟨A.r,0,none⟩),.pointer (some ⟨A.f,0,none⟩),.pointer (some ⟨A.g,0,none⟩),.slice (some ⟨g,0,none⟩) EL.length cl,vo,.int .i64 (σk.master:Nat),.int .i64 (σk.next:Nat),.int .i64 (σk.commits:Nat),.bool false,.int .i64 (σk.aW:Nat),.int .i64 (σk.aZ:Nat)]:=by
    have:=mY.out.sv.bC;unfold qj at this;rw[pX.out]at this;exact this
   have bx:=bt;replace bt:=mY.out.b1;have hB:Below 0 w8 w8:=Below.refl _ _;refine gK (uX W0 w8 A c σk vl vo EL EO K Sk aN r ab aa (r.before.length) cb (r.after.length) ca t1 t8 m g j (EL.length) cl) 12 XL [some 33,some 34,some 35,some 36,some 37,some 38,some 39,some 40,some 41,some 42,some 43,some 10] [[],[],[1],[2],[3],[],[4,5],[6],[7],[],[0,8,9],[10]] [0,1,2,3,4,5,6,7,8,9,10,11] [] (by decide) (by kernel_rfl) (by kernel_rfl) rfl (mX W0 w8 A c σk vl vo EL EO K Sk aN r ab aa (r.before.length) cb (r.after.length) ca t1 t8 m g j (EL.length) cl) (XM W0 w8 A c σk vl vo EL EO K Sk aN r ab aa (r.before.length) cb (r.after.length) ca t1 t8 m g j (EL.length) cl) (RN W0 w8 A c σk vl vo EL EO K Sk aN r ab aa (r.before.length) cb (r.after.length) ca t1 t8 m g j (EL.length) cl) ?al2 ?_
   case al2=>
    intro i hi o ho vs lo eX w' hg hp hdd;have hsz:=hg.size;replace hp:=fun j hj=>(hp j hj).2.2.2
    match i,hi with
    | 0,_|1,_|2,_|3,_|4,_|5,_|9,_=>
     cases ho;simp only[aA,mX]at hp
     first|simp only[ak,Act.put,aA,hp]|simp only[ak,Act.put,aA]
     try have e0:=(bt.aH hg (by rintro⟨j,_,hne,hb,hw⟩;simp only[uX]at hw;obtain⟨rfl,hw⟩:=hw;first|exact hb (by decide)|exact hne rfl)).cell 0 _ rfl
     try have e1:=(bs.aH hg (by rintro⟨j,_,hne,hb,hw⟩;simp only[uX]at hw;obtain⟨rfl,hw⟩:=hw;first|exact hb (by decide)|exact hne rfl)).cell 4 _ rfl
     try have e2:=(bx.aH hg (by rintro⟨j,_,hne,hb,hw⟩;simp only[uX]at hw;obtain⟨rfl,hw⟩:=hw;first|exact hb (by decide)|exact hne rfl)).cell 0 _ rfl
     go_wp2;exact⟨_,rfl,aj.refl _,rfl⟩
    | 6,_=>
     cases ho;simp only[ak,Act.put,aA];have h4:=hp 4 (by simp);have h5:=hp 5 (by simp);simp only[mX]at h4 h5;rw[h4,h5];go_wp2;exact⟨_,rfl,aj.refl _,by first|rfl|simp⟩
    | 7,_=>
     cases ho;simp only[ak,Act.put,aA];have h6:=hp 6 (by simp);simp only[mX]at h6;rw[h6];go_wp2;exact⟨_,rfl,aj.refl _,by first|rfl|simp⟩
    | 8,_=>
     cases ho;simp only[ak,Act.put,aA];have h7:=hp 7 (by simp);simp only[mX]at h7;rw[h7];have hgx:aj (fun _=>False) w8 w':=hg.mono (fun b hw=>by obtain⟨q,_,hne,hb,hw⟩:=hw;simp only[uX]at hw;obtain⟨rfl,hw⟩:=hw;first|exact hb (by decide)|exact hne rfl);have hrw:=aI gZ.out hgx (fun _ _ h=>h);have hcl:∀q u,(eG ⟨aN,r,.slice ab r.before.length cb,.slice aa r.after.length ca⟩)[q]? = some u->w'.cell? ⟨g,j*12+q,none⟩=some u:=fun q u hu=>by
      have h1:=dh hrw (j*12+q) u (oK EL j _ HEJ.out q u hu);rw[Addr.add_lit,Nat.zero_add]at h1;exact h1
     have z1:=hcl 1 _ rfl;have z2:=hcl 2 _ rfl;have z3:=hcl 3 _ rfl;have z4:=hcl 4 _ rfl;have z5:=hcl 5 _ rfl;have z6:=hcl 6 _ rfl;have z7:=hcl 7 _ rfl;have z8:=hcl 8 _ rfl;have z9:=hcl 9 _ rfl;have z10:=hcl 10 _ rfl;have z11:=hcl 11 _ rfl;go_wp2;exact⟨_,rfl,aj.refl _,rfl⟩
    | 10,_=>
     cases ho;simp only[ak,Act.put,aA];have h0:=hp 0 (by simp);have h8:=hp 8 (by simp);have h9:=hp 9 (by simp);simp only[mX]at h0 h8 h9;rw[h0,h8,h9];have hgx:aj (fun _=>False) w8 w':=hg.mono (fun b hw=>by obtain⟨q,_,hne,hb,hw⟩:=hw;simp only[uX]at hw;obtain⟨rfl,hw⟩:=hw;first|exact hb (by decide)|exact hne rfl);have hsv:=l9.out.stay hgx;have hcall:=GR hsv r ab aa r.before.length cb r.after.length ca rfl (hsv.ln.tb _ FN.out).2.1 (fun q e=>⟨fun h=>hsv.k1 q ((hsv.ln.tb _ FN.out).2.2 q e) h,(hsv.kin q ((hsv.ln.tb _ FN.out).2.2 q e)).2⟩) HRR.out.2.1 HRR.out.2.2 m KL.out (by have:=IJ.out;omega) HWK.out;have cO:=hid hcall;clear hcall hsv;go_wp2_with fail;refine cO.out.mono ?_;rintro e y ⟨S8,rfl,h5,h6⟩;go_wp2;exact⟨_,rfl,h6.grow.mono (fun b h=>⟨rfl,h⟩),S8,rfl,h5,(aG.below hgx).trans h6⟩
    | 11,_=>
     cases ho;simp only[ak,Act.put,aA];have h10:=hp 10 (by simp);simp only[mX]at h10;obtain⟨S8,e10,_⟩:=h10;rw[e10];go_wp2;exact⟨_,rfl,aj.refl _,rfl⟩
    | (q+12),hq=>exact absurd hq (by omega)
   intro vS lo hi w9 hg hp hd;have hP:=fun j hj=>(hp j hj).2.2.2;have h0:=hP 0 (by decide) (by decide);have h1:=hP 1 (by decide) (by decide);have h2:=hP 2 (by decide) (by decide);have h3:=hP 3 (by decide) (by decide);have h4:=hP 4 (by decide) (by decide);have h5:=hP 5 (by decide) (by decide);have h6:=hP 6 (by decide) (by decide);have h7:=hP 7 (by decide) (by decide);have h8:=hP 8 (by decide) (by decide);have h9:=hP 9 (by decide) (by decide);have h10:=hP 10 (by decide) (by decide);have h11:=hP 11 (by decide) (by decide);clear hP;simp only[mX]at h0 h1 h2 h3 h4 h5 h6 h7 h8 h9 h10 h11;clear hp hd;have hsz:=hg.size;replace bt:=bt.aH hg (by rintro⟨j,_,hw⟩;simp only[uX]at hw;first|exact Lj.out hw.2|exact Aq.out hw.2|omega);replace bx:=bx.aH hg (by rintro⟨j,_,hw⟩;simp only[uX]at hw;first|exact Lj.out hw.2|exact Aq.out hw.2|omega);replace hB:=hB.trans (hg.below (fun k hk=>⟨by omega,by rintro⟨j,_,hw⟩;simp only[uX]at hw;first|exact Lj.out hw.2|exact Aq.out hw.2|omega⟩));have hr:List.range 12=[0,1,2,3,4,5,6,7,8,9,10,11]:=rfl;rw[hr];clear hr;simp only[List.drop_succ_cons,List.drop_zero,List.drop_nil,ak,Act.put,aA,h0,h1,h2,h3,h4,h5,h6,h7,h8,h9,h11];clear h0 h1 h2 h3 h4 h5 h6 h7 h8 h9 h11;obtain⟨S8,_,yF,yG⟩:=h10;have pW:=hid yF;have Aj:=hid yG;have HB1:=hid bt;have QN:=hid (F8 l9.out r HRR.out.2.1 HRR.out.2.2 m KL.out (by have:=HWK.out;omega));have HAQ:=hid (mY.out.sd.apply HC.out r HRR.out.2.1 HRR.out.2.2 m KL.out);obtain⟨σ9,hσ9⟩:∃x,(σk.apply c r m).2=x:=⟨_,rfl⟩
   rw[hσ9]at pW QN HAQ;obtain⟨rn,hrn⟩:∃x,σ9.aW=x:=⟨_,rfl⟩
   have hrb:rn<=1099511627776:=by rw[<-hrn,QN.out.2.aW,mY.out.ss.aW];have:=wo.out;have:=HLEN.out;show σ.aW+k<=_;omega
   have AP:=pW.out.bC;unfold qj at AP;rw[hrn]at AP;have c10:=AP.cell 10 _ rfl;have cfz:=AP.free;have bU:=AP.lt;have k0:=bt.cell 0 _ rfl;have Gh:=bt.lt;have HRN:=hid hrn;clear yF yG bt bx AP hB hg hsz hσ9 hrn;go_wp2_with fail;go_roundw
   case rel=>
    have hkn:=AO.out;obtain⟨xW,hs10,Ej⟩:=pW.out.xq (σ':={ σ9 with aW:=rn+1 }) 10 (by decide) (.int .i64 ((rn:Int)+1)) rfl rfl rfl rfl rfl;have hf:=uK (vl:=vl) (vo:=vo) (EO:=EO) (K:=K) (Aj.out.trans Ej);have hb1:=HB1.out.aH (aF w9 A.sb 10 (.int .i64 ((rn:Int)+1))) (fun e=>mY.out.n1 (.inl (e▸l9.out.pG)));have hss:=QN.out.2;have hst:=mY.out.ss;refine⟨k+1,_,xW,by omega,by go_num,⟨hs10,⟨?_,hst.R.trans hss.R,hss.lines.trans hst.lines,hss.opn.trans hst.opn,hss.master.trans hst.master,hss.next.trans hst.next,hss.commits.trans hst.commits,?_,hss.aZ.trans hst.aZ⟩,?_,mY.out.ft.trans hf,hb1,fun h=>(hf.new _ h).elim mY.out.n1 (fun h2=>by have:=mY.out.b1.lt;omega),mY.out.rd.aH hf.grow (fun q e=>(mY.out.nv q e).1),fun q e=>⟨fun h=>(hf.new _ h).elim (mY.out.nv q e).1 (fun h2=>by have:=(mY.out.nv q e).2;omega),Nat.lt_of_lt_of_le (mY.out.nv q e).2 hf.grow.size⟩⟩⟩
    ·have h1:=hss.wr;have h2:=hst.wr;simp only at h2⊢;omega
    ·show rn+1=σ.aW+(k+1)
     rw[<-HRN.out,hss.aW,hst.aW];simp only;omega
    ·rw[sS.out];exact HAQ.out.2.congr rfl rfl
   case measure=>have:=AO.out;simp[intOf];omega
  ·obtain rfl:mm=k:=by omega
   go_wp2_with fail;go_ret;refine⟨rfl,σk,Sk,HAT.out.sv,by rw[jP.out];exact HAT.out.ss,?_,HAT.out.ft⟩;have:=HAT.out.sd;rw[List.take_of_length_le (Nat.le_of_eq jP.out)]at this;exact this
end
end
end Go.Proofs.YtpajagkhmodbnaaGreat

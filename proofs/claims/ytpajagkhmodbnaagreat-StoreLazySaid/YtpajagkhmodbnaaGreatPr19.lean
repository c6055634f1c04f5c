/- Pr: texts of the store seat laid together by program: SvCopy SvApply SvOf SvRes SvRoom SvTx SvBegin SvBusy SvWKit SvWrite SvRead SvStep SvDel. Conditions: each theorem names its own. -/
import Derived.Test.YtpajagkhmodbnaaGreatPr18
import Derived.Test.YtpajagkhmodbnaaGreatPr12
import Derived.Deep.QuietTactic
import Derived.BigQuiet
namespace Go.Proofs.YtpajagkhmodbnaaGreat
set_option maxRecDepth 100000
set_option maxHeartbeats 12800000
open Lib(hid)
set_option linter.unusedSimpArgs false
set_option linter.unusedVariables false
section
open Go.RowKit
theorem dK(b:List UInt8)(off:Nat)(x:List UInt8)(h:off<=b.length):(aX b off x).length=b.length:=by
 unfold aX;simp only[List.length_append,List.length_take,List.length_drop];omega
theorem uz{w:World}{ops:Array Oper}{rest:List Oper}{o:Oper}{a:Act}{Q:Exit->Act->World->Prop}(hgd:o.guard=none)(d s:Operand)
  (ho:o.op=.call { callee:=.builtin .copy,args:=#[d,s],argTypes:=#[48,48] })
  {base:Nat} {v:Value} {n off:Nat} {xs ys:List UInt8} (hown:w.ownsRow base 5 1 v n (xs.map B)) (ho2:off<=n)
  (dp:Option Addr) (dc:Nat) (hd:a.eval d=.slice dp (n-off) dc) (hdp:off<n->∀g,v.ownBlock=some g->dp=some ⟨g,off,none⟩)
  {sp:Option Addr} {sn sc:Nat} (hs:a.eval s=.slice sp sn sc) (hv:Reads 1 w (.slice sp sn sc) sn (ys.map B))
  (h:∀w' k,w'.ownsRow base 5 1 v n ((aX xs off ys).map B)->aj (fun b=>v.ownBlock=some b) w w'->wpList Tryz.prog ops Q rest (a.put o.dst (goInt k)) w'):wpList Tryz.prog ops Q (o::rest) a w:=by
 have hxl:xs.length=n:=by have:=hown.1;rw[List.length_map]at this;omega
 obtain⟨pV,c2,hse,hyl,hsc,UJ⟩:=hv;injection hse with e1 e2 e3;subst e1 e3;have Bl:ys.length=sn:=by rw[List.length_map]at hyl;omega
 by_cases h0:sn=0\/n-off=0
 ·refine wpList_copy_nothing hgd d s 48 48 ho 5 Tryz.underlying48 (by kernel_rfl) dp sp (n-off) dc sn sc hd hs (by rcases h0 with h0|h0<;>simp[h0]) (h w 0 ?_ (aj.refl w));have e:aX xs off ys=xs:=by
   unfold aX;rcases h0 with h0|h0
   ·rw[show ys=[] from List.eq_nil_of_length_eq_zero (by omega)];simp
   ·rw[show xs.length-off=0 by omega,List.take_of_length_le (by omega),List.drop_eq_nil_of_le (by omega)];simp
  rw[e];exact hown
 ·have hsn:0<sn:=by omega
  have hno:off<n:=by omega
  obtain⟨b,of,rfl,hbl,hcell⟩:=UJ hsn;rcases hown.2 with ⟨_,hn0⟩|⟨g,cap,cur,rfl,hb,hg,hnc,hcm,hcs,ht⟩
  ·omega
  ·have abm:=hdp hno g rfl;subst abm;obtain⟨mn,ahn,P6,hm4⟩:∃m,Nat.min sn (n-off)=m/\(m=sn/\sn<=n-off\/m=n-off/\n-off<=sn)/\m<=n-off:=by
    rcases Nat.le_total sn (n-off)with h|h
    ·exact⟨sn,Nat.min_eq_left h,.inl ⟨rfl,h⟩,h⟩
    ·exact⟨n-off,Nat.min_eq_right h,.inr ⟨rfl,h⟩,Nat.le_refl _⟩
   have hml:((ys.map B).take (n-off)).length=mn:=by rw[<-ahn,List.length_take,List.length_map,Bl];exact Nat.min_comm _ _
   have hcl:cur.toList.length=cap*1:=by rw[Array.length_toList];exact hcs
   refine wpList_copy_own hgd d s 48 48 ho 5 Tryz.underlying48 (by kernel_rfl) g off (n-off) dc ⟨b,of,none⟩ sn sc hd hs cur 5 hg ((ys.map B).take (n-off)) (hml.trans ahn.symm) (fun j u hu=>by rw[Addr.add_lit];refine hcell j u ?_;rw[List.getElem?_take]at hu;split at hu;exact hu;cases hu) (by rw[hml,<-Array.length_toList,hcl];omega) (fun u hu=>eU ys u (List.mem_of_mem_take hu)) ?_;refine h _ _ ⟨?_,.inr ⟨g,cap,_,rfl,hb,setRow_heap w g _ _ _ _ hg,hnc,hcm,?_,?_⟩⟩ ⟨rfl,rfl,rfl,by simp[World.setRow],fun k hk hx=>setRow_other w g k _ (fun e=>hx (by subst e;rfl))⟩
   ·rw[List.length_map,dK _ _ _ (by omega)];omega
   ·simp only[List.size_toArray,List.length_append,hml,List.length_take,List.length_drop,hcl];rw[Nat.min_eq_left (by omega)];omega
   ·have e3:cur.toList.take n=xs.map B:=by rw[<-ht,Nat.mul_one]
    have e4:(cur.toList.take off)=(xs.map B).take off:=by rw[<-e3,List.take_take];congr 1;omega
    show List.take (n*1) (List.take off cur.toList++((ys.map B).take (n-off)++cur.toList.drop (off+((ys.map B).take (n-off)).length)))=_;have l1:((xs.map B).take off).length=off:=by rw[List.length_take,List.length_map];omega
    have t1:List.take n ((xs.map B).take off)=(xs.map B).take off:=List.take_of_length_le (by rw[l1];omega);have t2:List.take (n-off) ((ys.map B).take (n-off))=(ys.map B).take (n-off):=by rw[List.take_take,Nat.min_self]
    have t3:List.take (n-off-mn) (cur.toList.drop (off+mn))=(xs.map B).drop (off+sn):=by
     rw[List.take_drop,show off+mn+(n-off-mn)=n by omega,e3];rcases P6 with ⟨e,_⟩|⟨e,_⟩
     ·rw[e]
     ·rw[List.drop_eq_nil_of_le (by rw[List.length_map];omega),List.drop_eq_nil_of_le (by rw[List.length_map];omega)]
    rw[Nat.mul_one,e4,List.take_append,t1,l1,List.take_append,t2,hml,t3];unfold aX;rw[List.map_append,List.map_append,List.map_take,List.map_take,List.map_drop,hxl,Bl,List.append_assoc]
end
section
open Go.RowKit
theorem dV{w:World}{base e K n:Nat}{v:Value}{xs:List Value}(h:w.ownsRow base e K v n xs)(hn:0<n):∃g c,v=.slice (some ⟨g,0,none⟩) n c/\base<=g/\n<=c:=by
 rcases h.2 with ⟨rfl,h0⟩|⟨g,cap,cur,rfl,hb,_,hnc,_⟩
 ·omega
 ·exact⟨g,cap,rfl,hb,hnc⟩
section
variable{W0 w w':World}{A:bG}{c:Cf}{σ:St}{S:Nat->Prop}{vl vo:Value}{EL:List Le}{EO:List Te}{K S1:Nat->Prop}{X:Nat->Prop}
theorem xC(h:aP W0 w A c σ vl vo EL EO K S1)(q:Nat)(hq:q<c.pg)(hwr:σ.p.wr+1<=1000000000):
  Calls Tryz.prog 64 #[.pointer (some ⟨A.g,0,none⟩),.int .i64 (q:Nat)] w fun e w'=>∃g k aT,e=.returned (.tuple #[.slice (some ⟨g,0,none⟩) 512 k,.int .i64 0])/\
   w'.ownsRow w.heap.size 5 1 (.slice (some ⟨g,0,none⟩) 512 k) 512 ((σ.get c q).2.1.map B)/\w.heap.size<=g/\512<=k/\¬aT g/\
   aP W0 w' A c (σ.get c q).2.2 vl vo EL EO K aT/\aG S1 aT w w':=by
 have h0:=(σ.iV c q hq).1;refine(afs h q hq hwr).mono ?_;rintro e w' ⟨v,aT,h1,h2,h3,h4,h5,h6⟩;rw[h0]at h1;obtain⟨g,k,rfl,hb,hk⟩:=dV (h2 h0).1 (by omega);exact⟨g,k,aT,h1,(h2 h0).1,hb,hk,h4 g rfl,h5,h6⟩
theorem UQ(h:aP W0 w A c σ vl vo EL EO K S1)(q:Nat)(hq:q<c.pg)(b:List UInt8)(hb:b.length=512)(l:Nat)(hl:1<=l)(v:Value)(hv:Reads 1 w v 512 (b.map B))(hsl:∀k,v.ownBlock=some k->¬S1 k)(hwr:σ.p.wr+1<=1000000000):
  Calls Tryz.prog 69 #[.pointer (some ⟨A.g,0,none⟩),.int .i64 (q:Nat),v,.int .i64 (l:Nat)] w fun e w'=>∃aT,e=.returned (.int .i64 0)/\aP W0 w' A c (σ.put c q b l).2 vl vo EL EO K aT/\aG S1 aT w w':=by
 refine(afu h q hq b hb l hl v hv hsl hwr).mono ?_;rintro e w' ⟨aT,h1,h2,h3⟩;rw[(σ.xY c q hq b hb l hl).1]at h1;exact⟨aT,h1,h2,h3⟩
theorem aP.own{g:Nat}(h:aP W0 w A c σ vl vo EL EO K S1)(hg:aj (fun b=>b=g) w w')(hn:¬aO S1 vl vo EO K g)(hw:W0.heap.size<=g):aP W0 w' A c σ vl vo EL EO K S1:=
 h.grow hg (fun k h1 h2=>hn (h2▸h1)) (h.bel.trans (hg.below (fun k hk=>⟨Nat.lt_of_lt_of_le hk h.bel.size,by omega⟩)))
theorem St.Bo(σ:St)(c:Cf)(r:Rc)(l:Nat)(hp:r.page<c.pg):(σ.apply c r l)=((σ.get c r.page).2.2.put c r.page (aX (aX (σ.get c r.page).2.1 0 (aJ l)) (8+r.off) r.after) l):=by
 unfold St.apply;simp only[];rw[if_pos (σ.iV c r.page hp).1]
theorem aP.stay{w2:World}(h:aP W0 w A c σ vl vo EL EO K S1)(hg:aj (fun _=>False) w w2):aP W0 w2 A c σ vl vo EL EO K S1:=h.below (hg.below (fun k hk=>⟨hk,fun h=>h⟩))
end
def EN(W0 ws:World)(A:bG)(c:Cf)(σ:St)(vl vo:Value)(EL:List Le)(EO:List Te)(K S1:Nat->Prop)(r:Rc)(ab aa:Option Addr)(nb cb na ca t1 G:Nat)(j b:Nat):Prop:=(j=6/\S1 b)
def mP(W0 ws:World)(A:bG)(c:Cf)(σ:St)(vl vo:Value)(EL:List Le)(EO:List Te)(K S1:Nat->Prop)(r:Rc)(ab aa:Option Addr)(nb cb na ca t1 G:Nat)(i:Nat)(VS:Nat->Value)(LO HI:Nat->Nat)(v:Value)(lo hi:Nat)(w:World):Prop:=
 match i with
 | 0=>v=.pointer (some ⟨A.sb,0,none⟩)
 | 1=>v=.pointer (some ⟨A.sb,0,none⟩)
 | 2=>v=.pointer (some ⟨A.sb,3,none⟩)
 | 3=>v=.pointer (some ⟨A.g,0,none⟩)
 | 4=>v=.pointer (some ⟨t1,4,none⟩)
 | 5=>v=.int .i64 (r.page:Nat)
 | 6=>∃g k aT,v=.tuple #[.slice (some ⟨g,0,none⟩) 512 k,.int .i64 0]/\w.ownsRow G 5 1 (.slice (some ⟨g,0,none⟩) 512 k) 512 ((σ.get c r.page).2.1.map B)/\G<=g/\512<=k/\¬aT g/\aP W0 w A c (σ.get c r.page).2.2 vl vo EL EO K aT/\aG S1 aT ws w
 | 7=>v=VS 6
 | 8=>∃g k,VS 6=.tuple #[.slice (some ⟨g,0,none⟩) 512 k,.int .i64 0]/\v=.slice (some ⟨g,0,none⟩) 512 k
 | 9=>v=.int .i64 0
 | 10=>v=VS 8
 | 11=>v=.int .i64 0
 | _=>True
abbrev Wy:List (List Nat):=[[],[0],[0,1],[0,1,2],[],[4],[0,1,2,3,4,5],[0,1,2,3,4,5,6],[0,1,2,3,4,5,6,7],[0,1,2,3,4,5,6,7],[0,1,2,3,4,5,6,7,8],[0,1,2,3,4,5,6,7,8,9,10]]
theorem P7(W0 ws:World)(A:bG)(c:Cf)(σ:St)(vl vo:Value)(EL:List Le)(EO:List Te)(K S1:Nat->Prop)(r:Rc)(ab aa:Option Addr)(nb cb na ca t1 G:Nat)  : ∀i j,i<12->j<12->j≠i->j∉Wy.getD i []->(i,j)∉([]:List (Nat×Nat))->∀VS LO HI v lo hi w w',mP W0 ws A c σ vl vo EL EO K S1 r ab aa nb cb na ca t1 G i VS LO HI v lo hi w->aj (EN W0 ws A c σ vl vo EL EO K S1 r ab aa nb cb na ca t1 G j) w w'->mP W0 ws A c σ vl vo EL EO K S1 r ab aa nb cb na ca t1 G i VS LO HI v lo hi w':=by
 intro i j hi hj hne hbs hx VS LO HI v lo hj2 w w' h hg
 match i,hi with
 | 0,_|1,_|2,_|3,_|4,_|5,_|7,_|8,_|9,_|10,_|11,_=>
  simp only[mP]at h⊢;exact h
 | 6,_=>
  simp only[mP]at h⊢;obtain⟨g,k,S2,h1,h2,h3,h4,h5,h6,h7⟩:=h;have hgx:aj (fun _=>False) w w':=hg.mono (fun b hb=>hne hb.1);exact⟨g,k,S2,h1,aI h2 hgx (fun _ _ h=>h),h3,h4,h5,h6.stay hgx,h7.trans (aG.below hgx)⟩
 | (q+12),hq=>exact absurd hq (by omega)
theorem WA(W0 ws:World)(A:bG)(c:Cf)(σ:St)(vl vo:Value)(EL:List Le)(EO:List Te)(K S1:Nat->Prop)(r:Rc)(ab aa:Option Addr)(nb cb na ca t1 G:Nat):∀i,i<12->∀VS dZ LO eu HI eF v lz hz w,(∀j∈Wy.getD i [],VS j=dZ j/\LO j=eu j/\HI j=eF j)->mP W0 ws A c σ vl vo EL EO K S1 r ab aa nb cb na ca t1 G i VS LO HI v lz hz w->mP W0 ws A c σ vl vo EL EO K S1 r ab aa nb cb na ca t1 G i dZ eu eF v lz hz w:=by
 intro i hi VS dZ LO eu HI eF v lz hz w he h
 match i,hi with
 | 0,_|1,_|2,_|3,_|4,_|5,_|6,_|9,_|11,_=>
  simp only[mP]at h⊢;exact h
 | 7,_|8,_=>
  simp only[mP]at h⊢;obtain⟨e6a,e6b,e6c⟩:=he 6 (by decide);simp only[<-e6a,<-e6b,<-e6c];exact h
 | 10,_=>
  simp only[mP]at h⊢;obtain⟨Ze,Zf,Zg⟩:=he 8 (by decide);simp only[<-Ze,<-Zf,<-Zg];exact h
 | (q+12),hq=>exact absurd hq (by omega)
def adF(r:Rc)(ab aa:Option Addr)(nb cb na ca t1 g k:Nat)(j b o:Nat):Prop:=False
def xk(r:Rc)(ab aa:Option Addr)(nb cb na ca t1 g k:Nat)(i:Nat)(v:Value)(lo hi:Nat)(w:World):Prop:=
 match i with
 | 0=>v=.slice (some ⟨g,0,none⟩) 512 k
 | 1=>v=.pointer (some ⟨t1,5,none⟩)
 | 2=>v=.int .i64 (r.off:Nat)
 | 3=>v=.int .i64 ((8+r.off:Nat):Int)
 | 4=>v=.slice (bY (some ⟨g,0,none⟩) (8+r.off) k 1) (512-(8+r.off)) (k-(8+r.off))
 | 5=>v=.pointer (some ⟨t1,7,none⟩)
 | 6=>v=.slice aa na ca
 | _=>True
theorem P8(r:Rc)(ab aa:Option Addr)(nb cb na ca t1 g k:Nat)  : ∀i j,i<7->j<7->j≠i->j∉([[],[],[1],[1,2],[0,1,2,3],[],[5]]:List (List Nat)).getD i []->∀v lo hi w w',xk r ab aa nb cb na ca t1 g k i v lo hi w->aB (adF r ab aa nb cb na ca t1 g k j) w w'->xk r ab aa nb cb na ca t1 g k i v lo hi w':=by
 intro i j hi hj hne hbs v lo hj2 w w' h hg
 match i,hi with
 | 0,_|1,_|2,_|3,_|4,_|5,_|6,_=>
  simp only[xk]at h⊢;exact h
 | (q+7),hq=>exact absurd hq (by omega)
def adG(A:bG)(σ:St)(vl vo:Value)(r:Rc)(ab aa:Option Addr)(nb cb na ca t1 g k l:Nat)(j b o:Nat):Prop:=False
def EP(A:bG)(σ:St)(vl vo:Value)(r:Rc)(ab aa:Option Addr)(nb cb na ca t1 g k l:Nat)(i:Nat)(v:Value)(lo hi:Nat)(w:World):Prop:=
 match i with
 | 0=>v=.pointer (some ⟨A.sb,0,none⟩)
 | 1=>v=.pointer (some ⟨A.sb,0,none⟩)
 | 2=>v=.pointer (some ⟨A.sb,3,none⟩)
 | 3=>v=.pointer (some ⟨A.g,0,none⟩)
 | 4=>v=.pointer (some ⟨t1,4,none⟩)
 | 5=>v=.int .i64 (r.page:Nat)
 | 6=>v=.slice (some ⟨g,0,none⟩) 512 k
 | 7=>v=.int .i64 ((l:Nat):Int)
 | _=>True
theorem P9(A:bG)(σ:St)(vl vo:Value)(r:Rc)(ab aa:Option Addr)(nb cb na ca t1 g k l:Nat)  : ∀i j,i<8->j<8->j≠i->j∉([[],[0],[0,1],[0,1,2],[],[4],[],[]]:List (List Nat)).getD i []->∀v lo hi w w',EP A σ vl vo r ab aa nb cb na ca t1 g k l i v lo hi w->aB (adG A σ vl vo r ab aa nb cb na ca t1 g k l j) w w'->EP A σ vl vo r ab aa nb cb na ca t1 g k l i v lo hi w':=by
 intro i j hi hj hne hbs v lo hj2 w w' h hg
 match i,hi with
 | 0,_|1,_|2,_|3,_|4,_|5,_|6,_|7,_=>
  simp only[EP]at h⊢;exact h
 | (q+8),hq=>exact absurd hq (by omega)
section
variable{W0 w w':World}{A:bG}{c:Cf}{σ:St}{S:Nat->Prop}{vl vo:Value}{EL:List Le}{EO:List Te}{K S1:Nat->Prop}{X:Nat->Prop}
theorem GR(h:aP W0 w A c σ vl vo EL EO K S1)(r:Rc)(ab aa:Option Addr)(nb cb na ca:Nat)(hna:r.after.length=na)(hra:Reads 1 w (.slice aa na ca) na (r.after.map B))(hrs:∀q,(Value.slice aa na ca).ownBlock=some q->¬S1 q/\q<w.heap.size)(hp:r.page<c.pg)(ho:r.off+na<=504)(l:Nat)(hl:1<=l)(hl2:l<=4611686018427387904)(hwr:σ.p.wr+2<=1000000000):
  Calls Tryz.prog 103 #[.pointer (some ⟨A.sb,0,none⟩),.agg (recC r ab aa nb cb na ca),.int .i64 (l:Nat)] w fun e w'=>∃aT,e=.returned (.int .i64 0)/\aP W0 w' A c (σ.apply c r l).2 vl vo EL EO K aT/\aG S1 aT w w':=by
 have hal:Below w.heap.size w (w.alloc (.cells (recC r ab aa nb cb na ca) 85)):=(Below.refl _ _).alloc (Nat.le_refl _) _;have Bg:=h.below hal;have hbx:=Box.new w (recC r ab aa nb cb na ca) 85 rfl;have Bh:Reads 1 (w.alloc (.cells (recC r ab aa nb cb na ca) 85)) (.slice aa na ca) na (r.after.map B):=hra.below hal (Nat.le_refl _);obtain⟨t1,ht1⟩:∃x,w.heap.size=x:=⟨_,rfl⟩
 have PZ:=hid hal;have hn1:¬S1 t1:=fun hk=>by have:=(h.lt t1 (.inl hk)).2;omega
 have Lj:=hid hn1;have nP:=hid hrs;have HP:=hid hp;have HO:=hid ho;have HL:=hid hl;have HL2:=hid hl2;have nK:=hid hwr;have rD:=hid hna;have HT1:=hid ht1;have HEX:=hid h.pG;clear hra h hal hna hrs hp ho hl hl2 hwr hn1;go_enter Tryz.func103,Tryz.ntmps103;go_upto_region 1 with (fail);rw[ht1]at hbx
 try rw[ht1]
 generalize w.alloc (.cells (recC r ab aa nb cb na ca) 85)=w1 at *;have apc:w1.heap.size=t1+1\/True:=.inr trivial;have bt:Box w1 t1 [.int .i64 (r.kind:Nat),.int .i64 (r.aV:Nat),.int .i64 (r.prev:Nat),.int .i64 (r.next:Nat),.int .i64 (r.page:Nat),.int .i64 (r.off:Nat),.slice ab nb cb,.slice aa na ca,.slice none 0 0,.slice none 0 0,.int .i64 (r.count:Nat)]:=hbx;have aho:=hid bt.lt;have bs:Box w1 A.sb [.pointer (some ⟨A.d,0,none⟩),.pointer (some ⟨A.r,0,none⟩),.pointer (some ⟨A.f,0,none⟩),.pointer (some ⟨A.g,0,none⟩),vl,vo,.int .i64 (σ.master:Nat),.int .i64 (σ.next:Nat),.int .i64 (σ.commits:Nat),.bool false,.int .i64 (σ.aW:Nat),.int .i64 (σ.aZ:Nat)]:=Bg.bC;have gY:=hid Bg;have HR1:=hid Bh;have hB:Below 0 w1 w1:=Below.refl _ _;clear hbx Bg Bh apc;refine gK (EN W0 w1 A c σ vl vo EL EO K S1 r ab aa nb cb na ca t1 (w1.heap.size)) 12 Wy [some 10,some 11,some 12,some 13,some 14,some 15,some 16,some 9,some 17,some 18,some 7,some 8] [[],[0],[1],[2],[],[4],[3,5],[6],[6,7],[6,7],[8],[9]] [0,1,2,3,4,5,6,7,8,9,10,11] [] (by decide) (by kernel_rfl) (by kernel_rfl) rfl (mP W0 w1 A c σ vl vo EL EO K S1 r ab aa nb cb na ca t1 (w1.heap.size)) (WA W0 w1 A c σ vl vo EL EO K S1 r ab aa nb cb na ca t1 (w1.heap.size)) (P7 W0 w1 A c σ vl vo EL EO K S1 r ab aa nb cb na ca t1 (w1.heap.size)) ?aly ?_
 case aly=>
  intro i hi o ho vs lo eX w' hg hp hdd;have hsz:=hg.size;replace hp:=fun j hj=>(hp j hj).2.2.2
  match i,hi with
  | 0,_|4,_|1,_|2,_|3,_|5,_|7,_|10,_|11,_=>
   cases ho;simp only[aA,mP]at hp
   first|simp only[ak,Act.put,aA,hp]|simp only[ak,Act.put,aA]
   try have e0:=(bs.aH hg (by rintro⟨j,_,hne,hb,hw⟩;simp only[EN]at hw;obtain⟨rfl,hw⟩:=hw;first|exact hb (by decide)|exact hne rfl)).cell 3 _ rfl
   try have e1:=(bt.aH hg (by rintro⟨j,_,hne,hb,hw⟩;simp only[EN]at hw;obtain⟨rfl,hw⟩:=hw;first|exact hb (by decide)|exact hne rfl)).cell 4 _ rfl
   go_wp2;exact⟨_,rfl,aj.refl _,rfl⟩
  | 6,_=>
   cases ho;simp only[ak,Act.put,aA];have h3:=hp 3 (by simp);have h5:=hp 5 (by simp);simp only[mP]at h3 h5;rw[h3,h5];have hgx:aj (fun _=>False) w1 w':=hg.mono (fun b ⟨j,_,hne,_,hw⟩=>hne hw.1);have hsv:=gY.out.stay hgx;have hcall:=xC hsv r.page HP.out (by have:=nK.out;omega);have cO:=hid hcall;clear hcall hsv;go_wp2_with fail;refine cO.out.mono ?_;rintro e y ⟨g,k,S2,rfl,h2,h3,h4,h5,h6,h7⟩;go_wp2;exact⟨_,rfl,h7.grow.mono (fun b h=>⟨rfl,h⟩),g,k,S2,rfl,own_base h2 hgx.size,Nat.le_trans hgx.size h3,h4,h5,h6,(aG.below hgx).trans h7⟩
  | 8,_=>
   cases ho;simp only[ak,Act.put,aA];have h6:=hp 6 (by simp);have h7:=hp 7 (by simp);simp only[mP]at h6 h7;obtain⟨g,k,S2,e6,_⟩:=h6;rw[h7,e6];go_wp2;exact⟨_,rfl,aj.refl _,g,k,e6,rfl⟩
  | 9,_=>
   cases ho;simp only[ak,Act.put,aA];have h6:=hp 6 (by simp);have h7:=hp 7 (by simp);simp only[mP]at h6 h7;obtain⟨g,k,S2,e6,_⟩:=h6;rw[h7,e6];go_wp2;exact⟨_,rfl,aj.refl _,rfl⟩
  | (q+12),hq=>exact absurd hq (by omega)
 intro vS lo hi w2 hg hp hd;have hP:=fun j hj=>(hp j hj).2.2.2;have h0:=hP 0 (by decide) (by decide);have h1:=hP 1 (by decide) (by decide);have h2:=hP 2 (by decide) (by decide);have h3:=hP 3 (by decide) (by decide);have h4:=hP 4 (by decide) (by decide);have h5:=hP 5 (by decide) (by decide);have h6:=hP 6 (by decide) (by decide);have h7:=hP 7 (by decide) (by decide);have h8:=hP 8 (by decide) (by decide);have h9:=hP 9 (by decide) (by decide);have h10:=hP 10 (by decide) (by decide);have h11:=hP 11 (by decide) (by decide);clear hP;simp only[mP]at h0 h1 h2 h3 h4 h5 h6 h7 h8 h9 h10 h11;clear hp hd;have hsz:=hg.size;replace bt:=bt.aH hg (by rintro⟨j,_,hw⟩;simp only[EN]at hw;first|exact Lj.out hw.2|omega);replace hB:=hB.trans (hg.below (fun k hk=>⟨by omega,by rintro⟨j,_,hw⟩;simp only[EN]at hw;first|exact Lj.out hw.2|omega⟩));have hr:List.range 12=[0,1,2,3,4,5,6,7,8,9,10,11]:=rfl;rw[hr];clear hr;simp only[List.drop_succ_cons,List.drop_zero,List.drop_nil,ak,Act.put,aA,h0,h1,h2,h3,h4,h5,h9,h11];clear h0 h1 h2 h3 h4 h5 h9 h11;obtain⟨g,k,S2,Zh,Qa,Qb,h6d,h6e,h6f,h6g⟩:=h6;have e8:vS 8=.slice (some ⟨g,0,none⟩) 512 k:=by
  obtain⟨g',k',e1,e2⟩:=h8;rw[Zh]at e1;injection e1 with e1;injection e1 with e1;injection e1 with e1;injection e1 with e1 e3 e4;injection e1 with e1;injection e1 with e1;rw[e2,e1,e4]
 rw[h10,e8,h7,Zh];have HS2:=hid h6f;have HF2:=hid h6g;have gZ:=hid Qa;have lD:=hid Qb;have HKK:=hid h6d;have FK:=hid h6e;have ahp:=hid bt;clear Zh Qa Qb h6d h6e h6f h6g h7 h8 h10 e8 hB hg hsz bt;go_wp2_with fail;refine(rC _ l HL2.out).mono ?_;rintro e y3 ⟨g8,rfl,hb8,rF,abn⟩;have Qc:=hid abn;have FM:=hid hb8;have alz:=hid (aI gZ.out (aC abn) (fun _ _ h=>h));have WB:Hid (Reads 1 y3 (.slice (some ⟨g8,0,none⟩) 8 8) 8 ((aJ l).map B)):=hid (Reads.aY (hb8.own (base:=0) (dL l) (Nat.zero_le _) (by decide)));clear hb8 rF abn;go_wp2_with (with_reducible refine uz rfl (.tmp 21) (.tmp 23) rfl alz.out (Nat.zero_le 512) (some ⟨g,0,none⟩) k ?p1 ?p2 ?p3 WB.out ?p4)
 case p1=>rfl
 case p2=>
  intro _ g' e;have e2:g=g':=(by simpa[Value.ownBlock]using e)
  rw[e2]
 case p3=>rfl
 intro y4 kk hown4 GU;have PO:=hid (And.intro hown4 GU);clear hown4 GU;go_upto_region 4 with (fail);obtain⟨hown4,GU⟩:=PO.out;have hge:∀q,(Value.slice (some ⟨g,0,none⟩) 512 k).ownBlock=some q->q=g:=fun q e=>by have e2:g=q:=(by simpa[Value.ownBlock]using e);exact e2.symm
 have bt:Box y4 t1 [.int .i64 (r.kind:Nat),.int .i64 (r.aV:Nat),.int .i64 (r.prev:Nat),.int .i64 (r.next:Nat),.int .i64 (r.page:Nat),.int .i64 (r.off:Nat),.slice ab nb cb,.slice aa na ca,.slice none 0 0,.slice none 0 0,.int .i64 (r.count:Nat)]:=(ahp.out.below Qc.out (Nat.le_refl _)).aH GU (fun e=>by have:=hge _ e;have:=lD.out;have:=aho.out;omega);have auu:=hid bt;have alA:=hid hown4;have apd:=hid GU;have ru:=hid hge;have Y9:Reads 1 y4 (.slice aa na ca) na (r.after.map B):=((HR1.out.aH HF2.out.grow (fun q e=>(nP.out q e).1)).below Qc.out (Nat.le_refl _)).aH GU (fun q e1 e2=>by have:=hge _ e2;have:=lD.out;have:=(nP.out q e1).2;have:=PZ.out.size;omega);have qg:=hid Y9;have hoff:8+r.off<=512:=by have:=HO.out;omega
 have hB:Below 0 y4 y4:=Below.refl _ _;clear hown4 GU hge Y9;refine aQ (adF r ab aa nb cb na ca t1 g k) 7 [[],[],[1],[1,2],[0,1,2,3],[],[5]] [some 25,some 26,some 27,some 28,some 29,some 30,some 31,some 32] (by kernel_rfl) (by kernel_rfl) rfl (xk r ab aa nb cb na ca t1 g k) (P8 r ab aa nb cb na ca t1 g k) ?alB ?_
 case alB=>
  intro i hi o ho vs lo eX w' hg hp;have hsz:=hg.size;replace hp:=fun j hj=>(hp j hj).2.2.2
  match i,hi with
  | 0,_|1,_|5,_|2,_|6,_=>
   cases ho;simp only[aA,xk]at hp
   first|simp only[ak,Act.put,aA,hp]|simp only[ak,Act.put,aA]
   try have e0:=(hg.cell (t1) 5 bt.lt (by rintro⟨j,_,hne,hb,hw⟩;exact False.elim hw)).trans (bt.cell 5 _ rfl)
   try have e1:=(hg.cell (t1) 7 bt.lt (by rintro⟨j,_,hne,hb,hw⟩;exact False.elim hw)).trans (bt.cell 7 _ rfl)
   go_wp2;exact⟨_,rfl,aB.refl _,rfl⟩
  | 3,_=>
   cases ho;simp only[ak,Act.put,aA];have h2:=hp 2 (by simp);simp only[xk]at h2;rw[h2];go_wp2;refine⟨_,rfl,aB.refl _,?_⟩;simp only[xk]
   first|omega|(congr 1<;>omega)|skip
  | 4,_=>
   cases ho;simp only[ak,Act.put,aA];have h0:=hp 0 (by simp);have h3:=hp 3 (by simp);simp only[xk]at h0 h3;rw[h0,h3];refine iI bytesOf (.tmp 25) (.tmp 28) rfl rfl rfl rfl (by omega) ?_;go_wp2;exact⟨_,rfl,aB.refl _,rfl⟩
  | (q+7),hq=>exact absurd hq (by omega)
 intro vS lo hi z5 hg hp hd;have hP:=fun j hj=>(hp j hj).2.2.2;have h0:=hP 0 (by decide);have h1:=hP 1 (by decide);have h2:=hP 2 (by decide);have h3:=hP 3 (by decide);have h4:=hP 4 (by decide);have h5:=hP 5 (by decide);have h6:=hP 6 (by decide);clear hP;simp only[xk]at h0 h1 h2 h3 h4 h5 h6;clear hp hd;have hsz:=hg.size;replace bt:=bt.grow hg (by intro i _;rintro⟨j,_,hw⟩;exact False.elim hw);replace hB:=hB.trans (hg.below (fun k hk=>⟨by omega,fun o=>by rintro⟨j,_,hw⟩;exact False.elim hw⟩));have hr:List.range 7=[0,1,2,3,4,5,6]:=rfl;rw[hr];clear hr;simp only[List.drop_succ_cons,List.drop_zero,List.drop_nil,ak,Act.put,aA,h0,h1,h2,h3,h4,h5,h6];clear h0 h1 h2 h3 h4 h5 h6;have xO:=hid hB;have ape:=hid (qg.out.aH (aj.aK hg (Y:=fun _=>False) (fun k o ⟨j,_,h⟩=>h)) (fun _ _ h=>h));have jG:Hid (aj (fun _=>False) y4 z5):=hid (aj.aK hg (fun k o ⟨j,_,h⟩=>h));have alC:=hid (aI alA.out jG.out (fun _ _ h=>h));clear hB hg hsz bt;go_wp2_with (with_reducible refine uz rfl (.tmp 29) (.tmp 31) rfl alC.out hoff (bY (some ⟨g,0,none⟩) (8+r.off) k 1) (k-(8+r.off)) ?q1 ?cp ?q3 ape.out ?q4)
 case q1=>rfl
 case q3=>rfl
 case cp=>
  intro hlt g' e;have e2:=ru.out _ e;subst e2;have hkk:=HKK.out;unfold bY;rw[if_neg (by omega)];simp only[Option.map_some,Addr.add_lit];congr 2;omega
 intro y6 kk hown6 Qd;have PS:=hid (And.intro hown6 Qd);clear hown6 Qd;go_upto_region 5 with (fail);obtain⟨hown6,Qd⟩:=PS.out;have alD:=hid hown6;have hgg:aj (fun b=>b=g) y3 y6:=(apd.out.trans ((jG.out.mono (fun _ h=>h.elim)).trans Qd)).mono (fun b e=>ru.out _ e);have hs3:=HS2.out.below Qc.out;have pI:¬aO S2 vl vo EO K g:=by
  rintro(h|h)
  ·exact FK.out h
  ·have:=(gY.out.lt g (.inr h)).2;have:=lD.out;omega
 have hw0:W0.heap.size<=g:=by have:=gY.out.bel.size;have:=lD.out;omega
 have abo:=hs3.own hgg pI hw0;have ql:=hid abo;have hF6:aG S1 S2 w y6:=((aG.below (aC PZ.out)).trans (HF2.out.trans (aG.below (aC Qc.out)))).fin hgg (fun k e=>.inr (by subst e;have:=lD.out;have:=PZ.out.size;omega)) (fun k h=>.inl h);have HF6:=hid hF6;have bs:Box y6 A.sb [.pointer (some ⟨A.d,0,none⟩),.pointer (some ⟨A.r,0,none⟩),.pointer (some ⟨A.f,0,none⟩),.pointer (some ⟨A.g,0,none⟩),vl,vo,.int .i64 (σ.master:Nat),.int .i64 (σ.next:Nat),.int .i64 (σ.commits:Nat),.bool false,.int .i64 (σ.aW:Nat),.int .i64 (σ.aZ:Nat)]:=abo.bC;have bt:Box y6 t1 [.int .i64 (r.kind:Nat),.int .i64 (r.aV:Nat),.int .i64 (r.prev:Nat),.int .i64 (r.next:Nat),.int .i64 (r.page:Nat),.int .i64 (r.off:Nat),.slice ab nb cb,.slice aa na ca,.slice none 0 0,.slice none 0 0,.int .i64 (r.count:Nat)]:=(ahp.out.below Qc.out (Nat.le_refl _)).aH hgg (fun e=>by have:=lD.out;have:=aho.out;omega);have hB:Below y6.heap.size y6 y6:=Below.refl _ _;have hlx:(aX (aX (σ.get c r.page).2.1 0 (aJ l)) (8+r.off) r.after).length=512:=by have:=hown6.1;rw[List.length_map]at this;omega
 have HLX:=hid hlx;clear hown6 Qd hgg hs3 pI hw0 abo hF6 hlx hoff;refine aQ (adG A σ vl vo r ab aa nb cb na ca t1 g k l) 8 [[],[0],[0,1],[0,1,2],[],[4],[],[]] [some 33,some 34,some 35,some 36,some 37,some 38,some 39,some 40,some 41,some 8] (by kernel_rfl) (by kernel_rfl) rfl (EP A σ vl vo r ab aa nb cb na ca t1 g k l) (P9 A σ vl vo r ab aa nb cb na ca t1 g k l) ?alE ?_
 case alE=>
  intro i hi o ho vs lo eX w' hg hp;have hsz:=hg.size;replace hp:=fun j hj=>(hp j hj).2.2.2
  match i,hi with
  | 0,_|4,_|6,_|7,_|1,_|2,_|3,_|5,_=>
   cases ho;simp only[aA,EP]at hp
   first|simp only[ak,Act.put,aA,hp]|simp only[ak,Act.put,aA]
   try have e0:=(hg.cell (A.sb) 3 bs.lt (by rintro⟨j,_,hne,hb,hw⟩;exact False.elim hw)).trans (bs.cell 3 _ rfl)
   try have e1:=(hg.cell (t1) 4 bt.lt (by rintro⟨j,_,hne,hb,hw⟩;exact False.elim hw)).trans (bt.cell 4 _ rfl)
   go_wp2;exact⟨_,rfl,aB.refl _,rfl⟩
  | (q+8),hq=>exact absurd hq (by omega)
 intro vS lo hi z7 hg hp hd;have hP:=fun j hj=>(hp j hj).2.2.2;have h0:=hP 0 (by decide);have h1:=hP 1 (by decide);have h2:=hP 2 (by decide);have h3:=hP 3 (by decide);have h4:=hP 4 (by decide);have h5:=hP 5 (by decide);have h6:=hP 6 (by decide);have h7:=hP 7 (by decide);clear hP;simp only[EP]at h0 h1 h2 h3 h4 h5 h6 h7;clear hp hd;have hsz:=hg.size;replace bs:=bs.grow hg (by intro i _;rintro⟨j,_,hw⟩;exact False.elim hw);replace bt:=bt.grow hg (by intro i _;rintro⟨j,_,hw⟩;exact False.elim hw);replace hB:=hB.trans (hg.below (fun k hk=>⟨by omega,fun o=>by rintro⟨j,_,hw⟩;exact False.elim hw⟩));have hr:List.range 8=[0,1,2,3,4,5,6,7]:=rfl;rw[hr];clear hr;simp only[List.drop_succ_cons,List.drop_zero,List.drop_nil,ak,Act.put,aA,h0,h1,h2,h3,h4,h5,h6,h7];clear h0 h1 h2 h3 h4 h5 h6 h7;have jo:=hid hB;have hs7:=ql.out.below hB;have Zi:=aI alD.out (aC hB) (fun _ _ h=>h);have hcall:=UQ hs7 r.page HP.out _ HLX.out l HL.out _ (Reads.aY Zi) (fun q e=>by rw[ru.out q e];exact FK.out) (by have:=((σ.iV c r.page HP.out).2).wr;have:=nK.out;omega);have cO:=hid hcall;clear hcall hs7 Zi hB hg hsz bs bt;go_wp2_with fail;refine cO.out.mono ?_;rintro e y8 ⟨S8,rfl,hs8,DF⟩;have l9:=hid hs8;have UR:=hid ((HF6.out.trans (aG.below (aC jo.out))).trans DF);have hcall:=PU hs8 0 (.inl rfl);have UU:=hid hcall;clear hcall hs8 DF;go_wp2_with fail;refine UU.out.mono ?_;rintro e y9 ⟨S9,rfl,hs9,DI⟩;have pW:=hid hs9;have Aj:=hid (UR.out.trans DI);clear hs9 DI;go_wp2_with fail;go_ret;refine⟨S9,rfl,?_,Aj.out⟩;have e:=pW.out;rw[St.Bo σ c r l HP.out];exact e
end
end
section
open Go.RowKit
theorem gQ{w:World}{base T K g n cap:Nat}{xs:List Value}(h:w.ownsRow base T K (.slice (some ⟨g,0,none⟩) n cap) n xs)(j:Nat)(u:Value)(hu:xs[j]? = some u):w.cell? ⟨g,j,none⟩=some u:=by
 have:=dh h j u hu;rw[Addr.add_lit,Nat.zero_add]at this;exact this
section
variable{W0 w w':World}{A:bG}{c:Cf}{σ:St}{S:Nat->Prop}{vl vo:Value}{EL:List Le}{EO:List Te}{K S1:Nat->Prop}{X:Nat->Prop}
def WC(σ:St)(EO:List Te)(t:Int)(v:Value):Prop:=(∃i e,σ.of t=some i/\EO[i]? = some e/\v=jL e)\/(σ.of t=none/\v=.pointer none)
theorem aP.UW(h:aP W0 w A c σ vl vo EL EO K S1){i:Nat}{e:Te}(he:EO[i]? = some e):σ.opn[i]? = some e.x:=by rw[h.wP,List.getElem?_map,he];rfl
theorem aP.JQ(h:aP W0 w A c σ vl vo EL EO K S1):σ.opn.length=EO.length:=by rw[h.wP,List.length_map]
theorem ahq{σ:St}{t:Int}{j:Nat}{x:Tx}(hx:σ.opn[j]? = some x)(ht:(x.id:Int)=t)(hb:∀k y,k<j->σ.opn[k]? = some y->¬(y.id:Int)=t):σ.of t=some j:=by
 obtain⟨hj,hxe⟩:=List.getElem?_eq_some_iff.1 hx;unfold St.of;rw[List.findIdx?_eq_some_iff_getElem];refine⟨hj,by rw[hxe];simpa using ht,fun k hk=>?_⟩;have:=hb k _ hk (List.getElem?_eq_getElem (by omega));simpa using this
theorem afv{σ:St}{t:Int}(hb:∀k y,k<σ.opn.length->σ.opn[k]? = some y->¬(y.id:Int)=t):σ.of t=none:=by
 unfold St.of;rw[List.findIdx?_eq_none_iff];intro x hx;obtain⟨k,hk,rfl⟩:=List.getElem_of_mem hx;simpa using hb k _ hk (List.getElem?_eq_getElem hk)
theorem ND(h:aP W0 w A c σ vl vo EL EO K S1)(t:Int)(hn:EO.length<=1073741824):
  Calls Tryz.prog 56 #[.pointer (some ⟨A.sb,0,none⟩),.int .i64 t] w fun e w'=>(∃v,e=.returned v/\WC σ EO t v)/\w'=w:=by
 have HS:=hid h;have c5:=h.bC.cell 5 _ rfl;have bU:=h.bC.lt;obtain⟨ao,cq,rG⟩:=bF h.tx.row;have Qe:=hid rG;obtain⟨n,hnn⟩:∃x,EO.length=x:=⟨_,rfl⟩
 rw[rG,hnn]at c5;rw[hnn]at hn;have kC:=hid hnn;clear h rG hnn;go_enter Tryz.func56,Tryz.ntmps56;go_wp2_with fail;go_loopw [12] (fun i wr=>∃j:Nat,j<=n/\i=.int .i64 j/\wr=w/\(∀k e,k<j->EO[k]? = some e->¬(e.x.id:Int)=t)) (fun i _=>n-(intOf i).toNat)
 case atStart=>exact⟨0,Nat.zero_le _,rfl,rfl,fun k e hk=>absurd hk (Nat.not_lt_zero _)⟩
 case round=>
  obtain⟨j,hj,rfl,rfl,hno⟩:=hrel;have yu:=hid hno;clear hno;by_cases hjn:j<n
  case neg=>
   have b1:decide (j<n)=false:=by simpa using hjn
   have b2:decide ((j:Int)<(n:Int))=false:=by simpa using hjn
   go_wp2_with fail;go_ret;refine⟨⟨_,rfl,.inr ⟨afv (fun k y hk hy=>?_),rfl⟩⟩,rfl⟩;have hk2:k<EO.length:=by rw[<-HS.out.JQ];exact hk
   have e1:=HS.out.UW (List.getElem?_eq_getElem hk2);rw[e1]at hy;obtain rfl:=Option.some.inj hy;exact yu.out k _ (by have:=kC.out;omega) (List.getElem?_eq_getElem hk2)
  have b1:decide (j<n)=true:=by simpa using hjn
  have b2:decide ((j:Int)<(n:Int))=true:=by simpa using hjn
  have hjl:j<EO.length:=by rw[kC.out];exact hjn
  have hrow:=HS.out.tx.row;rw[kC.out]at hrow;obtain⟨gq,Qg,e1,_,_⟩:=dV hrow (by omega);have e2:=e1;rw[Qe.out]at e2;injection e2 with e3 _ _;subst e3;rw[e1]at hrow;obtain⟨e,hee⟩:∃e,EO[j]? = some e:=⟨_,List.getElem?_eq_getElem hjl⟩
  have FN:=hid hee;have hcl:=gQ hrow j (jL e) (by rw[List.getElem?_map,hee];rfl);have hbx:=(HS.out.tx.at_ e (List.mem_of_getElem? hee)).box;have e0:=hbx.cell 0 _ rfl;have elt:=hbx.lt;simp only[jL]at hcl;clear hrow hjl e1 hee hbx;by_cases lS:(e.x.id:Int)=t
  case pos=>
   have b3:((e.x.id:Int)==t)=true:=by simpa using lS
   have oD:=hid lS;clear lS;go_wp2_with fail;go_ret;exact⟨⟨_,rfl,.inl ⟨j,e,ahq (HS.out.UW FN.out) oD.out (fun k y hk hy=>by
    have hk2:k<EO.length:=by rw[<-HS.out.JQ];exact(List.getElem?_eq_some_iff.1 hy).1
    have e1:=HS.out.UW (List.getElem?_eq_getElem hk2);rw[e1]at hy;obtain rfl:=Option.some.inj hy;exact yu.out k _ hk (List.getElem?_eq_getElem hk2)),FN.out,rfl⟩⟩,rfl⟩
  case neg=>
   have b3:((e.x.id:Int)==t)=false:=by simpa using lS
   have oD:=hid lS;clear lS;go_wp2_with fail;go_roundw
   ·refine⟨j+1,by omega,by go_num,(by first|rfl|trivial),fun k e' hk hk2=>?_⟩;rcases Nat.lt_succ_iff_lt_or_eq.1 hk with hk|rfl
    ·exact yu.out k e' hk hk2
    ·rw[FN.out]at hk2;obtain rfl:=Option.some.inj hk2;exact oD.out
   ·simp[intOf];omega
theorem DJ(h:aP W0 w A c σ vl vo EL EO K S1)(p off n:Int):
  Calls Tryz.prog 62 #[.pointer (some ⟨A.sb,0,none⟩),.int .i64 p,.int .i64 off,.int .i64 n] w fun e w'=>e=.returned (.bool (decide (0<=p/\p<(c.pg:Int)/\0<=off/\off<=504/\0<=n/\n<=504-off)))/\w'=w:=by
 have hcall:=Dz h;have HC:=hid hcall;clear h hcall;by_cases h0:0<=p
 case neg=>
  have apf:decide (p>=0)=false:=by simpa using h0
  have apg:decide (0<=p)=false:=by simpa using h0
  go_enter Tryz.func62,Tryz.ntmps62;go_wp2_with fail;go_ret;exact⟨by first|(rw[decide_eq_false (by omega)];rfl)|rfl,rfl⟩
 have apf:decide (p>=0)=true:=by simpa using h0
 have apg:decide (0<=p)=true:=by simpa using h0
 by_cases h1:p<(c.pg:Int)
 case neg=>
  have aph:decide (p<(c.pg:Int))=false:=by simpa using h1
  go_enter Tryz.func62,Tryz.ntmps62;go_wp2_with fail;refine HC.out.mono ?_;rintro e w' ⟨rfl,rfl⟩;go_wp2_with fail;go_ret;exact⟨by first|(rw[decide_eq_false (by omega)];rfl)|rfl,rfl⟩
 have aph:decide (p<(c.pg:Int))=true:=by simpa using h1
 by_cases h2:0<=off
 case neg=>
  have apj:decide (off>=0)=false:=by simpa using h2
  have apk:decide (0<=off)=false:=by simpa using h2
  go_enter Tryz.func62,Tryz.ntmps62;go_wp2_with fail;refine HC.out.mono ?_;rintro e w' ⟨rfl,rfl⟩;go_wp2_with fail;go_ret;exact⟨by first|(rw[decide_eq_false (by omega)];rfl)|rfl,rfl⟩
 have apj:decide (off>=0)=true:=by simpa using h2
 have apk:decide (0<=off)=true:=by simpa using h2
 by_cases h3:off<=504
 case neg=>
  have apl:decide (off<=504)=false:=by simpa using h3
  go_enter Tryz.func62,Tryz.ntmps62;go_wp2_with fail;refine HC.out.mono ?_;rintro e w' ⟨rfl,rfl⟩;go_wp2_with fail;go_ret;exact⟨by first|(rw[decide_eq_false (by omega)];rfl)|rfl,rfl⟩
 have apl:decide (off<=504)=true:=by simpa using h3
 by_cases h4:0<=n
 case neg=>
  have apm:decide (n>=0)=false:=by simpa using h4
  have apn:decide (0<=n)=false:=by simpa using h4
  go_enter Tryz.func62,Tryz.ntmps62;go_wp2_with fail;refine HC.out.mono ?_;rintro e w' ⟨rfl,rfl⟩;go_wp2_with fail;go_ret;exact⟨by first|(rw[decide_eq_false (by omega)];rfl)|rfl,rfl⟩
 have apm:decide (n>=0)=true:=by simpa using h4
 have apn:decide (0<=n)=true:=by simpa using h4
 by_cases h5:n<=504-off
 case neg=>
  have apo:decide (n<=504-off)=false:=by simpa using h5
  go_enter Tryz.func62,Tryz.ntmps62;go_wp2_with fail;refine HC.out.mono ?_;rintro e w' ⟨rfl,rfl⟩;go_wp2_with fail;go_ret;exact⟨by first|(rw[decide_eq_false (by omega)];rfl)|rfl,rfl⟩
 have apo:decide (n<=504-off)=true:=by simpa using h5
 go_enter Tryz.func62,Tryz.ntmps62;go_wp2_with fail;refine HC.out.mono ?_;rintro e w' ⟨rfl,rfl⟩;go_wp2_with fail;go_ret;exact⟨by rw[decide_eq_true (show _ from⟨by omega,by omega,by omega,by omega,by omega,by omega⟩)];rfl,rfl⟩
end
end
section
open Go.RowKit
theorem ER{α β:Type}{f:α->List β}{k:Nat}(hf:∀x,(f x).length=k):∀(l:List α)(i:Nat)(x:α),l[i]? = some x->∀q,q<k->(l.flatMap f)[i*k+q]? = (f x)[q]?
 | [],i,x,h,q,hq=>by simp at h
 | a::l,0,x,h,q,hq=>by
  obtain rfl:a=x:=by simpa using h
  rw[List.flatMap_cons,List.getElem?_append_left (by rw[hf];omega)];simp
 | a::l,i+1,x,h,q,hq=>by
  have h2:l[i]? = some x:=by simpa using h
  rw[List.flatMap_cons,List.getElem?_append_right (by rw[hf,Nat.succ_mul];omega),hf,show(i+1)*k+q-k=i*k+q by rw[Nat.succ_mul];omega];exact ER hf l i x h2 q hq
theorem II{w wr y:World}{o:Obj}(h1:Below w.heap.size w wr)(h2:Below (wr.alloc o).heap.size (wr.alloc o) y):Below w.heap.size w y:=
 h1.trans ((((Below.refl _ _).alloc (Nat.le_refl _) o).trans (h2.mono (by simp))).mono h1.size)
theorem UY(w:World)(ao:Option Addr)(m cp:Nat)(hm:m<=1048576):
  Calls Tryz.prog 67 #[.slice ao m cp] w fun e w'=>e=.returned (.int .i64 ((96+m:Nat):Int))/\Below w.heap.size w w':=by
 have hcall:=uS (w:=w) { Rc.zero with after:=List.replicate m 0 } none ao 0 0 m cp ⟨Nat.zero_le _,Nat.zero_le _,Nat.zero_le _,Nat.zero_le _,Nat.zero_le _,Nat.zero_le _,Nat.zero_le _,Nat.zero_le _,by rw[List.length_replicate];exact hm,rfl,rfl⟩ rfl List.length_replicate;have hsz:Rc.size { Rc.zero with after:=List.replicate m 0 }=96+m:=by simp[Rc.size,Rc.zero]
 rw[hsz]at hcall;have hc2:Calls Tryz.prog 54 #[.agg #[.int .i64 0,.int .i64 0,.int .i64 0,.int .i64 0,.int .i64 0,.int .i64 0,.slice none 0 0,.slice ao m cp,.slice none 0 0,.slice none 0 0,.int .i64 0]] w fun e w'=>e=.returned (.int .i64 ((96+m:Nat):Int))/\Below w.heap.size w w':=hcall;have HC:=hid hc2;clear hcall hc2 hsz;go_enter Tryz.func67,Tryz.ntmps67;go_wp2_with fail;refine HC.out.mono ?_;rintro e w' ⟨rfl,hb⟩;have HB:=hid hb;clear hb;go_wp2_with fail;go_ret;exact⟨rfl,HB.out⟩
def iP(l:List (Up×Value)):Nat:=(l.map fun u=>96+u.1.before.length).sum
def mQ(l:List Te):Nat:=(l.map fun e=>192+iP e.EU).sum
theorem qm{α:Type}(f:α->Nat):∀(l:List α)(i:Nat),((l.take i).map f).sum<=(l.map f).sum
 | [],i=>by simp
 | a::l,0=>by simp
 | a::l,i+1=>by simp only[List.take_succ_cons,List.map_cons,List.sum_cons];have:=qm f l i;omega
theorem wG{α:Type}(f:α->Nat)(l:List α)(i:Nat)(x:α)(h:l[i]? = some x):((l.take (i+1)).map f).sum=((l.take i).map f).sum+f x:=by
 rw[List.take_add_one,h];simp
section
variable{W0 w w':World}{A:bG}{c:Cf}{σ:St}{S:Nat->Prop}{vl vo:Value}{EL:List Le}{EO:List Te}{K S1:Nat->Prop}{X:Nat->Prop}
theorem aP.resv(h:aP W0 w A c σ vl vo EL EO K S1):σ.reserved=mQ EO:=by
 unfold St.reserved mQ;rw[h.wP,List.map_map];congr 1;refine List.map_congr_left fun e he=>?_;show 192+(e.x.l.map fun u=>96+u.before.length).sum=_;rw[(h.tx.at_ e he).ups,List.map_map];rfl
theorem TQ(h:aP W0 w A c σ vl vo EL EO K S1)(hn:EO.length<=1073741824)(hr:mQ EO<=1099511627776)(hu:∀e∈EO,∀u∈e.EU,u.1.before.length<=1048576):
  Calls Tryz.prog 89 #[.pointer (some ⟨A.sb,0,none⟩)] w fun e w'=>e=.returned (.int .i64 (mQ EO:Nat))/\Below w.heap.size w w':=by
 have HS:=hid h;have HU:=hid hu;have c5:=h.bC.cell 5 _ rfl;have bU:=h.bC.lt;obtain⟨ao,cq,rG⟩:=bF h.tx.row;have Qe:=hid rG;obtain⟨n,hnn⟩:∃x,EO.length=x:=⟨_,rfl⟩
 obtain⟨tot,htt⟩:∃x,mQ EO=x:=⟨_,rfl⟩
 rw[rG,hnn]at c5;rw[hnn]at hn;rw[htt]at hr;have kC:=hid hnn;have oG:=hid htt;clear h rG hnn htt hu;go_enter Tryz.func89,Tryz.ntmps89;go_wp2_with fail;go_loopw [3,13] (fun s i wr=>∃j:Nat,j<=n/\i=.int .i64 j/\s=.int .i64 (mQ (EO.take j):Nat)/\Below w.heap.size w wr) (fun _ i _=>n-(intOf i).toNat)
 case atStart=>exact⟨0,Nat.zero_le _,rfl,rfl,Below.refl _ _⟩
 case round=>
  obtain⟨j,hj,rfl,rfl,hbl⟩:=hrel;have HB:=hid hbl;obtain⟨rj,hrj⟩:∃x,mQ (EO.take j)=x:=⟨_,rfl⟩
  rw[hrj];have HRJ:=hid hrj;have hrt:rj<=tot:=by rw[<-hrj,<-oG.out];exact qm _ _ _
  clear hbl hrj;by_cases hjn:j<n
  case neg=>
   have b1:decide (j<n)=false:=by simpa using hjn
   have b2:decide ((j:Int)<(n:Int))=false:=by simpa using hjn
   have e:EO.take j=EO:=List.take_of_length_le (by rw[kC.out];omega);have e4:rj=tot:=by rw[<-HRJ.out,e,oG.out]
   subst e4;clear e;go_wp2_with fail;go_ret;refine⟨rO ?_,HB.out⟩;show Value.int _ _=_;rw[oG.out]
  have b1:decide (j<n)=true:=by simpa using hjn
  have b2:decide ((j:Int)<(n:Int))=true:=by simpa using hjn
  have hjl:j<EO.length:=by rw[kC.out];exact hjn
  have hs:=HS.out.below HB.out;have hrow:=hs.tx.row;rw[kC.out]at hrow;obtain⟨gq,Qg,e1,_,_⟩:=dV hrow (by omega);have e2:=e1;rw[Qe.out]at e2;injection e2 with e3 e4 e5;subst e3;subst e5;clear e4;rw[e1]at hrow;obtain⟨e,hee⟩:∃e,EO[j]? = some e:=⟨_,List.getElem?_eq_getElem hjl⟩
  have FN:=hid hee;have hmem:=List.mem_of_getElem? hee;have hcl:=gQ hrow j (jL e) (by rw[List.getElem?_map,hee];rfl);have hbx:=(hs.tx.at_ e hmem).box;have e3:=hbx.cell 3 _ rfl;have elt:=hbx.lt;obtain⟨au,cu,hvu⟩:=bF (hs.tx.at_ e hmem).row;obtain⟨m,hmm⟩:∃x,e.EU.length=x:=⟨_,rfl⟩
  rw[hvu,hmm]at e3;simp only[jL]at hcl;have jP:=hid hmm;have FP:=hid hvu;have zA:=hid hmem;have hm2:mQ (EO.take (j+1))=rj+(192+iP e.EU):=by rw[<-HRJ.out];exact wG _ _ _ _ hee
  have P6:rj+(192+iP e.EU)<=tot:=by rw[<-hm2,<-oG.out];exact qm _ _ _
  have hm4:96*m<=iP e.EU:=by
   rw[<-hmm];generalize e.EU=l
   induction l with
   | nil=>simp
   | cons a r ih=>simp only[iP,List.map_cons,List.sum_cons,List.length_cons]at ih⊢;omega
  have IJ:=hid hm2;have hmb:m<=1099511627776:=by omega
  have hrb:rj+192<=1099511627776:=by omega
  clear hrow hjl e1 hee hbx hvu hmm hmem hs hm2;go_wp2_with fail;go_loopw [3,24] (fun s i wx=>∃q:Nat,q<=m/\i=.int .i64 q/\s=.int .i64 ((rj+192+iP (e.EU.take q):Nat):Int)/\Below w.heap.size w wx) (fun _ i _=>m-(intOf i).toNat)
  case atStart=>exact⟨0,Nat.zero_le _,rfl,by show Value.int _ _=Value.int _ _;congr 1,HB.out⟩
  case round=>
   obtain⟨q,hq,rfl,rfl,hbl⟩:=hrel;have HB2:=hid hbl;obtain⟨rq,hrq⟩:∃x,iP (e.EU.take q)=x:=⟨_,rfl⟩
   have hqt:rq<=iP e.EU:=by rw[<-hrq];exact qm _ _ _
   rw[hrq];have HRQ:=hid hrq;clear hbl hrq;by_cases hqm:q<m
   case neg=>
    have b3:decide (q<m)=false:=by simpa using hqm
    have b4:decide ((q:Int)<(m:Int))=false:=by simpa using hqm
    have e5:rq=iP e.EU:=by rw[<-HRQ.out,List.take_of_length_le (by rw[jP.out];omega)]
    have gI:=hid e5;clear e5;go_wp2_with fail;go_roundw
    ·refine⟨j+1,by omega,by go_num,?_,HB2.out⟩;rw[IJ.out,<-gI.out,Nat.add_assoc]
    ·simp[intOf];omega
   have b3:decide (q<m)=true:=by simpa using hqm
   have b4:decide ((q:Int)<(m:Int))=true:=by simpa using hqm
   have Qh:q<e.EU.length:=by rw[jP.out];exact hqm
   have hs:=HS.out.below HB2.out;have hrow:=(hs.tx.at_ e zA.out).row;rw[jP.out]at hrow;obtain⟨gu,Qi,e1,_,_⟩:=dV hrow (by omega);have e2:=e1;rw[FP.out]at e2;injection e2 with e3' e4 e5;subst e3';subst e5;clear e4;rw[e1]at hrow;obtain⟨u,hue⟩:∃u,e.EU[q]? = some u:=⟨_,List.getElem?_eq_getElem Qh⟩
   obtain⟨a2,c2,hv2,_⟩:=((hs.tx.at_ e zA.out).tb u (List.mem_of_getElem? hue)).1;have hix:=fun i hi=>ER (f:=EM) (k:=5) (fun _=>rfl) e.EU q u hue i hi;have k0:=gQ hrow (q*5+0) _ ((hix 0 (by decide)).trans rfl);have k1:=gQ hrow (q*5+1) _ ((hix 1 (by decide)).trans rfl);have k2:=gQ hrow (q*5+2) _ ((hix 2 (by decide)).trans rfl);have k3:=gQ hrow (q*5+3) _ ((hix 3 (by decide)).trans rfl);have k4:=gQ hrow (q*5+4) _ ((hix 4 (by decide)).trans rfl);rw[hv2]at k4;have hub:=HU.out e zA.out u (List.mem_of_getElem? hue);have hst:iP (e.EU.take (q+1))=rq+(96+u.1.before.length):=by rw[<-HRQ.out];exact wG _ _ _ _ hue
   have hst2:rq+(96+u.1.before.length)<=iP e.EU:=by rw[<-hst];exact qm _ _ _
   have HST:=hid hst;obtain⟨mb,JR⟩:∃x,u.1.before.length=x:=⟨_,rfl⟩
   rw[JR]at hub hst2 k4;have zB:=hid JR;clear hix hrow hs hue hv2 hst JR Qh e1;generalize u.1.aN=y1 at *;generalize u.1.prev=y2 at *;generalize u.1.page=y3 at *;generalize u.1.off=y4 at *;simp only[Nat.add_zero]at k0;go_wp2_with fail;refine(UY _ _ _ _ hub).mono ?_;rintro e' y ⟨rfl,hb⟩;have HB3:=hid hb;clear hb k0 k1 k2 k3 k4;go_wp2_with fail;go_roundw
   ·refine⟨q+1,by omega,by go_num,?_,?_⟩
    ·rw[HST.out,zB.out];show Value.int _ _=Value.int _ _;congr 1;omega
    ·exact II HB2.out HB3.out
   ·simp[intOf];omega
end
end
section
open Go.RowKit
def adI(A:bG)(σ:St)(vl vo:Value)(t2 rm rs k:Nat)(bo:Bool)(j b o:Nat):Prop:=False
def oW(A:bG)(σ:St)(vl vo:Value)(t2 rm rs k:Nat)(bo:Bool)(i:Nat)(v:Value)(lo hi:Nat)(w:World):Prop:=
 match i with
 | 0=>v=.pointer (some ⟨A.sb,0,none⟩)
 | 1=>v=.pointer (some ⟨A.sb,0,none⟩)
 | 2=>v=.pointer (some ⟨A.sb,1,none⟩)
 | 3=>v=.pointer (some ⟨A.r,0,none⟩)
 | 4=>v=.int .i64 ((rm:Nat):Int)
 | 5=>v=.pointer (some ⟨A.sb,0,none⟩)
 | 6=>v=.int .i64 ((rs:Nat):Int)
 | 7=>v=.int .i64 ((rm:Int)-(rs:Int))
 | 8=>v=.int .i64 ((rm:Int)-(rs:Int)-2048)
 | 9=>v=.int .i64 ((k:Nat):Int)
 | 10=>v=.bool bo
 | _=>True
theorem Qj(A:bG)(σ:St)(vl vo:Value)(t2 rm rs k:Nat)(bo:Bool)  : ∀i j,i<11->j<11->j≠i->j∉([[],[0],[0,1],[0,1,2],[0,1,2,3],[],[0,1,2,3,4,5],[0,1,2,3,4,5,6],[0,1,2,3,4,5,6,7],[],[0,1,2,3,4,5,6,7,8,9]]:List (List Nat)).getD i []->∀v lo hi w w',oW A σ vl vo t2 rm rs k bo i v lo hi w->aB (adI A σ vl vo t2 rm rs k bo j) w w'->oW A σ vl vo t2 rm rs k bo i v lo hi w':=by
 intro i j hi hj hne hbs v lo hj2 w w' h hg
 match i,hi with
 | 0,_|1,_|2,_|3,_|4,_|5,_|6,_|7,_|8,_|9,_|10,_=>
  simp only[oW]at h⊢;exact h
 | (q+11),hq=>exact absurd hq (by omega)
section
variable{W0 w w':World}{A:bG}{c:Cf}{σ:St}{S:Nat->Prop}{vl vo:Value}{EL:List Le}{EO:List Te}{K S1:Nat->Prop}{X:Nat->Prop}
theorem abp(h:aP W0 w A c σ vl vo EL EO K S1):Calls Tryz.prog 88 #[.pointer (some ⟨A.r,0,none⟩)] w fun e w'=>e=.returned (.int .i64 (σ.io.R.room c.n:Nat))/\Quiet w w':=by
 obtain⟨S5,gW,_⟩:=h.sp.zx;obtain⟨Y1,uy⟩:=gW.at;exact OY uy gW.ok
theorem abq(h:aP W0 w A c σ vl vo EL EO K S1):σ.io.R.room c.n<=1099511627776:=by
 obtain⟨S5,gW,_⟩:=h.sp.zx;have h1:=gW.ok.n3;have h2:=gW.ok.sf;have h3:=gW.ok.ft;have h4:=gW.ok.top;unfold Rg.room;generalize σ.io.R.tail=t at *;generalize σ.io.R.start=s at *;omega
theorem UZ(h:aP W0 w A c σ vl vo EL EO K S1)(hn:EO.length<=1073741824)(hr:mQ EO<=1099511627776)(hu:∀e∈EO,∀u∈e.EU,u.1.before.length<=1048576)(k:Nat)(hk:k+2048+mQ EO<=σ.io.R.room c.n):
  Calls Tryz.prog 53 #[.pointer (some ⟨A.sb,0,none⟩),.int .i64 (k:Nat)] w fun e w'=>e=.returned (.int .i64 0)/\Below w.heap.size w w':=by
 have HS:=hid h;have HN:=hid hn;have HR:=hid hr;have HU:=hid hu;have hle:=abq h;obtain⟨rm,hrm⟩:∃x,σ.io.R.room c.n=x:=⟨_,rfl⟩
 obtain⟨rs,hrs⟩:∃x,mQ EO=x:=⟨_,rfl⟩
 rw[hrm]at hk hle;rw[hrs]at hk hr;have U0:=hid hrm;have nP:=hid hrs;have hbx:=Box.new w #[.pointer (some ⟨A.sb,0,none⟩)] 28 rfl;have hal:Below w.heap.size w (w.alloc (.cells #[.pointer (some ⟨A.sb,0,none⟩)] 28)):=(Below.refl _ _).alloc (Nat.le_refl _) _;have ji:=hid hal;obtain⟨t2,ht2⟩:∃x,w.heap.size=x:=⟨_,rfl⟩
 have HT2:=hid ht2;clear h hrm hrs hn hu hal;go_enter Tryz.func53,Tryz.ntmps53;go_upto_region 1 with (fail);rw[ht2]at hbx
 try rw[ht2]
 have hw1:∃o,w.alloc (.cells #[.pointer (some ⟨A.sb,0,none⟩)] 28)=w.alloc o:=⟨_,rfl⟩
 obtain⟨w1,hw1⟩:∃x,w.alloc (.cells #[.pointer (some ⟨A.sb,0,none⟩)] 28)=x:=⟨_,rfl⟩
 rw[hw1]at hbx⊢;have HW1:=hid hw1;have gY:Hid (aP W0 w1 A c σ vl vo EL EO K S1):=hid (hw1▸HS.out.below ji.out);have bb:Box w1 t2 [.pointer (some ⟨A.sb,0,none⟩)]:=hbx;have bs:Box w1 A.sb [.pointer (some ⟨A.d,0,none⟩),.pointer (some ⟨A.r,0,none⟩),.pointer (some ⟨A.f,0,none⟩),.pointer (some ⟨A.g,0,none⟩),vl,vo,.int .i64 (σ.master:Nat),.int .i64 (σ.next:Nat),.int .i64 (σ.commits:Nat),.bool false,.int .i64 (σ.aW:Nat),.int .i64 (σ.aZ:Nat)]:=gY.out.bC;have hB:Below w1.heap.size w1 w1:=Below.refl _ _;clear hbx hw1 ht2;have hbb:decide (((rm:Int)-(rs:Int)-2048)>=(k:Int))=true:=by simp;omega
 have xZ:=hid hbb;clear hbb;refine aQ (adI A σ vl vo t2 rm rs k true) 11 [[],[0],[0,1],[0,1,2],[0,1,2,3],[],[0,1,2,3,4,5],[0,1,2,3,4,5,6],[0,1,2,3,4,5,6,7],[],[0,1,2,3,4,5,6,7,8,9]] [some 6,some 7,some 8,some 9,some 10,some 11,some 12,some 13,some 14,some 15,some 16] (by kernel_rfl) (by kernel_rfl) rfl (oW A σ vl vo t2 rm rs k true) (Qj A σ vl vo t2 rm rs k true) ?alF ?_
 case alF=>
  intro i hi o ho vs lo eX w' hg hp;have hsz:=hg.size;have hgB:Below w1.heap.size w1 w':=hg.below (fun k hk=>⟨hk,fun o=>by rintro⟨j,_,_,_,hw⟩;exact False.elim hw⟩);replace hp:=fun j hj=>(hp j hj).2.2.2
  match i,hi with
  | 0,_|5,_|1,_|2,_|3,_|9,_=>
   cases ho;simp only[aA,oW]at hp
   first|simp only[ak,Act.put,aA,hp]|simp only[ak,Act.put,aA]
   try have e0:=(hg.cell (t2) 0 bb.lt (by rintro⟨j,_,hne,hb,hw⟩;exact False.elim hw)).trans (bb.cell 0 _ rfl)
   try have e1:=(hg.cell (A.sb) 1 bs.lt (by rintro⟨j,_,hne,hb,hw⟩;exact False.elim hw)).trans (bs.cell 1 _ rfl)
   go_wp2;exact⟨_,rfl,aB.refl _,rfl⟩
  | 4,_=>
   cases ho;simp only[ak,Act.put,aA];have h3:=hp 3 (by simp);simp only[oW]at h3;rw[h3];have hcall:=abp (gY.out.below hgB);have cO:=hid hcall;clear hcall;go_wp2_with fail;refine cO.out.mono ?_;rintro e wh ⟨rfl,hq⟩;rw[U0.out];have hbl:=hq.below;go_wp2;exact⟨_,rfl,aB.bK ⟨hbl.os,hbl.tape,hbl.output,hbl.size,hbl.block⟩,rfl⟩
  | 6,_=>
   cases ho;simp only[ak,Act.put,aA];have h5:=hp 5 (by simp);simp only[oW]at h5;rw[h5];have hcall:=TQ (gY.out.below hgB) HN.out HR.out HU.out;have cO:=hid hcall;clear hcall;go_wp2_with fail;refine cO.out.mono ?_;rintro e wh ⟨rfl,hbl⟩;rw[nP.out];go_wp2;exact⟨_,rfl,aB.bK ⟨hbl.os,hbl.tape,hbl.output,hbl.size,hbl.block⟩,rfl⟩
  | 7,_=>
   cases ho;simp only[ak,Act.put,aA];have h4:=hp 4 (by simp);have h6:=hp 6 (by simp);simp only[oW]at h4 h6;rw[h4,h6];go_wp2;refine⟨_,rfl,aB.refl _,?_⟩;simp only[oW]
   first|rfl|omega|(congr 1<;>omega)|skip
  | 8,_=>
   cases ho;simp only[ak,Act.put,aA];have h7:=hp 7 (by simp);simp only[oW]at h7;rw[h7];go_wp2;refine⟨_,rfl,aB.refl _,?_⟩;simp only[oW]
   first|rfl|omega|(congr 1<;>omega)|skip
  | 10,_=>
   cases ho;simp only[ak,Act.put,aA];have h8:=hp 8 (by simp);have h9:=hp 9 (by simp);simp only[oW]at h8 h9;rw[h8,h9];have hbb:=xZ.out;go_wp2;exact⟨_,rfl,aB.refl _,rfl⟩
  | (q+11),hq=>exact absurd hq (by omega)
 intro vS lo hi w5 hg hp hd;have hP:=fun j hj=>(hp j hj).2.2.2;have h0:=hP 0 (by decide);have h1:=hP 1 (by decide);have h2:=hP 2 (by decide);have h3:=hP 3 (by decide);have h4:=hP 4 (by decide);have h5:=hP 5 (by decide);have h6:=hP 6 (by decide);have h7:=hP 7 (by decide);have h8:=hP 8 (by decide);have h9:=hP 9 (by decide);have h10:=hP 10 (by decide);clear hP;simp only[oW]at h0 h1 h2 h3 h4 h5 h6 h7 h8 h9 h10;clear hp hd;have hsz:=hg.size;replace bs:=bs.grow hg (by intro i _;rintro⟨j,_,hw⟩;exact False.elim hw);replace bb:=bb.grow hg (by intro i _;rintro⟨j,_,hw⟩;exact False.elim hw);replace hB:=hB.trans (hg.below (fun k hk=>⟨by omega,fun o=>by rintro⟨j,_,hw⟩;exact False.elim hw⟩));have hr:List.range 11=[0,1,2,3,4,5,6,7,8,9,10]:=rfl;rw[hr];clear hr;simp only[List.drop_succ_cons,List.drop_zero,List.drop_nil,ak,Act.put,aA,h0,h1,h2,h3,h4,h5,h6,h7,h8,h9,h10];clear h0 h1 h2 h3 h4 h5 h6 h7 h8 h9 h10;have xO:Hid (Below (w.alloc (.cells #[.pointer (some ⟨A.sb,0,none⟩)] 28)).heap.size (w.alloc (.cells #[.pointer (some ⟨A.sb,0,none⟩)] 28)) w5):=hid (HW1.out▸hB);clear hB hg hsz;go_wp2_with fail;go_ret;exact⟨rfl,II (Below.refl _ _) xO.out⟩
end
end
section
open Go.RowKit
section
variable{W0 w w2:World}{A:bG}{c:Cf}{σ:St}{S:Nat->Prop}{vl vo gV:Value}{EL:List Le}{EO pJ:List Te}{K S1:Nat->Prop}{X:Nat->Prop}
theorem aP.txs(h:aP W0 w A c σ vl vo EL EO K S1)(hg:aj X w w2)(hX:∀k,X k->bZ vo EO k\/w.heap.size<=k)(DK:pF W0 w2 vo pJ K)(new:∀k,bZ vo pJ k->bZ vo EO k\/w.heap.size<=k):
  aP W0 w2 A c { σ with opn:=pJ.map (·.x) } vl vo EL pJ K S1:=by
 have hlt:=h.lt;have hb:Below W0.heap.size W0 w2:=h.bel.trans (hg.below (fun k hk=>⟨Nat.lt_of_lt_of_le hk h.bel.size,fun hx=>by
  rcases hX k hx with hx|hx
  ·have:=(h.tx.lt k hx).1;omega
  ·have:=h.bel.size;omega⟩))
 have nx:∀k,k<w.heap.size->¬bZ vo EO k->¬X k:=fun k h1 h2 h3=>(hX k h3).elim h2 (fun h=>by omega);have dj:∀(P:Nat->Prop),(∀k,P k->k<w.heap.size)->(∀k,P k->¬bZ vo EO k)->∀k,P k->¬bZ vo pJ k:=fun P h1 h2 k hk hx=>(new k hx).elim (h2 k hk) (fun h=>by have:=h1 k hk;omega);exact⟨h.sp.grow hg (fun k hk hx=>nx k (hlt k (.inl hk)).2 (h.d2 k hk) hx) hb,
  h.ln.grow hg (fun q e=>nx q (hlt q (.inr (.inl e))).2 (h.d3 q e)) (fun k hk=>nx k (h.kin k hk).2 (h.k3 k hk)),h.lZ,DK,rfl,
  fun k hk=>⟨(h.kin k hk).1,Nat.lt_of_lt_of_le (h.kin k hk).2 hg.size⟩,h.d1,dj _ (fun k hk=>(hlt k (.inl hk)).2) h.d2,dj _ (fun k hk=>(hlt k (.inr (.inl hk))).2) h.d3,h.k1,h.k2,dj _ (fun k hk=>(h.kin k hk).2) h.k3⟩
theorem aP.opn(h:aP W0 w A c σ vl vo EL EO K S1)(hg:aj X w w2)(hX:∀k,X k->bZ vo EO k\/w.heap.size<=k)(DK:pF W0 w2 gV pJ K)(new:∀k,bZ gV pJ k->bZ vo EO k\/w.heap.size<=k):
  ∃aT,aP W0 (w2.setCell ⟨A.sb,5,none⟩ gV) A c { σ with opn:=pJ.map (·.x) } vl gV EL pJ K aT/\aj (fun k=>S1 k\/bZ vo EO k) w (w2.setCell ⟨A.sb,5,none⟩ gV)/\(∀k,aT k->S1 k\/w.heap.size<=k):=by
 have hlt:=h.lt;have hb:Below W0.heap.size W0 w2:=h.bel.trans (hg.below (fun k hk=>⟨Nat.lt_of_lt_of_le hk h.bel.size,fun hx=>by
  rcases hX k hx with hx|hx
  ·have:=(h.tx.lt k hx).1;omega
  ·have:=h.bel.size;omega⟩))
 have nx:∀k,k<w.heap.size->¬bZ vo EO k->¬X k:=fun k h1 h2 h3=>(hX k h3).elim h2 (fun h=>by omega);have hsb:S1 A.sb:=h.pG;have hsl:=(hlt _ (.inl hsb)).2;obtain⟨S9,z1,z2⟩:=(h.sp.grow hg (fun k hk hx=>nx k (hlt k (.inl hk)).2 (h.d2 k hk) hx) hb).Bf 5 (by decide) gV;have k3:=aF w2 A.sb 5 gV;have hnew:∀k,S9 k->S1 k\/w.heap.size<=k:=fun k hk=>(z2.new k hk).imp id (fun h=>Nat.le_trans hg.size h);have ntx:∀k,bZ gV pJ k->¬k=A.sb:=fun k hk e=>by
  subst e;exact(new _ hk).elim (h.d2 _ hsb) (fun h=>by omega)
 have hall:aj (fun k=>S1 k\/bZ vo EO k) w (w2.setCell ⟨A.sb,5,none⟩ gV):=by
  refine(⟨hg.os,hg.tape,hg.output,hg.size,fun k hk hx=>hg.block k hk (fun hX2=>(hX k hX2).elim (fun h=>hx (.inr h)) (fun h=>by omega))⟩:aj (fun k=>S1 k\/bZ vo EO k) w w2).trans (k3.mono (fun k e=>.inl (e▸hsb)))
 have hks:=k3.size;have hgs:=hg.size;have dn:∀(P:Nat->Prop),(∀k,P k->k<w.heap.size)->(∀k,P k->¬S1 k)->∀k,P k->¬S9 k:=fun P h1 h2 k hk hx=>(hnew k hx).elim (h2 k hk) (fun h=>by have:=h1 k hk;omega);have dj:∀(P:Nat->Prop),(∀k,P k->k<w.heap.size)->(∀k,P k->¬bZ vo EO k)->∀k,P k->¬bZ gV pJ k:=fun P h1 h2 k hk hx=>(new k hx).elim (h2 k hk) (fun h=>by have:=h1 k hk;omega);refine⟨S9,⟨z1,(h.ln.grow hg (fun q e=>nx q (hlt q (.inr (.inl e))).2 (h.d3 q e)) (fun k hk=>nx k (h.kin k hk).2 (h.k3 k hk))).grow k3 (fun q e e2=>h.d1 q (e2▸hsb) e) (fun k hk e2=>h.k1 k hk (e2▸hsb)),h.lZ,DK.grow k3 ntx (fun k hk e2=>h.k1 k hk (e2▸hsb)),rfl,
  fun k hk=>⟨(h.kin k hk).1,by have:=(h.kin k hk).2;omega⟩,?_,?_,dj _ (fun k hk=>(hlt k (.inr (.inl hk))).2) h.d3,dn _ (fun k hk=>(h.kin k hk).2) h.k1,h.k2,dj _ (fun k hk=>(h.kin k hk).2) h.k3⟩,hall,hnew⟩
 ·exact fun k h1 h2=>dn (dS vl) (fun k hk=>(hlt k (.inr (.inl hk))).2) (fun k a b=>h.d1 k b a) k h2 h1
 ·intro k h1 h2;rcases z2.new k h1 with h3|h3
  ·rcases new k h2 with h4|h4
   ·exact h.d2 k h3 h4
   ·have:=(hlt k (.inl h3)).2;omega
  ·have:=(DK.lt k h2).2;omega
theorem aP.xq{σ':St}(h:aP W0 w A c σ vl vo EL EO K S1)(i:Nat)(hi:i≠1)(v:Value)(he:(qj A σ vl vo).set i v=qj A σ' vl vo)(hp:σ'.p=σ.p)(vV:σ'.io=σ.io)(hl:σ'.lines=σ.lines)(ho:σ'.opn=σ.opn):
  ∃aT,aP W0 (w.setCell ⟨A.sb,i,none⟩ v) A c σ' vl vo EL EO K aT/\aG S1 aT w (w.setCell ⟨A.sb,i,none⟩ v):=by
 obtain⟨aT,z1,z2⟩:=h.sp.Bf i hi v;simp only[he]at z1;rw[<-hp,<-vV]at z1;obtain⟨z3,z4⟩:=h.Dy (σ':=σ') (aT:=aT) z1 z2 hl ho;exact⟨aT,z3,z2⟩
theorem ES(h:aP W0 w A c σ vl vo EL EO K S1)(r:Rc)(hs:r.small)(hb:r.before=[])(ha:r.after=[])(hr:96<=σ.io.R.room c.n)(ht:σ.io.R.tail+96<=1099511627775)(hl:EL.length<=1073741824):
  Calls Tryz.prog 55 #[.pointer (some ⟨A.sb,0,none⟩),.agg (recC r none none 0 0 0 0)] w fun e w'=>∃gJ aT,e=.returned (.tuple #[.int .i64 ((σ.io.R.tail+1:Nat):Int),.int .i64 0])/\
   aP W0 w' A c { σ with io:={ σ.io with R:=σ.io.R.app r.enc },lines:=σ.lines++[(σ.io.R.tail+1,r)] } gJ vo (EL++[⟨σ.io.R.tail+1,r,.slice none 0 0,.slice none 0 0⟩]) EO K aT/\
   aj (fun k=>S1 k\/dS vl k) w w'/\(∀k,aT k->S1 k\/w.heap.size<=k)/\(∀q,dS gJ q->dS vl q\/w.heap.size<=q):=by
 have hz:r.size=96:=by unfold Rc.size;rw[hb,ha,hs.t,hs.d];rfl
 have hn:Reads 1 w (.slice none 0 0) 0 (([]:List UInt8).map B):=⟨none,0,rfl,rfl,Nat.le_refl _,fun h=>absurd h (by omega)⟩
 have ho:∀q,¬(Value.slice none 0 0).ownBlock=some q:=fun q e=>by cases e
 refine(IE h r hs none none 0 0 0 0 (by rw[hb];rfl) (by rw[ha];rfl) (by rw[hb];exact hn) (by rw[ha];exact hn) (by rw[hz];exact hr) (by rw[hz];exact ht) hl (fun _=>False) (fun q e=>ho q e) (fun q e=>ho q e) (fun k h=>h.elim) (fun _ h=>h.elim) (fun _ h=>h.elim) (fun _ h=>h.elim)).mono ?_;rintro e w' ⟨gJ,aT,h1,h2,h3,h4,h5⟩;have e:(fun k=>K k\/False)=K:=by funext k;simp
 rw[e]at h2;exact⟨gJ,aT,h1,h2,h3,h4,h5⟩
end
end
section
open Go.RowKit
theorem Zj:SliceOf Tryz.prog 93 100 (.pointer none) 1 8:=⟨Tryz.underlying93,by kernel_rfl,rfl,by decide⟩
section
variable{W0 w w' w2:World}{A:bG}{c:Cf}{σ:St}{S:Nat->Prop}{vl gJ vo gV:Value}{EL jq:List Le}{EO pJ:List Te}{K K' S1 aT:Nat->Prop}{X:Nat->Prop}
theorem fQ(hg:aj (aO S1 vl vo EO K) w w')(n1:∀k,aT k->S1 k\/w.heap.size<=k)(n2:∀k,dS gJ k->dS vl k\/w.heap.size<=k)(n3:∀k,bZ gV pJ k->bZ vo EO k\/w.heap.size<=k)(n4:∀k,K' k->K k\/w.heap.size<=k):
  aG (aO S1 vl vo EO K) (aO aT gJ gV pJ K') w w':=by
 refine⟨hg,?_⟩;rintro k (h|h|h|h)
 ·exact(n1 k h).imp .inl id
 ·exact(n2 k h).imp (fun h=>.inr (.inl h)) id
 ·exact(n3 k h).imp (fun h=>.inr (.inr (.inl h))) id
 ·exact(n4 k h).imp (fun h=>.inr (.inr (.inr h))) id
theorem bZ.append{e:Te}{k:Nat}(h:bZ vo (EO++[e]) k):bZ vo EO k\/e.fp k:=by
 rcases h with h|⟨x,hx,h⟩
 ·exact .inl (.inl h)
 ·rcases List.mem_append.1 hx with hx|hx
  ·exact .inl (.inr ⟨x,hx,h⟩)
  ·obtain rfl:=List.mem_singleton.1 hx;exact .inr h
theorem pF.push{g id l:Nat}(h:pF W0 w vo EO K)(hg:aj (fun b=>vo.ownBlock=some b) w w2)(hrow:w2.ownsRow W0.heap.size 100 1 gV (EO.length+1) (EO.map jL++[jL ⟨g,⟨id,l,l,[]⟩,.slice none 0 0,[]⟩]))(hk:∀k,K k->¬vo.ownBlock=some k)
  (hn:∀q,gV.ownBlock=some q->vo.ownBlock=some q\/w.heap.size<=q) (hbx:Box w2 g [.int .i64 (id:Nat),.int .i64 (l:Nat),.int .i64 (l:Nat),.slice none 0 0]) (hgg:w.heap.size<=g) (hW:W0.heap.size<=w.heap.size):
  pF W0 w2 gV (EO++[⟨g,⟨id,l,l,[]⟩,.slice none 0 0,[]⟩]) K:=by
 have hfp:∀e∈EO,∀k,e.fp k->k<w.heap.size:=fun e he k hk=>(h.lt k (.inr ⟨e,he,hk⟩)).2;refine⟨?_,?_,?_,?_⟩
 ·rw[List.length_append,List.map_append];exact hrow
 ·intro e he;rcases List.mem_append.1 he with he|he
  ·exact(h.at_ e he).grow hg (fun k hk e2=>h.no e he k e2 hk) hk
  ·obtain rfl:=List.mem_singleton.1 he;exact⟨hbx,World.ownsRow_nil _ _ _ _,rfl,fun u hu=>absurd hu (by simp),Nat.le_trans hW hgg,fun q e=>by cases e⟩
 ·rw[List.pairwise_append];refine⟨h.pw,List.pairwise_singleton _ _,fun a ha b hb k h1 h2=>?_⟩;obtain rfl:=List.mem_singleton.1 hb;rcases h2 with h2|h2
  ·subst h2;have:=hfp a ha _ h1;omega
  ·cases h2
 ·intro e he q hq hf;rcases List.mem_append.1 he with he|he
  ·rcases hn q hq with h1|h1
   ·exact h.no e he q h1 hf
   ·have:=hfp e he q hf;omega
  ·obtain rfl:=List.mem_singleton.1 he;rcases hf with hf|hf
   ·subst hf;obtain⟨gq,cq,e1,_,_⟩:=dV hrow (by omega);rw[e1]at hq hrow;have e2:gq=q:=by simpa[Value.ownBlock]using hq
    subst e2;have c1:=hbx.cell 0 _ rfl;cases EO with
    | nil=>
     have c2:=gQ hrow 0 _ rfl;rw[c1]at c2;cases c2
    | cons a r=>
     have c2:=gQ hrow 0 (jL a) rfl;rw[c1]at c2;cases c2
   ·cases hf
end
theorem oZ(r:Rc)(ht:r.lQ=[])(hd:r.dirty=[]):r.enc.length=r.size:=by
 unfold Rc.enc Rc.size;rw[ht,hd];simp only[List.length_append,dL,List.flatMap_nil,List.length_nil];omega
theorem St.DL(σ:St)(c:Cf)(r:Rc)(ht:r.lQ=[])(hd:r.dirty=[])(hr:r.size<=σ.io.R.room c.n):
  σ.lay c r=(0,σ.io.R.tail+1,{ σ with io:={ σ.io with R:=σ.io.R.app r.enc },lines:=σ.lines++[(σ.io.R.tail+1,r)] }):=by
 unfold St.lay;rw[if_neg (by rw[oZ r ht hd];omega)];rfl
theorem Bq(σ:St)(c:Cf)(hr:96<=σ.io.R.room c.n):(σ.begin_ c).2.2={ σ with io:={ σ.io with R:=σ.io.R.app (Rc.enc { Rc.zero with kind:=1,aV:=σ.next }) },lines:=σ.lines++[(σ.io.R.tail+1,{ Rc.zero with kind:=1,aV:=σ.next })],opn:=σ.opn++[⟨σ.next,σ.io.R.tail+1,σ.io.R.tail+1,[]⟩],next:=σ.next+1 }:=by
 unfold St.begin_;simp only[];rw[St.DL σ c { Rc.zero with kind:=1,aV:=σ.next } rfl rfl hr];simp only[if_pos]
def Ak(A:bG)(σ:St)(nR vo:Value)(nx T n G G0:Nat)(EO:List Te)(j b o:Nat):Prop:=(j=14/\vo.ownBlock=some b)
def jQ(A:bG)(σ:St)(nR vo:Value)(nx T n G G0:Nat)(EO:List Te)(i:Nat)(VS:Nat->Value)(LO HI:Nat->Nat)(v:Value)(lo hi:Nat)(w:World):Prop:=
 match i with
 | 0=>v=.pointer (some ⟨A.sb,0,none⟩)
 | 1=>v=.pointer (some ⟨A.sb,0,none⟩)
 | 2=>v=.pointer (some ⟨A.sb,0,none⟩)
 | 3=>v=.pointer (some ⟨A.sb,5,none⟩)
 | 4=>v=vo
 | 5=>v=.pointer (some ⟨A.sb,0,none⟩)
 | 6=>v=.pointer (some ⟨A.sb,0,none⟩)
 | 7=>v=.pointer (some ⟨A.sb,7,none⟩)
 | 8=>v=.int .i64 (nx:Nat)
 | 9=>v=.int .i64 ((T+1:Nat):Int)
 | 10=>v=.int .i64 ((T+1:Nat):Int)
 | 11=>v=.agg #[.int .i64 (nx:Nat),.int .i64 ((T+1:Nat):Int),.int .i64 ((T+1:Nat):Int),.slice none 0 0]
 | 12=>∃g,v=.pointer (some ⟨g,0,none⟩)/\G<=g/\Box w g [.int .i64 (nx:Nat),.int .i64 ((T+1:Nat):Int),.int .i64 ((T+1:Nat):Int),.slice none 0 0]
 | 13=>∃g2,v=.slice (some ⟨g2,0,none⟩) 1 1/\G<=g2/\Reads 1 w v 1 [VS 12]
 | 14=>∃ao k,v=.slice ao (n+1) k/\w.ownsRow G0 100 1 (.slice ao (n+1) k) (n+1) (EO.map jL++[VS 12])/\∀q,(Value.slice ao (n+1) k).ownBlock=some q->vo.ownBlock=some q\/G<=q
 | 15=>v=.pointer (some ⟨A.sb,0,none⟩)
 | 16=>v=.pointer (some ⟨A.sb,5,none⟩)
 | _=>True
abbrev Qk:List (List Nat):=[[],[],[1],[1,2],[1,2,3],[],[5],[5,6],[5,6,7],[],[],[5,6,7,8,9,10],[5,6,7,8,9,10,11],[5,6,7,8,9,10,11,12],[1,2,3,4,5,6,7,8,9,10,11,12,13],[0,1,2,3,4,5,6,7,8,9,10,11,12,13,14],[0,1,2,3,4,5,6,7,8,9,10,11,12,13,14,15]]
theorem MZ(A:bG)(σ:St)(nR vo:Value)(nx T n G G0:Nat)(EO:List Te)(hv:∀q,vo.ownBlock=some q->q<G):∀i j,i<17->j<17->j≠i->j∉Qk.getD i []->(i,j)∉([]:List (Nat×Nat))->∀VS LO HI v lo hi w w',jQ A σ nR vo nx T n G G0 EO i VS LO HI v lo hi w->aB (Ak A σ nR vo nx T n G G0 EO j) w w'->jQ A σ nR vo nx T n G G0 EO i VS LO HI v lo hi w':=by
 intro i j hi hj hne hbs hx VS LO HI v lo hj2 w w' h hg
 match i,hi with
 | 0,_|1,_|2,_|3,_|4,_|5,_|6,_|7,_|8,_|9,_|10,_|11,_|15,_|16,_=>
  simp only[jQ]at h⊢;exact h
 | 12,_=>
  simp only[jQ]at h⊢;obtain⟨g,h1,h2,h3⟩:=h;have hgx:aj (fun b=>vo.ownBlock=some b) w w':=aj.aK hg (fun k o h=>h.2);exact⟨g,h1,h2,h3.aH hgx (fun e=>by have:=hv _ e;omega)⟩
 | 13,_=>
  simp only[jQ]at h⊢;obtain⟨g,h1,h2,h3⟩:=h;have hgx:aj (fun b=>vo.ownBlock=some b) w w':=aj.aK hg (fun k o h=>h.2);exact⟨g,h1,h2,h3.aH hgx (fun q e hx=>by rw[h1]at e;have e2:g=q:=(by simpa[Value.ownBlock]using e);have:=hv _ hx;omega)⟩
 | 14,_=>
  simp only[jQ]at h⊢;obtain⟨ao,k,h1,h2,h3⟩:=h;exact⟨ao,k,h1,aI h2 (aj.aK hg (Y:=fun _=>False) (fun k o h=>hne h.1)) (fun _ _ h=>h),h3⟩
 | (q+17),hq=>exact absurd hq (by omega)
theorem TR(A:bG)(σ:St)(nR vo:Value)(nx T n G G0:Nat)(EO:List Te):∀i,i<17->∀VS dZ LO eu HI eF v lz hz w,(∀j∈Qk.getD i [],VS j=dZ j/\LO j=eu j/\HI j=eF j)->jQ A σ nR vo nx T n G G0 EO i VS LO HI v lz hz w->jQ A σ nR vo nx T n G G0 EO i dZ eu eF v lz hz w:=by
 intro i hi VS dZ LO eu HI eF v lz hz w he h
 match i,hi with
 | 0,_|1,_|2,_|3,_|4,_|5,_|6,_|7,_|8,_|9,_|10,_|11,_|12,_|15,_|16,_=>
  simp only[jQ]at h⊢;exact h
 | 13,_|14,_=>
  simp only[jQ]at h⊢;obtain⟨GV,GX,GY⟩:=he 12 (by decide);simp only[<-GV,<-GX,<-GY];exact h
 | (q+17),hq=>exact absurd hq (by omega)
section
variable{W0 w w':World}{A:bG}{c:Cf}{σ:St}{S:Nat->Prop}{vl vo:Value}{EL:List Le}{EO:List Te}{K S1:Nat->Prop}{X:Nat->Prop}
theorem abr(h:aP W0 w A c σ vl vo EL EO K S1)(hn:EO.length<=1073741823)(hr:mQ EO<=1099511627776)(hu:∀e∈EO,∀u∈e.EU,u.1.before.length<=1048576)(hk:2336+mQ EO<=σ.io.R.room c.n)(ht:σ.io.R.tail+96<=1099511627775)(hl:EL.length<=1073741824)(hnx:σ.next<=1099511627776):
  Calls Tryz.prog 28 #[.pointer (some ⟨A.sb,0,none⟩)] w fun e w'=>∃S',e=.returned (.tuple #[.int .i64 (σ.next:Nat),.int .i64 0])/\SV W0 A c (σ.begin_ c).2.2 S' w'/\aG (aO S1 vl vo EO K) S' w w':=by
 have HN:=hid hn;have HR:=hid hr;have HU:=hid hu;have HK:=hid hk;have HT:=hid ht;have HL:=hid hl;have HS:=hid h;obtain⟨nx,hnn⟩:∃x,σ.next=x:=⟨_,rfl⟩
 have sH:=hid hnn;have c9:=h.bC.cell 9 _ rfl;have c7:w.cell? ⟨A.sb,7,none⟩=some (.int .i64 (nx:Nat)):=by rw[<-hnn];exact h.bC.cell 7 _ rfl
 have bU:=h.bC.lt;rw[hnn]at hnx⊢;clear h hn hr hu hk ht hl hnn;go_enter Tryz.func28,Tryz.ntmps28;go_wp2_with fail;have hbx:=Box.new w #[.int .i64 1,.int .i64 (nx:Nat),.int .i64 0,.int .i64 0,.int .i64 0,.int .i64 0,.slice none 0 0,.slice none 0 0,.slice none 0 0,.slice none 0 0,.int .i64 0] 85 rfl;have hal:Below w.heap.size w (w.alloc (.cells #[.int .i64 1,.int .i64 (nx:Nat),.int .i64 0,.int .i64 0,.int .i64 0,.int .i64 0,.slice none 0 0,.slice none 0 0,.slice none 0 0,.slice none 0 0,.int .i64 0] 85)):=(Below.refl _ _).alloc (Nat.le_refl _) _;have ji:=hid hal;have gY:=hid (HS.out.below hal);obtain⟨t4,Am⟩:∃x,w.heap.size=x:=⟨_,rfl⟩
 have HT4:=hid Am;rw[Am]at hbx
 try rw[Am]
 generalize w.alloc (.cells #[.int .i64 1,.int .i64 (nx:Nat),.int .i64 0,.int .i64 0,.int .i64 0,.int .i64 0,.slice none 0 0,.slice none 0 0,.slice none 0 0,.slice none 0 0,.int .i64 0] 85)=w1 at *;have iC:Hid (Box w1 t4 [.int .i64 1,.int .i64 (nx:Nat),.int .i64 0,.int .i64 0,.int .i64 0,.int .i64 0,.slice none 0 0,.slice none 0 0,.slice none 0 0,.slice none 0 0,.int .i64 0]):=hid hbx;have hsm:Rc.small ({ Rc.zero with kind:=1,aV:=nx }:Rc):=⟨by show(1:Nat)<=_;omega,by show nx<=_;omega,Nat.zero_le _,Nat.zero_le _,Nat.zero_le _,Nat.zero_le _,Nat.zero_le _,Nat.zero_le _,Nat.zero_le _,rfl,rfl⟩
 have Ci:=hid hsm;have hsize:Calls Tryz.prog 54 #[.agg #[.int .i64 1,.int .i64 (nx:Nat),.int .i64 0,.int .i64 0,.int .i64 0,.int .i64 0,.slice none 0 0,.slice none 0 0,.slice none 0 0,.slice none 0 0,.int .i64 0]] w1 fun e w'=>e=.returned (.int .i64 96)/\Below w1.heap.size w1 w':=uS { Rc.zero with kind:=1,aV:=nx } none none 0 0 0 0 hsm rfl rfl;have ny:=hid hsize;clear hbx hal hsize hsm c9 c7 bU;refine ny.out.mono ?_;rintro e y2 ⟨rfl,hb2⟩;have HB2:=hid hb2;have hroom:Calls Tryz.prog 53 #[.pointer (some ⟨A.sb,0,none⟩),.int .i64 288] y2 fun e w'=>e=.returned (.int .i64 0)/\Below y2.heap.size y2 w':=UZ (gY.out.below hb2) (Nat.le_trans HN.out (by decide)) HR.out HU.out 288 (by have:=HK.out;omega);have Dw:=hid hroom;clear hb2 hroom Am;go_wp2_with fail;refine Dw.out.mono ?_;rintro e y3 ⟨rfl,hb3⟩;have HB3:Hid (Below w1.heap.size w1 y3):=hid (HB2.out.trans (hb3.mono HB2.out.size));have sJ:=iC.out.below HB3.out (Nat.le_refl _);have ahs:=hid sJ;have r0:=sJ.cell 0 _ rfl;have r1:=sJ.cell 1 _ rfl;have r2:=sJ.cell 2 _ rfl;have r3:=sJ.cell 3 _ rfl;have r4:=sJ.cell 4 _ rfl;have r5:=sJ.cell 5 _ rfl;have r6:=sJ.cell 6 _ rfl;have r7:=sJ.cell 7 _ rfl;have r8:=sJ.cell 8 _ rfl;have r9:=sJ.cell 9 _ rfl;have r10:=sJ.cell 10 _ rfl;have yw:=sJ.lt;have jB:Calls Tryz.prog 55 #[.pointer (some ⟨A.sb,0,none⟩),.agg #[.int .i64 1,.int .i64 (nx:Nat),.int .i64 0,.int .i64 0,.int .i64 0,.int .i64 0,.slice none 0 0,.slice none 0 0,.slice none 0 0,.slice none 0 0,.int .i64 0]] y3 _:=ES (gY.out.below HB3.out) { Rc.zero with kind:=1,aV:=nx } Ci.out rfl rfl (by have:=HK.out;omega) HT.out HL.out;have FQ:=hid jB;clear hb3 sJ jB;go_wp2_with fail;refine FQ.out.mono ?_;rintro e y4 ⟨nR,S4,rfl,hs4,hg4,hn4,hv4⟩;have iD:=hid hs4;have Cj:=hid hg4;have FT:=hid hn4;have vO:=hid hv4;obtain⟨T,hT⟩:∃x,σ.io.R.tail=x:=⟨_,rfl⟩
 rw[hT];have oG:=hid hT;clear r0 r1 r2 r3 r4 r5 r6 r7 r8 r9 r10 yw hs4 hg4 hn4 hv4 hT;go_upto_region 10 with (fail);have bs:Box y4 A.sb [.pointer (some ⟨A.d,0,none⟩),.pointer (some ⟨A.r,0,none⟩),.pointer (some ⟨A.f,0,none⟩),.pointer (some ⟨A.g,0,none⟩),nR,vo,.int .i64 (σ.master:Nat),.int .i64 (nx:Nat),.int .i64 (σ.commits:Nat),.bool false,.int .i64 (σ.aW:Nat),.int .i64 (σ.aZ:Nat)]:=by rw[<-sH.out];exact iD.out.bC
 have hrow:=iD.out.tx.row;have hlv:∀q,vo.ownBlock=some q->q<y4.heap.size:=fun q e=>(iD.out.tx.row.lt q e).2;have hvs:vo.ownBlock≠some A.sb:=fun e=>iD.out.d2 _ iD.out.pG (.inl e);obtain⟨n,hnn⟩:∃x,EO.length=x:=⟨_,rfl⟩
 have hn2:n<=1073741823:=by rw[<-hnn];exact HN.out
 rw[hnn]at hrow;have gZ:=hid hrow;have kC:=hid hnn;have hW0:W0.heap.size<=y4.heap.size:=iD.out.bel.size;have hB:Below 0 y4 y4:=Below.refl _ _;clear hrow hnn;refine eP (Ak A σ nR vo nx T n (y4.heap.size) (W0.heap.size) EO) 17 Qk [some 34,some 35,some 36,some 37,some 38,some 39,some 40,some 41,some 42,some 43,some 44,some 45,some 46,some 47,some 48,some 49,some 50,none] [[],[],[1],[2],[3],[],[5],[6],[7],[],[],[8,9,10],[11],[12],[4,12,13],[0],[15]] [0,1,2,3,4,5,6,7,8,9,10,11,12,13,14,15,16] [] (by decide) (by kernel_rfl) (by kernel_rfl) rfl (jQ A σ nR vo nx T n (y4.heap.size) (W0.heap.size) EO) (TR A σ nR vo nx T n (y4.heap.size) (W0.heap.size) EO) (MZ A σ nR vo nx T n (y4.heap.size) (W0.heap.size) EO hlv) ?aht ?_
 case aht=>
  intro i hi o ho vs lo eX w' hg hp hdd;have hsz:=hg.size;replace hp:=fun j hj=>(hp j hj).2.2.2
  match i,hi with
  | 0,_|1,_|5,_|9,_|10,_|2,_|3,_|4,_|6,_|7,_|8,_|11,_|15,_|16,_=>
   cases ho;simp only[aA,jQ]at hp
   first|simp only[ak,Act.put,aA,hp]|simp only[ak,Act.put,aA]
   try have e0:=(hg.cell (A.sb) 5 bs.lt (by rintro⟨j,_,hne,hb,hw⟩;simp only[Ak]at hw;exact hvs hw.2)).trans (bs.cell 5 _ rfl)
   try have e1:=(hg.cell (A.sb) 7 bs.lt (by rintro⟨j,_,hne,hb,hw⟩;simp only[Ak]at hw;exact hvs hw.2)).trans (bs.cell 7 _ rfl)
   go_wp2;exact⟨_,rfl,aB.refl _,rfl⟩
  | 12,_=>
   cases ho;simp only[ak,Act.put,aA];have h11:=hp 11 (by simp);simp only[jQ]at h11;rw[h11];have hbl:=(Below.refl w'.heap.size w').alloc (Nat.le_refl _) (.cells #[.int .i64 (nx:Nat),.int .i64 ((T+1:Nat):Int),.int .i64 ((T+1:Nat):Int),.slice none 0 0] 103);have hbn:=Box.new w' #[.int .i64 (nx:Nat),.int .i64 ((T+1:Nat):Int),.int .i64 ((T+1:Nat):Int),.slice none 0 0] 103 rfl;go_wp2;exact⟨_,rfl,aB.bK ⟨hbl.os,hbl.tape,hbl.output,hbl.size,hbl.block⟩,_,rfl,hsz,hbn⟩
  | 13,_=>
   cases ho;simp only[ak,Act.put,aA];have h12:=hp 12 (by simp);simp only[jQ]at h12;have hbl:=(Below.refl w'.heap.size w').alloc (Nat.le_refl _) (.cells #[vs 12] 100);obtain⟨g,e12,_,_⟩:=h12;rw[e12]at hbl⊢;go_wp2;exact⟨_,rfl,aB.bK ⟨hbl.os,hbl.tape,hbl.output,hbl.size,hbl.block⟩,_,rfl,hsz,by rw[e12];exact Reads.lit rfl rfl (Nat.le_refl _) rfl⟩
  | 14,_=>
   cases ho;simp only[ak,Act.put,aA];have h4:=hp 4 (by simp);have h12:=hp 12 (by simp);have h13:=hp 13 (by simp);simp only[jQ]at h4 h12 h13;rw[h4];obtain⟨g,ahu,auv,ahv⟩:=h13;obtain⟨g1,e12,_,_⟩:=h12;rw[ahu];rw[ahu]at ahv;have hgx:aj (fun _=>False) y4 w':=aj.aK hg (fun k o ⟨j,hj,hne,hb,hw⟩=>hne hw.1);have hown:=aI gZ.out hgx (fun _ _ h=>h);go_wp2_with (at_builtin;refine dU Zj (.tmp 38) (.tmp 47) rfl rfl rfl hown rfl ahv (by intro u hu;rw[List.mem_singleton]at hu;rw[hu,e12];rfl) (by omega) (by omega) (by omega) ?_;intro ob cq wq ho2 hg2 hn2);exact⟨_,rfl,hg2.mono (fun b o h=>⟨rfl,h⟩),ob,cq,rfl,ho2,fun q e=>(hn2 q e).imp id (fun h=>by omega)⟩
  | (q+17),hq=>exact absurd hq (by omega)
 intro vS lo hi z5 hg hp hd;have hP:=fun j hj=>(hp j hj).2.2.2;have h0:=hP 0 (by decide) (by decide);have h1:=hP 1 (by decide) (by decide);have h2:=hP 2 (by decide) (by decide);have h3:=hP 3 (by decide) (by decide);have h4:=hP 4 (by decide) (by decide);have h5:=hP 5 (by decide) (by decide);have h6:=hP 6 (by decide) (by decide);have h7:=hP 7 (by decide) (by decide);have h8:=hP 8 (by decide) (by decide);have h9:=hP 9 (by decide) (by decide);have h10:=hP 10 (by decide) (by decide);have h11:=hP 11 (by decide) (by decide);have h12:=hP 12 (by decide) (by decide);have h13:=hP 13 (by decide) (by decide);have dH:=hP 14 (by decide) (by decide);have h15:=hP 15 (by decide) (by decide);have h16:=hP 16 (by decide) (by decide);clear hP;simp only[jQ]at h0 h1 h2 h3 h4 h5 h6 h7 h8 h9 h10 h11 h12 h13 dH h15 h16;clear hp hd;have hsz:=hg.size;have jX:Hid (aj (fun b=>vo.ownBlock=some b) y4 z5):=hid (aj.aK hg (fun k o ⟨j,_,hw⟩=>hw.2));replace bs:=bs.grow hg (by intro i _;rintro⟨j,_,hw⟩;simp only[Ak]at hw;first|exact hvs hw.2|(have:=hlv _ hw.2;omega));replace hB:=hB.trans (hg.below (fun k hk=>⟨by omega,fun o=>by rintro⟨j,_,hw⟩;simp only[Ak]at hw;first|exact hvs hw.2|(have:=hlv _ hw.2;omega)⟩));have hr:List.range 17=[0,1,2,3,4,5,6,7,8,9,10,11,12,13,14,15,16]:=rfl;rw[hr];clear hr;simp only[List.drop_succ_cons,List.drop_zero,List.drop_nil,ak,Act.put,aA,h0,h1,h2,h3,h4,h5,h6,h7,h8,h9,h10,h11,h15,h16];clear h0 h1 h2 h3 h4 h5 h6 h7 h8 h9 h10 h11 h15 h16;obtain⟨g,Bv,yx,DN⟩:=h12;obtain⟨ov,kv,Ql,JU,mV⟩:=dH;rw[Ql];rw[Bv]at JU;have tV:=hid DN;have HGN:=hid yx;have apq:=hid JU;have abt:=hid mV;have c5:=bs.cell 5 _ rfl;have cfz:=bs.free;have bU:=bs.lt;clear Bv yx DN Ql JU mV h13 hB hg bs;go_upto_region 11 with (fail);have htx:=iD.out.tx.push (w2:=z5) (gV:=.slice ov (n+1) kv) (g:=g) (id:=nx) (l:=T+1) jX.out (by rw[kC.out];exact apq.out) (fun k hk e=>iD.out.k3 k hk (.inl e)) abt.out tV.out HGN.out hW0
 obtain⟨S5,hs5,hg5,hn5⟩:=iD.out.opn jX.out (fun k e=>.inl (.inl e)) htx (fun k hk=>by
  rcases hk.append with hk|hk
  ·rcases hk with hk|hk
   ·exact(abt.out k hk).imp .inl id
   ·exact .inl (.inr hk)
  ·rcases hk with hk|hk
   ·subst hk;exact .inr HGN.out
   ·cases hk)
 have bs6:Box (z5.setCell ⟨A.sb,5,none⟩ (.slice ov (n+1) kv)) A.sb [.pointer (some ⟨A.d,0,none⟩),.pointer (some ⟨A.r,0,none⟩),.pointer (some ⟨A.f,0,none⟩),.pointer (some ⟨A.g,0,none⟩),nR,.slice ov (n+1) kv,.int .i64 (σ.master:Nat),.int .i64 (nx:Nat),.int .i64 (σ.commits:Nat),.bool false,.int .i64 (σ.aW:Nat),.int .i64 (σ.aZ:Nat)]:=by rw[<-sH.out];exact hs5.bC
 have sK:=hid hs5;have jG:=hid hg5;have HN5:=hid hn5;clear htx hs5 hg5 hn5 c5 cfz bU;generalize z5.setCell ⟨A.sb,5,none⟩ (.slice ov (n+1) kv)=z6 at *;have c7:=bs6.cell 7 _ rfl;have cfz:=bs6.free;have bU:=bs6.lt;go_upto_region 12 with (fail);obtain⟨S7,hs7,yh⟩:=sK.out.xq (σ':={ σ with io:={ σ.io with R:=σ.io.R.app (Rc.enc { Rc.zero with kind:=1,aV:=nx }) },lines:=σ.lines++[(σ.io.R.tail+1,{ Rc.zero with kind:=1,aV:=nx })],opn:=(EO++[(⟨g,⟨nx,T+1,T+1,[]⟩,.slice none 0 0,[]⟩:Te)]).map (·.x),next:=nx+1 }) 7 (by decide) (.int .i64 ((nx:Int)+1)) rfl rfl rfl rfl rfl;have Cc:=hid hs7;have qZ:=hid yh;have c7':=hs7.bC.cell 7 _ rfl;have abu:=hs7.bC.lt;clear hs7 yh c7 cfz bs6;go_wp2_with fail;go_ret2;have F1:aG (aO S1 vl vo EO K) (aO S4 nR vo EO K) w1 y4:=(aG.below (aC HB3.out)).trans (fQ (Cj.out.mono (fun k h=>h.elim .inl (fun h=>.inr (.inl h)))) FT.out vO.out (fun k h=>.inl h) (fun k h=>.inl h));have F2:aG (aO S4 nR vo EO K) (aO S5 nR (.slice ov (n+1) kv) (EO++[(⟨g,⟨nx,T+1,T+1,[]⟩,.slice none 0 0,[]⟩:Te)]) K) y4 z6:=fQ (jG.out.mono (fun k h=>h.elim .inl (fun h=>.inr (.inr (.inl h))))) HN5.out (fun k h=>.inl h) (fun k hk=>by
  rcases hk.append with hk|hk
  ·rcases hk with hk|hk
   ·exact(abt.out k hk).imp .inl id
   ·exact .inl (.inr hk)
  ·rcases hk with hk|hk
   ·subst hk;exact .inr HGN.out
   ·cases hk) (fun k h=>.inl h)
 have e:=Bq σ c (by have:=HK.out;omega);have e2:=Cc.out;have e3:(EO++[(⟨g,⟨nx,T+1,T+1,[]⟩,.slice none 0 0,[]⟩:Te)]).map (·.x)=σ.opn++[⟨σ.next,σ.io.R.tail+1,σ.io.R.tail+1,[]⟩]:=by
  rw[List.map_append,<-HS.out.wP,sH.out,oG.out];rfl
 rw[sH.out]at e e3;rw[e3]at e2;rw[<-e]at e2;exact⟨rfl,_,⟨_,_,_,_,_,_,e2,rfl⟩,((aG.below (aC ji.out)).trans (F1.trans (F2.trans (iY qZ.out))))⟩
end
end
section
open Go.RowKit
def hits(t:Int)(p off n id:Nat)(u:Up):Bool:=decide (¬(id:Int)=t/\0<n/\u.page=p/\u.off<off+n/\off<u.off+u.before.length)
def St.busy(σ:St)(t:Int)(p off n:Nat):Bool:=σ.opn.any fun x=>x.l.any (hits t p off n x.id)
section
variable{W0 w w':World}{A:bG}{c:Cf}{σ:St}{S:Nat->Prop}{vl vo:Value}{EL:List Le}{EO:List Te}{K S1:Nat->Prop}{X:Nat->Prop}
theorem aP.ahz(h:aP W0 w A c σ vl vo EL EO K S1)(t:Int)(p off n:Nat):σ.busy t p off n=EO.any fun e=>e.EU.any fun u=>hits t p off n e.x.id u.1:=by
 unfold St.busy;rw[h.wP,List.any_map];have:∀l:List Te,(∀e∈l,e.x.l=e.EU.map (·.1))->l.any ((fun x:Tx=>x.l.any (hits t p off n x.id))∘fun e=>e.x)=l.any fun e=>e.EU.any fun u=>hits t p off n e.x.id u.1:=by
  intro l hl
  induction l with
  | nil=>rfl
  | cons a r ih=>
   simp only[List.any_cons,Function.comp];rw[hl a List.mem_cons_self,List.any_map,<-ih (fun e he=>hl e (List.mem_cons_of_mem _ he))];rfl
 exact this EO (fun e he=>(h.tx.at_ e he).ups)
theorem U1(h:aP W0 w A c σ vl vo EL EO K S1)(hn:EO.length<=1073741824)(hu:∀e∈EO,e.EU.length<=1073741824/\∀u∈e.EU,u.1.off+u.1.before.length<=1048576)(t:Int)(p off nb:Nat)(ho:off<=1048576)(hb:nb<=1048576):
  Calls Tryz.prog 63 #[.pointer (some ⟨A.sb,0,none⟩),.int .i64 t,.int .i64 (p:Nat),.int .i64 (off:Nat),.int .i64 (nb:Nat)] w fun e w'=>e=.returned (.bool (σ.busy t p off nb))/\Below w.heap.size w w':=by
 have HS:=hid h;have HU:=hid hu;have rH:=hid (h.ahz t p off nb);have c5:=h.bC.cell 5 _ rfl;have bU:=h.bC.lt;obtain⟨ao,cq,rG⟩:=bF h.tx.row;have Qe:=hid rG;obtain⟨n,hnn⟩:∃x,EO.length=x:=⟨_,rfl⟩
 rw[rG,hnn]at c5;rw[hnn]at hn;have kC:=hid hnn;clear h rG hnn hu;go_enter Tryz.func63,Tryz.ntmps63;go_wp2_with fail;go_loopw [20] (fun i wr=>∃j:Nat,j<=n/\i=.int .i64 j/\(∀k e,k<j->EO[k]? = some e->∀u∈e.EU,hits t p off nb e.x.id u.1=false)/\Below w.heap.size w wr) (fun i _=>n-(intOf i).toNat)
 case atStart=>exact⟨0,Nat.zero_le _,rfl,fun k e hk=>absurd hk (Nat.not_lt_zero _),Below.refl _ _⟩
 case round=>
  obtain⟨j,hj,rfl,hno,hbl⟩:=hrel;have HB:=hid hbl;have yu:=hid hno;clear hbl hno;by_cases hjn:j<n
  case neg=>
   have b1:decide (j<n)=false:=by simpa using hjn
   have b2:decide ((j:Int)<(n:Int))=false:=by simpa using hjn
   have e4:σ.busy t p off nb=false:=by
    rw[rH.out,List.any_eq_false];intro e he;obtain⟨k,hk,rfl⟩:=List.getElem_of_mem he;have:=yu.out k _ (by have:=kC.out;omega) (List.getElem?_eq_getElem hk);simp only[List.any_eq_true,not_exists,not_and,Bool.not_eq_true];exact this
   go_wp2_with fail;go_ret;exact⟨rO (by rw[e4];rfl),HB.out⟩
  have b1:decide (j<n)=true:=by simpa using hjn
  have b2:decide ((j:Int)<(n:Int))=true:=by simpa using hjn
  have hjl:j<EO.length:=by rw[kC.out];exact hjn
  have hs:=HS.out.below HB.out;have hrow:=hs.tx.row;rw[kC.out]at hrow;obtain⟨gq,Qg,e1,_,_⟩:=dV hrow (by omega);have e2:=e1;rw[Qe.out]at e2;injection e2 with e3 e4 e5;subst e3;subst e5;clear e4;rw[e1]at hrow;obtain⟨e,hee⟩:∃e,EO[j]? = some e:=⟨_,List.getElem?_eq_getElem hjl⟩
  have FN:=hid hee;have hmem:=List.mem_of_getElem? hee;have hcl:=gQ hrow j (jL e) (by rw[List.getElem?_map,hee];rfl);have hbx:=(hs.tx.at_ e hmem).box;have e3:=hbx.cell 3 _ rfl;have elt:=hbx.lt;obtain⟨au,cu,hvu⟩:=bF (hs.tx.at_ e hmem).row;obtain⟨m,hmm⟩:∃x,e.EU.length=x:=⟨_,rfl⟩
  rw[hvu,hmm]at e3;simp only[jL]at hcl;have jP:=hid hmm;have FP:=hid hvu;have zA:=hid hmem;have hmb:m<=1073741824:=by rw[<-hmm];exact(HU.out e hmem).1
  clear hrow hjl e1 hee hbx hvu hmm hmem hs;go_wp2_with fail;go_loopw [29] (fun i wx=>∃q:Nat,q<=m/\i=.int .i64 q/\(∀k u,k<q->e.EU[k]? = some u->hits t p off nb e.x.id u.1=false)/\Below w.heap.size w wx) (fun i _=>m-(intOf i).toNat)
  case atStart=>exact⟨0,Nat.zero_le _,rfl,fun k u hk=>absurd hk (Nat.not_lt_zero _),HB.out⟩
  case round=>
   obtain⟨q,hq,rfl,ahA,hbl⟩:=hrel;have HB2:=hid hbl;have JV:=hid ahA;clear hbl ahA;by_cases hqm:q<m
   case neg=>
    have b3:decide (q<m)=false:=by simpa using hqm
    have b4:decide ((q:Int)<(m:Int))=false:=by simpa using hqm
    go_wp2_with fail;go_roundw
    ·refine⟨j+1,by omega,by go_num,fun k e' hk hk2 u hu=>?_,HB2.out⟩;rcases Nat.lt_succ_iff_lt_or_eq.1 hk with hk|rfl
     ·exact yu.out k e' hk hk2 u hu
     ·rw[FN.out]at hk2;obtain rfl:=Option.some.inj hk2;obtain⟨i,hi,rfl⟩:=List.getElem_of_mem hu;exact JV.out i _ (by have:=jP.out;omega) (List.getElem?_eq_getElem hi)
    ·simp[intOf];omega
   have b3:decide (q<m)=true:=by simpa using hqm
   have b4:decide ((q:Int)<(m:Int))=true:=by simpa using hqm
   have Qh:q<e.EU.length:=by rw[jP.out];exact hqm
   have hs:=HS.out.below HB2.out;have hrow:=(hs.tx.at_ e zA.out).row;have id0:=(hs.tx.at_ e zA.out).box.cell 0 _ rfl;have auw:=(hs.tx.at_ e zA.out).box.lt;rw[jP.out]at hrow;obtain⟨gu,Qi,e1,_,_⟩:=dV hrow (by omega);have e2:=e1;rw[FP.out]at e2;injection e2 with e3' e4 e5;subst e3';subst e5;clear e4;rw[e1]at hrow;obtain⟨u,hue⟩:∃u,e.EU[q]? = some u:=⟨_,List.getElem?_eq_getElem Qh⟩
   have FU:=hid hue;obtain⟨a2,c2,hv2,_⟩:=((hs.tx.at_ e zA.out).tb u (List.mem_of_getElem? hue)).1;have hix:=fun i hi=>ER (f:=EM) (k:=5) (fun _=>rfl) e.EU q u hue i hi;have k0:=gQ hrow (q*5+0) _ ((hix 0 (by decide)).trans rfl);have k1:=gQ hrow (q*5+1) _ ((hix 1 (by decide)).trans rfl);have k2:=gQ hrow (q*5+2) _ ((hix 2 (by decide)).trans rfl);have k3:=gQ hrow (q*5+3) _ ((hix 3 (by decide)).trans rfl);have k4:=gQ hrow (q*5+4) _ ((hix 4 (by decide)).trans rfl);rw[hv2]at k4;have hub:=(HU.out e zA.out).2 u (List.mem_of_getElem? hue);clear hix hrow hs hue hv2 Qh e1;have hht:hits t p off nb e.x.id u.1=decide (¬(e.x.id:Int)=t/\0<nb/\u.1.page=p/\u.1.off<off+nb/\off<u.1.off+u.1.before.length):=rfl;obtain⟨mb,JR⟩:∃x,u.1.before.length=x:=⟨_,rfl⟩
   rw[JR]at hub k4 hht;generalize u.1.aN=y1 at *;generalize u.1.prev=y2 at *;generalize u.1.page=y3 at *;generalize u.1.off=y4 at *;clear JR;obtain⟨uid,lS⟩:∃x,e.x.id=x:=⟨_,rfl⟩
   rw[lS]at id0 hht;simp only[Nat.add_zero]at k0;have U2:=hid hht;have oD:=hid lS;clear hht lS;by_cases h0:¬(uid:Int)=t
   case neg=>
    have apr:((uid:Int) != t)=false:=by simpa using h0
    have hh:hits t p off nb e.x.id u.1=false:=by rw[oD.out,U2.out];exact decide_eq_false (fun⟨a1,a2,a3,a4,a5⟩=>by omega)
    have HH:=hid hh;clear hh;go_wp2_with fail;go_roundw
    ·refine⟨q+1,by omega,by go_num,fun k u' hk hk2=>?_,HB2.out.trans (((Below.refl _ _).alloc (Nat.le_refl _) _).mono HB2.out.size)⟩;rcases Nat.lt_succ_iff_lt_or_eq.1 hk with hk|rfl
     ·exact JV.out k u' hk hk2
     ·rw[FU.out]at hk2;obtain rfl:=Option.some.inj hk2;exact HH.out
    ·simp[intOf];omega
   have apr:((uid:Int) != t)=true:=by simpa using h0
   by_cases h1:0<nb
   case neg=>
    have aps:decide ((nb:Int)>0)=false:=by simp;omega
    have apt:decide ((0:Int)<(nb:Int))=false:=by simp;omega
    have apu:decide (0<nb)=false:=by simp;omega
    have hh:hits t p off nb e.x.id u.1=false:=by rw[oD.out,U2.out];exact decide_eq_false (fun⟨a1,a2,a3,a4,a5⟩=>by omega)
    have HH:=hid hh;clear hh;go_wp2_with fail;go_roundw
    ·refine⟨q+1,by omega,by go_num,fun k u' hk hk2=>?_,HB2.out.trans (((Below.refl _ _).alloc (Nat.le_refl _) _).mono HB2.out.size)⟩;rcases Nat.lt_succ_iff_lt_or_eq.1 hk with hk|rfl
     ·exact JV.out k u' hk hk2
     ·rw[FU.out]at hk2;obtain rfl:=Option.some.inj hk2;exact HH.out
    ·simp[intOf];omega
   have aps:decide ((nb:Int)>0)=true:=by simp;omega
   have apt:decide ((0:Int)<(nb:Int))=true:=by simp;omega
   have apu:decide (0<nb)=true:=by simp;omega
   by_cases h2:y3=p
   case neg=>
    have apv:((y3:Int)==(p:Int))=false:=by simp;omega
    have hh:hits t p off nb e.x.id u.1=false:=by rw[oD.out,U2.out];exact decide_eq_false (fun⟨a1,a2,a3,a4,a5⟩=>by omega)
    have HH:=hid hh;clear hh;go_wp2_with fail;go_roundw
    ·refine⟨q+1,by omega,by go_num,fun k u' hk hk2=>?_,HB2.out.trans (((Below.refl _ _).alloc (Nat.le_refl _) _).mono HB2.out.size)⟩;rcases Nat.lt_succ_iff_lt_or_eq.1 hk with hk|rfl
     ·exact JV.out k u' hk hk2
     ·rw[FU.out]at hk2;obtain rfl:=Option.some.inj hk2;exact HH.out
    ·simp[intOf];omega
   have apv:((y3:Int)==(p:Int))=true:=by simp;omega
   by_cases h3:y4<off+nb
   case neg=>
    have apw:decide ((y4:Int)<(off:Int)+(nb:Int))=false:=by simp;omega
    have hh:hits t p off nb e.x.id u.1=false:=by rw[oD.out,U2.out];exact decide_eq_false (fun⟨a1,a2,a3,a4,a5⟩=>by omega)
    have HH:=hid hh;clear hh;go_wp2_with fail;go_roundw
    ·refine⟨q+1,by omega,by go_num,fun k u' hk hk2=>?_,HB2.out.trans (((Below.refl _ _).alloc (Nat.le_refl _) _).mono HB2.out.size)⟩;rcases Nat.lt_succ_iff_lt_or_eq.1 hk with hk|rfl
     ·exact JV.out k u' hk hk2
     ·rw[FU.out]at hk2;obtain rfl:=Option.some.inj hk2;exact HH.out
    ·simp[intOf];omega
   have apw:decide ((y4:Int)<(off:Int)+(nb:Int))=true:=by simp;omega
   by_cases h4:off<y4+mb
   case neg=>
    have apx:decide ((off:Int)<(y4:Int)+(mb:Int))=false:=by simp;omega
    have hh:hits t p off nb e.x.id u.1=false:=by rw[oD.out,U2.out];exact decide_eq_false (fun⟨a1,a2,a3,a4,a5⟩=>by omega)
    have HH:=hid hh;clear hh;go_wp2_with fail;go_roundw
    ·refine⟨q+1,by omega,by go_num,fun k u' hk hk2=>?_,HB2.out.trans (((Below.refl _ _).alloc (Nat.le_refl _) _).mono HB2.out.size)⟩;rcases Nat.lt_succ_iff_lt_or_eq.1 hk with hk|rfl
     ·exact JV.out k u' hk hk2
     ·rw[FU.out]at hk2;obtain rfl:=Option.some.inj hk2;exact HH.out
    ·simp[intOf];omega
   have apx:decide ((off:Int)<(y4:Int)+(mb:Int))=true:=by simp;omega
   have e4:σ.busy t p off nb=true:=by
    have hh:hits t p off nb e.x.id u.1=true:=by rw[oD.out,U2.out];exact decide_eq_true ⟨h0,h1,h2,h3,h4⟩
    rw[rH.out,List.any_eq_true];exact⟨e,zA.out,List.any_eq_true.2 ⟨u,List.mem_of_getElem? FU.out,hh⟩⟩
   have Zk:=hid e4;clear e4;go_wp2_with fail;go_ret;exact⟨rO (by rw[Zk.out];rfl),HB2.out.trans (((Below.refl _ _).alloc (Nat.le_refl _) _).mono HB2.out.size)⟩
end
end
section
open Go.RowKit
theorem vW(ao:Option Addr)(n cap:Nat)(w:World)(h:n<=cap):Calls Tryz.prog 65 #[.slice ao n cap] w fun e w'=>e=.returned (.slice ao n n)/\w=w':=by
 by_cases h0:n=0
 ·subst h0;go_enter Tryz.func65,Tryz.ntmps65;go_wp2;go_ret;exact⟨rfl,rfl⟩
 ·go_enter Tryz.func65,Tryz.ntmps65;go_wp2;go_ret;exact⟨rfl,rfl⟩
theorem ahB:SliceOf Tryz.prog 101 114 (.agg #[.int .i64 0,.int .i64 0,.int .i64 0,.int .i64 0,.slice none 0 0]) 5 56:=⟨Tryz.underlying101,by kernel_rfl,rfl,by decide⟩
theorem NG{w:World}{g:Nat}{a0 a1 a2 a3 a4 a5 a6 a7 a8 a9 a10:Value}(h:Box w g [a0,a1,a2,a3,a4,a5,a6,a7,a8,a9,a10])(v0 v1 v2 v3 v4 v5 v6 v7 v8 v9 v10:Value):
  Box (((((((((((w.setCell ⟨g,0,none⟩ v0).setCell ⟨g,1,none⟩ v1).setCell ⟨g,2,none⟩ v2).setCell ⟨g,3,none⟩ v3).setCell ⟨g,4,none⟩ v4).setCell ⟨g,5,none⟩ v5).setCell ⟨g,6,none⟩ v6).setCell ⟨g,7,none⟩ v7).setCell ⟨g,8,none⟩ v8).setCell ⟨g,9,none⟩ v9).setCell ⟨g,10,none⟩ v10) g [v0,v1,v2,v3,v4,v5,v6,v7,v8,v9,v10]/\
  aj (fun k=>k=g) w (((((((((((w.setCell ⟨g,0,none⟩ v0).setCell ⟨g,1,none⟩ v1).setCell ⟨g,2,none⟩ v2).setCell ⟨g,3,none⟩ v3).setCell ⟨g,4,none⟩ v4).setCell ⟨g,5,none⟩ v5).setCell ⟨g,6,none⟩ v6).setCell ⟨g,7,none⟩ v7).setCell ⟨g,8,none⟩ v8).setCell ⟨g,9,none⟩ v9).setCell ⟨g,10,none⟩ v10):=by
 refine⟨((((((((((h.setCell 0 v0).setCell 1 v1).setCell 2 v2).setCell 3 v3).setCell 4 v4).setCell 5 v5).setCell 6 v6).setCell 7 v7).setCell 8 v8).setCell 9 v9).setCell 10 v10,?_⟩;exact(aF _ g 0 v0).trans ((aF _ g 1 v1).trans ((aF _ g 2 v2).trans ((aF _ g 3 v3).trans ((aF _ g 4 v4).trans ((aF _ g 5 v5).trans ((aF _ g 6 v6).trans ((aF _ g 7 v7).trans ((aF _ g 8 v8).trans ((aF _ g 9 v9).trans (aF _ g 10 v10))))))))))
theorem JW{w:World}{ops:Array Oper}{rest:List Oper}{o:Oper}{a:Act}{Q:Exit->Act->World->Prop}(hgd:o.guard=none)(d s:Operand)
  (ho:o.op=.call { callee:=.builtin .copy,args:=#[d,s],argTypes:=#[48,48] })
  {base:Nat} {v:Value} {n off m:Nat} {xs ys:List UInt8} (hown:w.ownsRow base 5 1 v n (xs.map B)) (ho2:off+m<=n) (hm:0<m)
  (dp:Option Addr) (dc:Nat) (hd:a.eval d=.slice dp m dc) (hdp:∀g,v.ownBlock=some g->dp=some ⟨g,off,none⟩)
  {sp:Option Addr} {sc:Nat} (hs:a.eval s=.slice sp m sc) (hv:Reads 1 w (.slice sp m sc) m (ys.map B))
  (h:∀w' k,w'.ownsRow base 5 1 v n ((aX xs off ys).map B)->aj (fun b=>v.ownBlock=some b) w w'->wpList Tryz.prog ops Q rest (a.put o.dst (goInt k)) w'):wpList Tryz.prog ops Q (o::rest) a w:=by
 have hxl:xs.length=n:=by have:=hown.1;rw[List.length_map]at this;omega
 obtain⟨pV,c2,hse,hyl,hsc,UJ⟩:=hv;injection hse with e1 e2 e3;subst e1 e3;have Bl:ys.length=m:=by rw[List.length_map]at hyl;omega
 obtain⟨b,of,rfl,hbl,hcell⟩:=UJ hm;rcases hown.2 with ⟨_,hn0⟩|⟨g,cap,cur,rfl,hb,hg,hnc,hcm,hcs,ht⟩
 ·omega
 ·have abm:=hdp g rfl;subst abm;have hml:(ys.map B).length=Nat.min m m:=by rw[List.length_map,Bl];exact(Nat.min_self m).symm
  have WE:(ys.map B).length=m:=by rw[List.length_map,Bl]
  have hcl:cur.toList.length=cap*1:=by rw[Array.length_toList];exact hcs
  refine wpList_copy_own hgd d s 48 48 ho 5 Tryz.underlying48 (by kernel_rfl) g off m dc ⟨b,of,none⟩ m sc hd hs cur 5 hg (ys.map B) hml (fun j u hu=>by rw[Addr.add_lit];exact hcell j u hu) (by rw[WE,<-Array.length_toList,hcl];omega) (fun u hu=>eU ys u hu) ?_;refine h _ _ ⟨?_,.inr ⟨g,cap,_,rfl,hb,setRow_heap w g _ _ _ _ hg,hnc,hcm,?_,?_⟩⟩ ⟨rfl,rfl,rfl,by simp[World.setRow],fun k hk hx=>setRow_other w g k _ (fun e=>hx (by subst e;rfl))⟩
  ·rw[List.length_map,dK _ _ _ (by omega)];omega
  ·simp only[List.size_toArray,List.length_append,WE,List.length_take,List.length_drop,hcl];rw[Nat.min_eq_left (by omega)];omega
  ·have e3:cur.toList.take n=xs.map B:=by rw[<-ht,Nat.mul_one]
   have e4:(cur.toList.take off)=(xs.map B).take off:=by rw[<-e3,List.take_take];congr 1;omega
   show List.take (n*1) (List.take off cur.toList++((ys.map B)++cur.toList.drop (off+(ys.map B).length)))=_;have l1:((xs.map B).take off).length=off:=by rw[List.length_take,List.length_map];omega
   have t1:List.take n ((xs.map B).take off)=(xs.map B).take off:=List.take_of_length_le (by rw[l1];omega);have t2:List.take (n-off) (ys.map B)=ys.map B:=List.take_of_length_le (by rw[WE];omega);have t3:List.take (n-off-m) (cur.toList.drop (off+m))=(xs.map B).drop (off+m):=by
    rw[List.take_drop,show off+m+(n-off-m)=n by omega,e3]
   rw[Nat.mul_one,e4,List.take_append,t1,l1,List.take_append,t2,WE,t3];unfold aX;have t4:List.take (n-off) ys=ys:=List.take_of_length_le (by omega);rw[List.map_append,List.map_append,List.map_take,List.map_drop,hxl,Bl,t4,List.append_assoc]
section
variable{W0 w w2:World}{vo:Value}{EO:List Te}{K:Nat->Prop}{i:Nat}{e e':Te}
theorem mem_set{α:Type}{l:List α}{i:Nat}{x y:α}(h:x∈l.set i y):x=y\/∃j,j≠i/\l[j]? = some x:=by
 obtain⟨j,hj,rfl⟩:=List.getElem_of_mem h;by_cases hij:i=j
 ·subst hij;exact .inl (by simp)
 ·refine .inr ⟨j,fun e=>hij e.symm,?_⟩;rw[List.getElem_set_ne hij,List.getElem?_eq_getElem]
theorem adK{R:Te->Te->Prop}(hs:∀a b,R a b->R b a){l:List Te}(h:l.Pairwise R){i j:Nat}{a b:Te}(ha:l[i]? = some a)(hb:l[j]? = some b)(hne:i≠j):R a b:=by
 obtain⟨hi,rfl⟩:=List.getElem?_eq_some_iff.1 ha;obtain⟨hj,rfl⟩:=List.getElem?_eq_some_iff.1 hb;rcases Nat.lt_or_gt_of_ne hne with h1|h1
 ·exact List.pairwise_iff_getElem.1 h i j hi hj h1
 ·exact hs _ _ (List.pairwise_iff_getElem.1 h j i hj hi h1)
theorem U3(a b:Te)(h:dA a.fp b.fp):dA b.fp a.fp:=fun k h1 h2=>h k h2 h1
theorem pF.setAt(h:pF W0 w vo EO K)(jI:EO[i]? = some e)(hg:aj e.fp w w2)(hk:∀k,K k->¬e.fp k)(ht:yg W0 w2 e' K)(hte:e'.t=e.t)(hn:∀q,e'.vu.ownBlock=some q->e.vu.ownBlock=some q\/w.heap.size<=q):
  pF W0 w2 vo (EO.set i e') K:=by
 have hfp:∀k,e'.fp k->e.fp k\/w.heap.size<=k:=by
  rintro k (h1|h1)
  ·exact .inl (.inl (h1.trans hte))
  ·exact(hn k h1).imp .inr id
 have hlt:=h.lt;have hi:i<EO.length:=(List.getElem?_eq_some_iff.1 jI).1;have hother:∀(j:Nat)(x:Te),j≠i->EO[j]? = some x->dA x.fp e.fp:=fun j x hj hx=>adK U3 h.pw hx jI hj;refine⟨?_,?_,?_,?_⟩
 ·rw[List.length_set];have e1:(EO.set i e').map jL=EO.map jL:=by
   rw[List.map_set];have:(EO.map jL)[i]? = some (jL e'):=by rw[List.getElem?_map,jI];simp[jL,hte]
   exact List.ext_getElem? fun j=>by
    by_cases hij:i=j
    ·subst hij;rw[List.getElem?_set_self (by rw[List.length_map];exact hi),this]
    ·rw[List.getElem?_set_ne hij]
  rw[e1];exact aI h.row hg (fun q e2 hq=>h.no e (List.mem_of_getElem? jI) q e2 hq)
 ·intro x hx;rcases mem_set hx with rfl|⟨j,hj,hx⟩
  ·exact ht
  ·exact(h.at_ x (List.mem_of_getElem? hx)).grow hg (fun k h1 h2=>hother j x hj hx k h1 h2) hk
 ·rw[List.pairwise_iff_getElem];intro a b ha hb hab k h1 h2;rw[List.length_set]at ha hb;have hx:∀(j:Nat)(hj:j<(EO.set i e').length),j≠i->EO[j]? = some (EO.set i e')[j]:=fun j hj hne=>by
   rw[List.getElem_set_ne (fun e=>hne e.symm),List.getElem?_eq_getElem]
  by_cases hai:a=i
  ·subst hai;have hb2:=hx b (by simpa using hb) (by omega);rw[List.getElem_set_self]at h1;rcases hfp k h1 with h3|h3
   ·exact hother b _ (by omega) hb2 k h2 h3
   ·have:=(hlt k (.inr ⟨_,List.mem_of_getElem? hb2,h2⟩)).2;omega
  ·have ha2:=hx a (by simpa using ha) hai;by_cases hbi:b=i
   ·subst hbi;rw[List.getElem_set_self]at h2;rcases hfp k h2 with h3|h3
    ·exact hother a _ hai ha2 k h1 h3
    ·have:=(hlt k (.inr ⟨_,List.mem_of_getElem? ha2,h1⟩)).2;omega
   ·exact adK U3 h.pw ha2 (hx b (by simpa using hb) hbi) (by omega) k h1 h2
 ·intro x hx q hq hf;rcases mem_set hx with rfl|⟨j,hj,hx⟩
  ·rcases hfp q hf with h3|h3
   ·exact h.no e (List.mem_of_getElem? jI) q hq h3
   ·have:=(hlt q (.inl hq)).2;omega
  ·exact h.no x (List.mem_of_getElem? hx) q hq hf
theorem bZ.set{k:Nat}(h:bZ vo (EO.set i e') k):bZ vo EO k\/e'.fp k:=by
 rcases h with h|⟨x,hx,h⟩
 ·exact .inl (.inl h)
 ·rcases mem_set hx with rfl|⟨j,_,hx⟩
  ·exact .inr h
  ·exact .inl (.inr ⟨x,List.mem_of_getElem? hx,h⟩)
end
end
section
open Go.RowKit
theorem zC{K:Nat}{w:World}{ao:Option Addr}{n c c':Nat}{xs:List Value}(h:Reads K w (.slice ao n c) n xs)(hc:n<=c'):Reads K w (.slice ao n c') n xs:=by
 obtain⟨ao',cc,e,hl,_,hr⟩:=h;injection e with e1 _ _;subst e1;exact⟨_,c',rfl,hl,hc,hr⟩
theorem lT{X:Nat->Prop}{a b:World}(h:Below a.heap.size a b):aj X a b:=(aC h).mono (fun k (h:False)=>h.elim)
def vX(e:Te)(id p off g g3 g8 g11 k nb T m G G0:Nat)(ab:Option Addr)(cb:Nat)(j b o:Nat):Prop:=(j=16/\e.vu.ownBlock=some b)
def qo(e:Te)(id p off g g3 g8 g11 k nb T m G G0:Nat)(ab:Option Addr)(cb:Nat)(i:Nat)(v:Value)(lo hi:Nat)(w:World):Prop:=
 match i with
 | 0=>v=.pointer (some ⟨e.t,0,none⟩)
 | 1=>v=.pointer (some ⟨e.t,0,none⟩)
 | 2=>v=.pointer (some ⟨e.t,0,none⟩)
 | 3=>v=.pointer (some ⟨e.t,3,none⟩)
 | 4=>v=e.vu
 | 5=>v=.int .i64 ((T+1:Nat):Int)
 | 6=>v=.pointer (some ⟨e.t,0,none⟩)
 | 7=>v=.pointer (some ⟨e.t,0,none⟩)
 | 8=>v=.pointer (some ⟨e.t,2,none⟩)
 | 9=>v=.int .i64 (e.x.last:Nat)
 | 10=>v=.int .i64 ((p:Nat):Int)
 | 11=>v=.int .i64 ((off:Nat):Int)
 | 12=>v=.pointer (some ⟨g3,6,none⟩)
 | 13=>v=.slice (some ⟨g8,0,none⟩) nb nb
 | 14=>v=.agg #[.int .i64 ((T+1:Nat):Int),.int .i64 (e.x.last:Nat),.int .i64 ((p:Nat):Int),.int .i64 ((off:Nat):Int),.slice (some ⟨g8,0,none⟩) nb nb]
 | 15=>∃g2,v=.slice (some ⟨g2,0,none⟩) 1 1/\G<=g2/\Reads 5 w v 1 [.int .i64 ((T+1:Nat):Int),.int .i64 (e.x.last:Nat),.int .i64 ((p:Nat):Int),.int .i64 ((off:Nat):Int),.slice (some ⟨g8,0,none⟩) nb nb]
 | 16=>∃ao c,v=.slice ao (m+1) c/\w.ownsRow G0 114 5 (.slice ao (m+1) c) (m+1) (sG e.EU++[.int .i64 ((T+1:Nat):Int),.int .i64 (e.x.last:Nat),.int .i64 ((p:Nat):Int),.int .i64 ((off:Nat):Int),.slice (some ⟨g8,0,none⟩) nb nb])/\∀q,(Value.slice ao (m+1) c).ownBlock=some q->e.vu.ownBlock=some q\/G<=q
 | 17=>v=.pointer (some ⟨e.t,0,none⟩)
 | 18=>v=.pointer (some ⟨e.t,3,none⟩)
 | _=>True
theorem Na(e:Te)(id p off g g3 g8 g11 k nb T m G G0:Nat)(ab:Option Addr)(cb:Nat)(hv:∀q,e.vu.ownBlock=some q->q<G):∀i j,i<19->j<19->j≠i->j∉([[],[],[1],[1,2],[1,2,3],[],[],[6],[6,7],[6,7,8],[],[],[],[12],[5,6,7,8,9,10,11,12,13],[5,6,7,8,9,10,11,12,13,14],[1,2,3,4,5,6,7,8,9,10,11,12,13,14,15],[0,1,2,3,4,5,6,7,8,9,10,11,12,13,14,15,16],[0,1,2,3,4,5,6,7,8,9,10,11,12,13,14,15,16,17]]:List (List Nat)).getD i []->∀v lo hi w w',qo e id p off g g3 g8 g11 k nb T m G G0 ab cb i v lo hi w->aB (vX e id p off g g3 g8 g11 k nb T m G G0 ab cb j) w w'->qo e id p off g g3 g8 g11 k nb T m G G0 ab cb i v lo hi w':=by
 intro i j hi hj hne hbs v lo hj2 w w' h hg
 match i,hi with
 | 0,_|1,_|2,_|3,_|4,_|5,_|6,_|7,_|8,_|9,_|10,_|11,_|12,_|13,_|14,_|17,_|18,_=>
  simp only[qo]at h⊢;exact h
 | 15,_=>
  simp only[qo]at h⊢;obtain⟨g,h1,h2,h3⟩:=h;have hgx:aj (fun b=>e.vu.ownBlock=some b) w w':=aj.aK hg (fun k o h=>h.2);exact⟨g,h1,h2,h3.aH hgx (fun q e hx=>by rw[h1]at e;have e2:g=q:=(by simpa[Value.ownBlock]using e);have:=hv _ hx;omega)⟩
 | 16,_=>
  simp only[qo]at h⊢;obtain⟨ao,c,h1,h2,h3⟩:=h;exact⟨ao,c,h1,aI h2 (aj.aK hg (Y:=fun _=>False) (fun k o h=>hne h.1)) (fun _ _ h=>h),h3⟩
 | (q+19),hq=>exact absurd hq (by omega)
def Zl(e:Te)(id p off g k nb G:Nat)(ab:Option Addr)(cb:Nat)(dM bs:List UInt8)(j b o:Nat):Prop:=False
def iM(e:Te)(id p off g k nb G:Nat)(ab:Option Addr)(cb:Nat)(dM bs:List UInt8)(i:Nat)(VS:Nat->Value)(LO HI:Nat->Nat)(v:Value)(lo hi:Nat)(w:World):Prop:=
 match i with
 | 0=>v=.int .i64 ((id:Nat):Int)
 | 1=>v=.pointer (some ⟨e.t,0,none⟩)
 | 2=>v=.pointer (some ⟨e.t,0,none⟩)
 | 3=>v=.pointer (some ⟨e.t,2,none⟩)
 | 4=>v=.int .i64 (e.x.last:Nat)
 | 5=>v=.int .i64 ((p:Nat):Int)
 | 6=>v=.int .i64 ((off:Nat):Int)
 | 7=>v=.slice (some ⟨g,8+off,none⟩) nb (k-(8+off))
 | 8=>∃g2 c2,v=.slice (some ⟨g2,0,none⟩) nb c2/\Reads 1 w (.slice (some ⟨g2,0,none⟩) nb c2) nb (dM.map B)/\G<=g2/\g2<w.heap.size
 | 9=>∃g2 c2,VS 8=.slice (some ⟨g2,0,none⟩) nb c2/\v=.slice (some ⟨g2,0,none⟩) nb nb
 | 10=>v=.slice ab nb cb
 | 11=>∃g2 c2,v=.slice (some ⟨g2,0,none⟩) nb c2/\Reads 1 w (.slice (some ⟨g2,0,none⟩) nb c2) nb (bs.map B)/\G<=g2/\g2<w.heap.size
 | 12=>∃g2 c2,VS 11=.slice (some ⟨g2,0,none⟩) nb c2/\v=.slice (some ⟨g2,0,none⟩) nb nb
 | 13=>v=.agg #[.int .i64 2,.int .i64 ((id:Nat):Int),.int .i64 (e.x.last:Nat),.int .i64 0,.int .i64 ((p:Nat):Int),.int .i64 ((off:Nat):Int),VS 9,VS 12,.slice none 0 0,.slice none 0 0,.int .i64 0]
 | 14=>∃g3,v=.pointer (some ⟨g3,0,none⟩)/\G<=g3/\Box w g3 [.int .i64 0,.int .i64 0,.int .i64 0,.int .i64 0,.int .i64 0,.int .i64 0,.slice none 0 0,.slice none 0 0,.slice none 0 0,.slice none 0 0,.int .i64 0]
 | _=>True
abbrev Qm:List (List Nat):=[[],[],[1],[1,2],[1,2,3],[],[],[],[7],[7,8],[],[7,8,9,10],[7,8,9,10,11],[0,1,2,3,4,5,6,7,8,9,10,11,12],[]]
theorem Nb(e:Te)(id p off g k nb G:Nat)(ab:Option Addr)(cb:Nat)(dM bs:List UInt8)  : ∀i j,i<15->j<15->j≠i->j∉Qm.getD i []->(i,j)∉([]:List (Nat×Nat))->∀VS LO HI v lo hi w w',iM e id p off g k nb G ab cb dM bs i VS LO HI v lo hi w->aB (Zl e id p off g k nb G ab cb dM bs j) w w'->iM e id p off g k nb G ab cb dM bs i VS LO HI v lo hi w':=by
 intro i j hi hj hne hbs hx VS LO HI v lo hj2 w w' h hg
 match i,hi with
 | 0,_|1,_|2,_|3,_|4,_|5,_|6,_|7,_|9,_|10,_|12,_|13,_=>
  simp only[iM]at h⊢;exact h
 | 8,_|11,_=>
  simp only[iM]at h⊢;obtain⟨g2,c2,h1,h2,h3,h4⟩:=h;have hgx:aj (fun _=>False) w w':=aj.aK hg (fun k o h=>h);exact⟨g2,c2,h1,h2.aH hgx (fun _ _ h=>h),h3,Nat.lt_of_lt_of_le h4 hgx.size⟩
 | 14,_=>
  simp only[iM]at h⊢;obtain⟨g3,h1,h2,h3⟩:=h;exact⟨g3,h1,h2,h3.aH (aj.aK hg (Y:=fun _=>False) (fun k o h=>h)) (fun h=>h)⟩
 | (q+15),hq=>exact absurd hq (by omega)
theorem TT(e:Te)(id p off g k nb G:Nat)(ab:Option Addr)(cb:Nat)(dM bs:List UInt8):∀i,i<15->∀VS dZ LO eu HI eF v lz hz w,(∀j∈Qm.getD i [],VS j=dZ j/\LO j=eu j/\HI j=eF j)->iM e id p off g k nb G ab cb dM bs i VS LO HI v lz hz w->iM e id p off g k nb G ab cb dM bs i dZ eu eF v lz hz w:=by
 intro i hi VS dZ LO eu HI eF v lz hz w he h
 match i,hi with
 | 0,_|1,_|2,_|3,_|4,_|5,_|6,_|7,_|8,_|10,_|11,_|14,_=>
  simp only[iM]at h⊢;exact h
 | 9,_=>
  simp only[iM]at h⊢;obtain⟨Ze,Zf,Zg⟩:=he 8 (by decide);simp only[<-Ze,<-Zf,<-Zg];exact h
 | 12,_=>
  simp only[iM]at h⊢;obtain⟨apy,apz,apA⟩:=he 11 (by decide);simp only[<-apy,<-apz,<-apA];exact h
 | 13,_=>
  simp only[iM]at h⊢;obtain⟨e9a,e9b,e9c⟩:=he 9 (by decide);obtain⟨GV,GX,GY⟩:=he 12 (by decide);simp only[<-e9a,<-e9b,<-e9c,<-GV,<-GX,<-GY];exact h
 | (q+15),hq=>exact absurd hq (by omega)
theorem GZ(σ:St)(c:Cf)(i:Nat)(x:Tx)(p off:Nat)(bs:List UInt8)(hp:p<c.pg)(dM:List UInt8)(hbef:(((σ.get c p).2.1.drop (8+off)).take bs.length)=dM)(hne:dM≠bs)
  (hsz:Rc.size { Rc.zero with kind:=2,aV:=x.id,prev:=x.last,page:=p,off:=off,before:=dM,after:=bs }<=(σ.get c p).2.2.io.R.room c.n):
  σ.write c i x p off bs=({ (σ.get c p).2.2 with
    io:={ (σ.get c p).2.2.io with R:=(σ.get c p).2.2.io.R.app (Rc.enc { Rc.zero with kind:=2,aV:=x.id,prev:=x.last,page:=p,off:=off,before:=dM,after:=bs }) },
    lines:=(σ.get c p).2.2.lines++[((σ.get c p).2.2.io.R.tail+1,{ Rc.zero with kind:=2,aV:=x.id,prev:=x.last,page:=p,off:=off,before:=dM,after:=bs })],
    opn:=(σ.get c p).2.2.opn.set i { x with l:=x.l++[⟨(σ.get c p).2.2.io.R.tail+1,x.last,p,off,dM⟩],last:=(σ.get c p).2.2.io.R.tail+1 } }:St).put c p (aX (aX (σ.get c p).2.1 0 (aJ ((σ.get c p).2.2.io.R.tail+1))) (8+off) bs) ((σ.get c p).2.2.io.R.tail+1):=by
 have h0:=(σ.iV c p hp).1;unfold St.write;simp only[];rw[if_neg (by rw[h0];simp),hbef,if_neg hne];rw[St.DL _ c { Rc.zero with kind:=2,aV:=x.id,prev:=x.last,page:=p,off:=off,before:=dM,after:=bs } rfl rfl hsz];simp only[St.wZ];rw[if_neg (by simp)]
def TxB(EO:List Te):Prop:=∀e∈EO,e.EU.length<=1000000/\∀u∈e.EU,u.1.off+u.1.before.length<=504
section
variable{W0 w w':World}{A:bG}{c:Cf}{σ:St}{S:Nat->Prop}{vl vo:Value}{EL:List Le}{EO:List Te}{K S1:Nat->Prop}{X:Nat->Prop}
theorem abv(h:aP W0 w A c σ vl vo EL EO K S1)(hn:EO.length<=1000000)(hr:mQ EO<=1099511627776)(hu:TxB EO)(i:Nat)(e:Te)(hof:σ.of (e.x.id:Int)=some i)(jI:EO[i]? = some e)
  (p off:Nat) (bs:List UInt8) (ab:Option Addr) (nb cb:Nat) (hv:Reads 1 w (.slice ab nb cb) nb (bs.map B)) (hbn:bs.length=nb) (hpg:p<c.pg) (hoff:off+nb<=504) (NH:σ.busy (e.x.id:Int) p off nb=false)
  (harg:∀q,(Value.slice ab nb cb).ownBlock=some q->¬aO S1 vl vo EO K q/\q<w.heap.size) (lS:e.x.id<=1099511627776) (hla:e.x.last<=1099511627776) (hpp:c.pg<=1099511627776)
  (hk:2240+3*nb+mQ EO<=σ.io.R.room c.n) (ht:σ.io.R.tail+96+2*nb<=1099511627775) (hl:EL.length<=1000000) (hwr:σ.p.wr+2<=1000000000):
  Calls Tryz.prog 31 #[.pointer (some ⟨A.sb,0,none⟩),.int .i64 (e.x.id:Nat),.int .i64 (p:Nat),.int .i64 (off:Nat),.slice ab nb cb] w fun er w'=>∃S',er=.returned (.int .i64 0)/\SV W0 A c (σ.write c i e.x p off bs).2 S' w'/\aG (aO S1 vl vo EO K) S' w w':=by
 have HN:=hid hn;have HR:=hid hr;have HU:=hid hu;have lU:=hid jI;have lN:=hid hpg;have Qn:=hid hpp;have HK:=hid hk;have HT:=hid ht;have HL:=hid hl;have nK:=hid hwr;have HV:=hid hv;have tV:=hid hbn;have WG:=hid harg;have HS:=hid h;have Qo:=hid hoff;have c9:=h.bC.cell 9 _ rfl;have bU:=h.bC.lt;have hcall:=ND h (e.x.id:Int) (Nat.le_trans hn (by decide));have Ap:=hid hcall;have qh:=hid hof;have oH:=DJ h (p:Int) (off:Int) (nb:Int);rw[decide_eq_true (show _ from⟨by omega,by omega,by omega,by omega,by omega,by omega⟩)]at oH;have Ll:=hid oH;have oz:=U1 h (Nat.le_trans hn (by decide)) (fun e he=>⟨Nat.le_trans (hu e he).1 (by decide),fun u hq=>Nat.le_trans ((hu e he).2 u hq) (by decide)⟩) (e.x.id:Int) p off nb (by omega) (by omega);rw[NH]at oz;have Qp:=hid oz;obtain⟨id,G5⟩:∃x,e.x.id=x:=⟨_,rfl⟩
 rw[G5]at Ap qh Qp lS⊢;have oD:=hid G5;clear h hn hr hu jI hpg hpp hk ht hl hwr hv hbn harg hof hcall oH oz NH G5;go_enter Tryz.func31,Tryz.ntmps31;go_wp2_with fail;refine Ap.out.mono ?_;rintro er y0 ⟨⟨v,rfl,hof⟩,hy⟩;obtain rfl:w=y0:=hy.symm;obtain rfl:v=jL e:=by
  rcases hof with ⟨i',e',h1,h2,h3⟩|⟨h1,_⟩
  ·have h0:=qh.out;rw[h1]at h0;obtain rfl:=Option.some.inj h0;have h4:=lU.out;rw[h2]at h4;obtain rfl:=Option.some.inj h4;exact h3
  ·have h0:=qh.out;rw[h1]at h0;cases h0
 clear hof Ap;simp only[jL];go_wp2_with fail;refine Ll.out.mono ?_;rintro er y0 ⟨rfl,hy⟩;obtain rfl:w=y0:=hy.symm;clear Ll;go_wp2_with fail;refine Qp.out.mono ?_;rintro er y1 ⟨rfl,hb1⟩;have HB1:=hid hb1;have hs1:=HS.out.below hb1;have gY:=hid hs1;have HV1:=hid (HV.out.below hb1 (Nat.le_refl _));have c3:=hs1.bC.cell 3 _ rfl;have Qq:=hs1.bC.lt;have hget:=xC hs1 p lN.out (by have:=nK.out;omega);have HG:=hid hget;clear hb1 hs1 hget c9 bU Qp;go_wp2_with fail;refine HG.out.mono ?_;rintro er y2 ⟨g,k,S2,rfl,hrow,hgg,hkk,pI,hs2,hf2⟩;obtain⟨yA,yB⟩:∃x,(σ.get c p).2.1=x:=⟨_,rfl⟩
 rw[yB]at hrow;have HPB:=hid yB;have gZ:=hid hrow;have lD:=hid hgg;have HKK:=hid hkk;have FK:=hid pI;have HS2:=hid hs2;have HF2:=hid hf2;have hpl:yA.length=512:=by have:=hrow.1;rw[List.length_map]at this;omega
 have KR:=hid hpl;have hcut:=(Reads.aY hrow).bY (8+off) (8+off+nb) (by omega) (by omega);rw[show 8+off+nb-(8+off)=nb by omega]at hcut;have hcx:(((yA.map B).drop ((8+off)*1)).take (nb*1))=((yA.drop (8+off)).take nb).map B:=by rw[List.map_take,List.map_drop,Nat.mul_one,Nat.mul_one]
 rw[hcx]at hcut;obtain⟨dM,hbef⟩:∃x,(yA.drop (8+off)).take nb=x:=⟨_,rfl⟩
 rw[hbef]at hcut;have ahG:=hid hbef;have mO:=hid hcut;have hbl:dM.length=nb:=by rw[<-hbef,List.length_take,List.length_drop,hpl];omega
 have dP:=hid hbl;have l7:Hid (Reads 1 y2 (.slice ab nb cb) nb (bs.map B)):=hid (HV1.out.aH hf2.grow (fun q e1 h1=>(WG.out q e1).1 (.inl h1)));have HB2:=hid hf2;clear hrow hgg pI hs2 hf2 hpl hcx hcut hbef hbl yB c3 Qq HG;have abw:=dJ Tryz.underlying48 Tryz.underlying5 Tryz.underlying9 bs l7.out;have fin:∀(hbb:dM=bs),SV W0 A c (σ.write c i e.x p off bs).2 (aO S2 vl vo EO K) y2/\aG (aO S1 vl vo EO K) (aO S2 vl vo EO K) w y2:=by
  intro hbb;refine⟨⟨vl,vo,EL,EO,K,S2,?_,rfl⟩,(aG.below (aC HB1.out)).trans (iY HF2.out)⟩;have e0:(σ.get c p).1=0:=(σ.iV c p lN.out).1;have e1:(σ.write c i e.x p off bs).2=(σ.get c p).2.2:=by
   unfold St.write;simp only[];rw[if_neg (by rw[e0];simp),if_pos (by rw[HPB.out,tV.out,ahG.out,hbb])]
  rw[e1];exact HS2.out
 have FIN:=hid fin;clear fin;by_cases hnz:nb=0
 case pos=>
  subst hnz;have abx:bs=[]:=List.eq_nil_of_length_eq_zero tV.out;have ahH:dM=[]:=List.eq_nil_of_length_eq_zero dP.out;have hz1:Reads 1 y2 (.slice (some ⟨g,0,none⟩) 0 0) 0 (([]:List UInt8).map B):=⟨_,_,rfl,rfl,Nat.le_refl _,fun h=>absurd h (by omega)⟩
  have hz2:Reads 1 y2 (.slice (some ⟨g,8+off,none⟩) 0 (k-(8+off))) 0 (([]:List UInt8).map B):=⟨_,_,rfl,rfl,Nat.zero_le _,fun h=>absurd h (by omega)⟩
  have apB:=dJ Tryz.underlying48 Tryz.underlying5 Tryz.underlying9 [] hz1;have yC:=dJ Tryz.underlying48 Tryz.underlying5 Tryz.underlying9 [] hz2;have hss:=yc [];have xZ:=hid (ahH.trans abx.symm);rw[abx]at abw;clear hz1 hz2 abx ahH;go_wp2_with fail
  all_goals (go_wp2_with fail;go_ret;first|exact⟨rfl,_,(FIN.out xZ.out).1,(FIN.out xZ.out).2⟩|exact⟨_,rfl,(FIN.out xZ.out).1,(FIN.out xZ.out).2⟩)
 have hkne:¬k=8+off:=by omega
 have hk3:8+off+nb-(8+off)=nb:=by omega
 have hk2:8+off+nb<=k:=by omega
 by_cases hbb:dM=bs
 case pos=>
  have hss:=yc bs;have yC:_:=dJ Tryz.underlying48 Tryz.underlying5 Tryz.underlying9 dM mO.out;unfold bY at yC;rw[if_neg hkne]at yC;simp only[Option.map_some,Addr.add_lit,Nat.zero_add,Nat.mul_one]at yC;rw[hbb]at yC;have xZ:=hid hbb;clear hbb;go_wp2_with fail
  all_goals (try go_wp2_with fail)
  go_ret
  first|exact⟨rfl,_,(FIN.out xZ.out).1,(FIN.out xZ.out).2⟩|exact⟨_,rfl,(FIN.out xZ.out).1,(FIN.out xZ.out).2⟩
 have hss:=Lc hbb;have apC:(dM==bs)=false:=by simpa using hbb
 have yC:_:=dJ Tryz.underlying48 Tryz.underlying5 Tryz.underlying9 dM mO.out;unfold bY at yC;rw[if_neg hkne]at yC;simp only[Option.map_some,Addr.add_lit,Nat.zero_add,Nat.mul_one]at yC;have Qs:=hid hbb;have IK:=hid (Nat.pos_of_ne_zero hnz);clear hbb hnz;go_upto_region 16 with (fail);rw[hk3];have adM:Reads 1 y2 (.slice (some ⟨g,8+off,none⟩) nb (k-(8+off))) nb (dM.map B):=by
  have:=mO.out;unfold bY at this;rw[if_neg hkne]at this;simpa only[Option.map_some,Addr.add_lit,Nat.zero_add,Nat.mul_one]using this
 have Cm:=hid adM;have be:Box y2 e.t [.int .i64 (id:Nat),.int .i64 (e.x.first:Nat),.int .i64 (e.x.last:Nat),e.vu]:=by rw[<-oD.out];exact(HS2.out.tx.at_ e (List.mem_of_getElem? lU.out)).box
 have hB:Below y2.heap.size y2 y2:=Below.refl _ _;clear adM yC abw hss apC;refine eP (Zl e id p off g k nb (y2.heap.size) ab cb dM bs) 15 Qm [some 72,some 73,some 74,some 75,some 76,some 77,some 78,some 79,some 80,some 81,some 82,some 83,some 84,some 85,some 15,none] [[],[],[1],[2],[3],[],[],[],[7],[8],[],[10],[11],[0,4,5,6,9,12],[]] [0,1,2,3,4,5,6,7,8,9,10,11,12,13,14] [] (by decide) (by kernel_rfl) (by kernel_rfl) rfl (iM e id p off g k nb (y2.heap.size) ab cb dM bs) (TT e id p off g k nb (y2.heap.size) ab cb dM bs) (Nb e id p off g k nb (y2.heap.size) ab cb dM bs) ?ahI ?_
 case ahI=>
  intro i hi o ho vs lo eX w' hg hp hdd;have hsz:=hg.size;have hgB:Below y2.heap.size y2 w':=hg.below (fun k hk=>⟨hk,fun o=>by rintro⟨j,_,_,_,hw⟩;exact False.elim hw⟩);replace hp:=fun j hj=>(hp j hj).2.2.2
  match i,hi with
  | 0,_|1,_|5,_|6,_|7,_|10,_|2,_|3,_|4,_=>
   cases ho;simp only[aA,iM]at hp
   first|simp only[ak,Act.put,aA,hp]|simp only[ak,Act.put,aA]
   try have e0:=(hg.cell (e.t) 2 be.lt (by rintro⟨j,_,hne,hb,hw⟩;exact False.elim hw)).trans (be.cell 2 _ rfl)
   go_wp2;exact⟨_,rfl,aB.refl _,rfl⟩
  | 8,_=>
   cases ho;simp only[ak,Act.put,aA];have h7:=hp 7 (by simp);simp only[iM]at h7;rw[h7];have hcall:=clone_any dM nb dP.out IK.out (by omega) _ w' (Cm.out.below hgB (Nat.le_refl _));have cO:=hid hcall;clear hcall;go_wp2_with fail;refine cO.out.mono ?_;rintro er wh ⟨g2,c2,rfl,hrd,hg2,hlt2,hbl⟩;go_wp2;exact⟨_,rfl,aB.bK ⟨hbl.os,hbl.tape,hbl.output,hbl.size,hbl.block⟩,g2,c2,rfl,hrd,Nat.le_trans hgB.size hg2,hlt2⟩
  | 9,_=>
   cases ho;simp only[ak,Act.put,aA];have h8:=hp 8 (by simp);simp only[iM]at h8;obtain⟨g2,c2,rE,yj,yt,h8d⟩:=h8;rw[rE];have hle:nb<=c2:=by obtain⟨_,_,e1,_,e3,_⟩:=yj;injection e1 with _ _ e4;omega
   go_wp2_with fail;refine(vW _ nb c2 w' hle).mono ?_;rintro er wh ⟨rfl,rfl⟩;go_wp2;exact⟨_,rfl,aB.refl _,g2,c2,rE,rfl⟩
  | 11,_=>
   cases ho;simp only[ak,Act.put,aA];have h10:=hp 10 (by simp);simp only[iM]at h10;rw[h10];have hcall:=clone_any bs nb tV.out IK.out (by omega) _ w' (l7.out.below hgB (Nat.le_refl _));have cO:=hid hcall;clear hcall;go_wp2_with fail;refine cO.out.mono ?_;rintro er wh ⟨g2,c2,rfl,hrd,hg2,hlt2,hbl⟩;go_wp2;exact⟨_,rfl,aB.bK ⟨hbl.os,hbl.tape,hbl.output,hbl.size,hbl.block⟩,g2,c2,rfl,hrd,Nat.le_trans hgB.size hg2,hlt2⟩
  | 12,_=>
   cases ho;simp only[ak,Act.put,aA];have h11:=hp 11 (by simp);simp only[iM]at h11;obtain⟨g2,c2,JX,Qu,aby,abz⟩:=h11;rw[JX];have hle:nb<=c2:=by obtain⟨_,_,e1,_,e3,_⟩:=Qu;injection e1 with _ _ e4;omega
   go_wp2_with fail;refine(vW _ nb c2 w' hle).mono ?_;rintro er wh ⟨rfl,rfl⟩;go_wp2;exact⟨_,rfl,aB.refl _,g2,c2,JX,rfl⟩
  | 13,_=>
   cases ho;simp only[ak,Act.put,aA];have h0:=hp 0 (by simp);have h4:=hp 4 (by simp);have h5:=hp 5 (by simp);have h6:=hp 6 (by simp);have h9:=hp 9 (by simp);have h12:=hp 12 (by simp);simp only[iM]at h0 h4 h5 h6 h9 h12;rw[h0,h4,h5,h6];obtain⟨g8,c8,h9a,Zb⟩:=h9;obtain⟨g11,c11,Bv,yx⟩:=h12;rw[Zb,yx];go_wp2;exact⟨_,rfl,aB.refl _,by simp only[iM];rw[Zb,yx]⟩
  | 14,_=>
   cases ho;simp only[ak,Act.put,aA];have hbl:=(Below.refl w'.heap.size w').alloc (Nat.le_refl _) (.cells #[.int .i64 0,.int .i64 0,.int .i64 0,.int .i64 0,.int .i64 0,.int .i64 0,.slice none 0 0,.slice none 0 0,.slice none 0 0,.slice none 0 0,.int .i64 0] 85);have hbn:=Box.new w' #[.int .i64 0,.int .i64 0,.int .i64 0,.int .i64 0,.int .i64 0,.int .i64 0,.slice none 0 0,.slice none 0 0,.slice none 0 0,.slice none 0 0,.int .i64 0] 85 rfl;go_wp2;exact⟨_,rfl,aB.bK ⟨hbl.os,hbl.tape,hbl.output,hbl.size,hbl.block⟩,_,rfl,hgB.size,hbn⟩
  | (q+15),hq=>exact absurd hq (by omega)
 intro vS lo hi z3 hg hp hd;have hP:=fun j hj=>(hp j hj).2.2.2;have h0:=hP 0 (by decide) (by decide);have h1:=hP 1 (by decide) (by decide);have h2:=hP 2 (by decide) (by decide);have h3:=hP 3 (by decide) (by decide);have h4:=hP 4 (by decide) (by decide);have h5:=hP 5 (by decide) (by decide);have h6:=hP 6 (by decide) (by decide);have h7:=hP 7 (by decide) (by decide);have h8:=hP 8 (by decide) (by decide);have h9:=hP 9 (by decide) (by decide);have h10:=hP 10 (by decide) (by decide);have h11:=hP 11 (by decide) (by decide);have h12:=hP 12 (by decide) (by decide);have h13:=hP 13 (by decide) (by decide);have dH:=hP 14 (by decide) (by decide);clear hP;simp only[iM]at h0 h1 h2 h3 h4 h5 h6 h7 h8 h9 h10 h11 h12 h13 dH;clear hp hd;have hsz:=hg.size;replace be:=be.grow hg (by intro i _;rintro⟨j,_,hw⟩;exact False.elim hw);replace hB:=hB.trans (hg.below (fun k hk=>⟨by omega,fun o=>by rintro⟨j,_,hw⟩;exact False.elim hw⟩));have hr:List.range 15=[0,1,2,3,4,5,6,7,8,9,10,11,12,13,14]:=rfl;rw[hr];clear hr;simp only[List.drop_succ_cons,List.drop_zero,List.drop_nil,ak,Act.put,aA,h0,h1,h2,h3,h4,h5,h6,h7,h10];clear h0 h1 h2 h3 h4 h5 h6 h7 h10;obtain⟨g8,c8,rE,yj,yt,h8d⟩:=h8;obtain⟨g11,c11,JX,Qu,aby,abz⟩:=h11;have h9v:vS 9=.slice (some ⟨g8,0,none⟩) nb nb:=by
  obtain⟨g',c',e1,e2⟩:=h9;rw[rE]at e1;injection e1 with e1 _ _;injection e1 with e1;injection e1 with e1 _ _;rw[e2,e1]
 have abA:vS 12=.slice (some ⟨g11,0,none⟩) nb nb:=by
  obtain⟨g',c',e1,e2⟩:=h12;rw[JX]at e1;injection e1 with e1 _ _;injection e1 with e1;injection e1 with e1 _ _;rw[e2,e1]
 obtain⟨g3,Ql,JU,mV⟩:=dH;rw[h9v,abA]at h13;rw[Ql,h13,abA,JX,h9v,rE];have HC8:=hid yj;have apD:=hid Qu;have FW:Hid (y2.heap.size<=g8/\g8<z3.heap.size):=hid ⟨yt,h8d⟩;have Qv:Hid (y2.heap.size<=g11/\g11<z3.heap.size):=hid ⟨aby,abz⟩;have wL:=hid JU;have HB3:=hid hB;have ahs:=hid mV;have ahL:Hid (g8≠g3/\g11≠g3):=hid (by
  have k0:=mV.cell 0 _ rfl;constructor
  ·rintro rfl;obtain⟨_,_,e1,_,_,hc⟩:=yj;injection e1 with e1 _ _;obtain⟨b',o',e2,_,hc⟩:=hc IK.out;rw[<-e1]at e2;injection e2 with e2;injection e2 with e2 e3 _;subst e2 e3;have hx:=hc 0 (B (dM[0]'(by have:=dP.out;have:=IK.out;omega))) (by rw[List.getElem?_map,List.getElem?_eq_getElem (by have:=dP.out;have:=IK.out;omega)];rfl);rw[Nat.zero_add,k0]at hx;cases hx
  ·rintro rfl;obtain⟨_,_,e1,_,_,hc⟩:=Qu;injection e1 with e1 _ _;obtain⟨b',o',e2,_,hc⟩:=hc IK.out;rw[<-e1]at e2;injection e2 with e2;injection e2 with e2 e3 _;subst e2 e3;have hx:=hc 0 (B (bs[0]'(by have:=tV.out;have:=IK.out;omega))) (by rw[List.getElem?_map,List.getElem?_eq_getElem (by have:=tV.out;have:=IK.out;omega)];rfl);rw[Nat.zero_add,k0]at hx;cases hx)
 have z0:=mV.cell 0 _ rfl;have z1:=mV.cell 1 _ rfl;have z2:=mV.cell 2 _ rfl;have z3':=mV.cell 3 _ rfl;have z4:=mV.cell 4 _ rfl;have z5:=mV.cell 5 _ rfl;have z6:=mV.cell 6 _ rfl;have z7:=mV.cell 7 _ rfl;have z8:=mV.cell 8 _ rfl;have z9:=mV.cell 9 _ rfl;have z10:=mV.cell 10 _ rfl;have Qw:=mV.free;have IL:=mV.lt;clear rE yj yt h8d h9 h9v JX Qu aby abz h12 abA h13 Ql JU mV hB hg hsz be;go_upto_region 17 with (fail);obtain⟨hp1,hp2⟩:=NG ahs.out (.int .i64 2) (.int .i64 (id:Nat)) (.int .i64 (e.x.last:Nat)) (.int .i64 0) (.int .i64 (p:Nat)) (.int .i64 (off:Nat)) (.slice (some ⟨g8,0,none⟩) nb nb) (.slice (some ⟨g11,0,none⟩) nb nb) (.slice none 0 0) (.slice none 0 0) (.int .i64 0);have kD:=hid hp1;have HP2:=hid hp2;clear z0 z1 z2 z3' z4 z5 z6 z7 z8 z9 z10 Qw IL hp1 hp2;generalize (((((((((((z3.setCell ⟨g3,0,none⟩ (.int .i64 2)).setCell ⟨g3,1,none⟩ (.int .i64 (id:Nat))).setCell ⟨g3,2,none⟩ (.int .i64 (e.x.last:Nat))).setCell ⟨g3,3,none⟩ (.int .i64 0)).setCell ⟨g3,4,none⟩ (.int .i64 (p:Nat))).setCell ⟨g3,5,none⟩ (.int .i64 (off:Nat))).setCell ⟨g3,6,none⟩ (.slice (some ⟨g8,0,none⟩) nb nb)).setCell ⟨g3,7,none⟩ (.slice (some ⟨g11,0,none⟩) nb nb)).setCell ⟨g3,8,none⟩ (.slice none 0 0)).setCell ⟨g3,9,none⟩ (.slice none 0 0)).setCell ⟨g3,10,none⟩ (.int .i64 0))=y4 at *;have U4:aj (fun k=>k=g3) y2 y4:=(lT HB3.out).trans HP2.out;have DR:Below y2.heap.size y2 y4:=U4.below (fun k hk=>⟨hk,fun h=>by have:=wL.out;omega⟩);have hs4:=HS2.out.below DR;have iD:=hid hs4;have HGY:=hid DR;have WH:z3.heap.size<=y4.heap.size:=HP2.out.size;have HR8:=hid (HC8.out.aH HP2.out (fun q e1 e2=>ahL.out.1 (by have e3:g8=q:=(by simpa[Value.ownBlock]using e1);rw[e3,e2])));have apE:=hid (apD.out.aH HP2.out (fun q e1 e2=>ahL.out.2 (by have e3:g11=q:=(by simpa[Value.ownBlock]using e1);rw[e3,e2])));have vO:=hid (l7.out.below DR (Nat.le_refl _))
 have alG:=hid (aI gZ.out U4 (fun q e1 e2=>by have e3:g=q:=(by simpa[Value.ownBlock]using e1);have h1:=gZ.out.lt q e1;have:=wL.out;omega));have ahM:=hid WH;have r0:=kD.out.cell 0 _ rfl;have r1:=kD.out.cell 1 _ rfl;have r2:=kD.out.cell 2 _ rfl;have r3:=kD.out.cell 3 _ rfl;have r4:=kD.out.cell 4 _ rfl;have r5:=kD.out.cell 5 _ rfl;have r6:=kD.out.cell 6 _ rfl;have r7:=kD.out.cell 7 _ rfl;have r8:=kD.out.cell 8 _ rfl;have r9:=kD.out.cell 9 _ rfl;have r10:=kD.out.cell 10 _ rfl;have yw:=kD.out.lt;have hsm:Rc.small ({ Rc.zero with kind:=2,aV:=id,prev:=e.x.last,page:=p,off:=off,before:=dM,after:=bs }:Rc):=⟨by show(2:Nat)<=_;omega,by show id<=_;omega,by show e.x.last<=_;omega,Nat.zero_le _,by show p<=_;have:=lN.out;have:=Qn.out;omega,by show off<=_;omega,Nat.zero_le _,by show dM.length<=_;have:=dP.out;omega,by show bs.length<=_;have:=tV.out;omega,rfl,rfl⟩
 have Ci:=hid hsm;have hsize:=uS (w:=y4) ({ Rc.zero with kind:=2,aV:=id,prev:=e.x.last,page:=p,off:=off,before:=dM,after:=bs }:Rc) (some ⟨g8,0,none⟩) (some ⟨g11,0,none⟩) nb nb nb nb hsm dP.out tV.out;have hrs:Rc.size ({ Rc.zero with kind:=2,aV:=id,prev:=e.x.last,page:=p,off:=off,before:=dM,after:=bs }:Rc)=96+nb+nb:=by show 96+dM.length+bs.length+24*0+16*0=_;have:=dP.out;have:=tV.out;omega
 rw[hrs]at hsize;have nP:=hid hrs;have Zm:Calls Tryz.prog 54 #[.agg #[.int .i64 2,.int .i64 (id:Nat),.int .i64 (e.x.last:Nat),.int .i64 0,.int .i64 (p:Nat),.int .i64 (off:Nat),.slice (some ⟨g8,0,none⟩) nb nb,.slice (some ⟨g11,0,none⟩) nb nb,.slice none 0 0,.slice none 0 0,.int .i64 0]] y4 fun e w'=>e=.returned (.int .i64 ((96+nb+nb:Nat):Int))/\Below y4.heap.size y4 w':=hsize;have NC:=hid Zm;clear hsm hsize Zm hrs U4 DR hs4 WH;go_wp2_with fail;refine NC.out.mono ?_;rintro er y5 ⟨rfl,hb5⟩;have xO:=hid hb5;clear hb5 r0 r1 r2 r3 r4 r5 r6 r7 r8 r9 r10 yw;go_wp2_with fail;refine(UY _ _ nb _ (by omega)).mono ?_;rintro er y6 ⟨rfl,hb6⟩;have Ai:Hid (Below y4.heap.size y4 y6):=hid (xO.out.trans (hb6.mono xO.out.size));have hroom:=UZ (iD.out.below Ai.out) (Nat.le_trans HN.out (by decide)) HR.out (fun e he u hq=>by have:=(HU.out e he).2 u hq;omega) (192+3*nb) (by
  have h1:=(σ.iV c p lN.out).2.R.room c.n;have:=HK.out;show 192+3*nb+2048+mQ EO<=(σ.get c p).2.2.io.R.room c.n;rw[h1];omega)
 rw[show(((192+3*nb:Nat):Int))=96+(nb:Int)+nb+(96+nb) by omega]at hroom;have Dw:=hid hroom;clear hb6 hroom;go_wp2_with fail;refine Dw.out.mono ?_;rintro er y7 ⟨rfl,hb7⟩;have jo:Hid (Below y4.heap.size y4 y7):=hid (Ai.out.trans (hb7.mono Ai.out.size));have uD:=kD.out.below jo.out (Nat.le_refl _);have r0:=uD.cell 0 _ rfl;have r1:=uD.cell 1 _ rfl;have r2:=uD.cell 2 _ rfl;have r3:=uD.cell 3 _ rfl;have r4:=uD.cell 4 _ rfl;have r5:=uD.cell 5 _ rfl;have r6:=uD.cell 6 _ rfl;have r7:=uD.cell 7 _ rfl;have r8:=uD.cell 8 _ rfl;have r9:=uD.cell 9 _ rfl;have r10:=uD.cell 10 _ rfl;have yw:=uD.lt;have hs7:=iD.out.below jo.out;have Cc:=hid hs7;have rF:=FW.out;have Qx:=Qv.out;have h7s:=jo.out.size;have h4s:=ahM.out;have h2s:=HS2.out.lt;have hRs:=(σ.iV c p lN.out).2.R;have jB:=IE hs7 ({ Rc.zero with kind:=2,aV:=id,prev:=e.x.last,page:=p,off:=off,before:=dM,after:=bs }:Rc) Ci.out (some ⟨g8,0,none⟩) (some ⟨g11,0,none⟩) nb nb nb nb dP.out tV.out (zC (HR8.out.below jo.out (Nat.le_refl _)) (Nat.le_refl _)) (zC (apE.out.below jo.out (Nat.le_refl _)) (Nat.le_refl _)) (by
   show _<=(σ.get c p).2.2.io.R.room c.n;rw[hRs.room c.n,nP.out];have:=HK.out;omega) (by
   show(σ.get c p).2.2.io.R.tail+_<=_;rw[hRs.tail,nP.out];have:=HT.out;omega) (Nat.le_trans HL.out (by decide))
  (fun q=>q=g8\/q=g11) (fun q e=>.inl (by have e3:g8=q:=(by simpa[Value.ownBlock]using e);exact e3.symm)) (fun q e=>.inr (by have e3:g11=q:=(by simpa[Value.ownBlock]using e);exact e3.symm))
  (fun q hq=>by have:=HS2.out.bel.size;rcases hq with rfl|rfl<;>omega)
  (fun q hq h1=>by have:=(h2s q (.inl h1)).2;rcases hq with rfl|rfl<;>omega) (fun q hq h1=>by have:=(h2s q (.inr (.inl h1))).2;rcases hq with rfl|rfl<;>omega) (fun q hq h1=>by have:=(h2s q (.inr (.inr (.inl h1)))).2;rcases hq with rfl|rfl<;>omega)
 have FQ:=hid jB;clear hb7 uD hs7 rF Qx h7s h4s h2s jB;go_wp2_with fail;refine FQ.out.mono ?_;rintro er y8 ⟨yD,S8,rfl,hs8,rF,vK,FX⟩;have l9:=hid hs8;have JY:=hid rF;have Aq:=hid vK;have HV8:=hid FX;have hT:(σ.get c p).2.2.io.R.tail=σ.io.R.tail:=hRs.tail;obtain⟨T,hTT⟩:∃x,(σ.get c p).2.2.io.R.tail=x:=⟨_,rfl⟩
 rw[hTT];have oG:=hid hTT;have IQ:Hid (T=σ.io.R.tail):=hid (by rw[<-hTT];exact hT);clear r0 r1 r2 r3 r4 r5 r6 r7 r8 r9 r10 yw hs8 rF vK FX hT hTT hRs;go_upto_region 23 with (fail);have hmem:=List.mem_of_getElem? lU.out;have hta:=l9.out.tx.at_ e hmem;have DT:=hid hta;have be:Box y8 e.t [.int .i64 (id:Nat),.int .i64 (e.x.first:Nat),.int .i64 (e.x.last:Nat),e.vu]:=by rw[<-oD.out];exact hta.box
 have h28:=HS2.out.lt;have abB:¬S2 g3/\¬dS vl g3:=⟨fun h=>by have:=(h28 _ (.inl h)).2;have:=wL.out;omega,fun h=>by have:=(h28 _ (.inr (.inl h))).2;have:=wL.out;omega⟩
 have bb:Box y8 g3 [.int .i64 2,.int .i64 (id:Nat),.int .i64 (e.x.last:Nat),.int .i64 0,.int .i64 (p:Nat),.int .i64 (off:Nat),.slice (some ⟨g8,0,none⟩) nb nb,.slice (some ⟨g11,0,none⟩) nb nb,.slice none 0 0,.slice none 0 0,.int .i64 0]:=(kD.out.below jo.out (Nat.le_refl _)).aH JY.out (fun h=>h.elim abB.1 abB.2);obtain⟨m,hmm⟩:∃x,e.EU.length=x:=⟨_,rfl⟩
 have hm2:m<=1000000:=by rw[<-hmm];exact(HU.out e hmem).1
 have hrow:=hta.row;rw[hmm]at hrow;have HEU:=hid hrow;have jP:=hid hmm;have hlv:∀q,e.vu.ownBlock=some q->q<y2.heap.size:=fun q e1=>((HS2.out.tx.at_ e hmem).row.lt q e1).2;have FY:e.vu.ownBlock≠some e.t:=fun e1=>hta.ne _ e1 rfl;have IU:e.vu.ownBlock≠some g3:=fun e1=>by have:=hlv _ e1;have:=wL.out;omega
 have WI:∀q,e.vu.ownBlock=some q->q<y8.heap.size:=fun q e1=>(hta.row.lt q e1).2;have hW0:W0.heap.size<=y8.heap.size:=l9.out.bel.size;have HLV:=hid hlv;have hB:Below 0 y8 y8:=Below.refl _ _;clear hmem hta h28 abB hrow hmm hlv;refine aQ (vX e id p off g g3 g8 g11 k nb T m (y8.heap.size) (W0.heap.size) ab cb) 19 [[],[],[1],[1,2],[1,2,3],[],[],[6],[6,7],[6,7,8],[],[],[],[12],[5,6,7,8,9,10,11,12,13],[5,6,7,8,9,10,11,12,13,14],[1,2,3,4,5,6,7,8,9,10,11,12,13,14,15],[0,1,2,3,4,5,6,7,8,9,10,11,12,13,14,15,16],[0,1,2,3,4,5,6,7,8,9,10,11,12,13,14,15,16,17]] [some 105,some 106,some 107,some 108,some 109,some 110,some 111,some 112,some 113,some 114,some 115,some 116,some 117,some 118,some 119,some 120,some 121,some 122,some 123,none] (by kernel_rfl) (by kernel_rfl) rfl (qo e id p off g g3 g8 g11 k nb T m (y8.heap.size) (W0.heap.size) ab cb) (Na e id p off g g3 g8 g11 k nb T m (y8.heap.size) (W0.heap.size) ab cb WI) ?ahN ?_
 case ahN=>
  intro i hi o ho vs lo eX w' hg hp;have hsz:=hg.size;replace hp:=fun j hj=>(hp j hj).2.2.2
  match i,hi with
  | 0,_|1,_|5,_|6,_|10,_|11,_|12,_|2,_|3,_|4,_|7,_|8,_|9,_|13,_|14,_|17,_|18,_=>
   cases ho;simp only[aA,qo]at hp
   first|simp only[ak,Act.put,aA,hp]|simp only[ak,Act.put,aA]
   try have e0:=(hg.cell (e.t) 3 be.lt (by rintro⟨j,_,hne,hb,hw⟩;simp only[vX]at hw;first|exact FY hw.2|exact IU hw.2)).trans (be.cell 3 _ rfl)
   try have e1:=(hg.cell (e.t) 2 be.lt (by rintro⟨j,_,hne,hb,hw⟩;simp only[vX]at hw;first|exact FY hw.2|exact IU hw.2)).trans (be.cell 2 _ rfl)
   try have e2:=(hg.cell (g3) 6 bb.lt (by rintro⟨j,_,hne,hb,hw⟩;simp only[vX]at hw;first|exact FY hw.2|exact IU hw.2)).trans (bb.cell 6 _ rfl)
   go_wp2;exact⟨_,rfl,aB.refl _,rfl⟩
  | 15,_=>
   cases ho;simp only[ak,Act.put,aA];have dH:=hp 14 (by simp);simp only[qo]at dH;rw[dH];have hbl:=(Below.refl w'.heap.size w').alloc (Nat.le_refl _) (.cells #[.int .i64 ((T+1:Nat):Int),.int .i64 (e.x.last:Nat),.int .i64 ((p:Nat):Int),.int .i64 ((off:Nat):Int),.slice (some ⟨g8,0,none⟩) nb nb] 114);go_wp2;exact⟨_,rfl,aB.bK ⟨hbl.os,hbl.tape,hbl.output,hbl.size,hbl.block⟩,_,rfl,hsz,Reads.lit rfl rfl (Nat.le_refl _) rfl⟩
  | 16,_=>
   cases ho;simp only[ak,Act.put,aA];have h4:=hp 4 (by simp);have h15:=hp 15 (by simp);simp only[qo]at h4 h15;rw[h4];obtain⟨g15,ahO,auy,ahP⟩:=h15;rw[ahO];rw[ahO]at ahP;have hgx:aj (fun _=>False) y8 w':=aj.aK hg (fun k o ⟨j,hj,hne,hb,hw⟩=>hne hw.1);have hown:=aI HEU.out hgx (fun _ _ h=>h);go_wp2_with (at_builtin;refine dU ahB (.tmp 109) (.tmp 120) rfl rfl rfl hown rfl ahP (by intro u hu;simp at hu;rcases hu with rfl|rfl|rfl|rfl|rfl<;>rfl) (by omega) (by omega) (by omega) ?_;intro ob cq wq ho2 hg2 hn2);exact⟨_,rfl,hg2.mono (fun b o h=>⟨rfl,h⟩),ob,cq,rfl,ho2,fun q e5=>(hn2 q e5).imp (fun h=>h) (fun h=>by omega)⟩
  | (q+19),hq=>exact absurd hq (by omega)
 intro vS lo hi z5 hg hp hd;have hP:=fun j hj=>(hp j hj).2.2.2;have h0:=hP 0 (by decide);have h1:=hP 1 (by decide);have h2:=hP 2 (by decide);have h3:=hP 3 (by decide);have h4:=hP 4 (by decide);have h5:=hP 5 (by decide);have h6:=hP 6 (by decide);have h7:=hP 7 (by decide);have h8:=hP 8 (by decide);have h9:=hP 9 (by decide);have h10:=hP 10 (by decide);have h11:=hP 11 (by decide);have h12:=hP 12 (by decide);have h13:=hP 13 (by decide);have dH:=hP 14 (by decide);have h15:=hP 15 (by decide);have h16:=hP 16 (by decide);have h17:=hP 17 (by decide);have h18:=hP 18 (by decide);clear hP;simp only[qo]at h0 h1 h2 h3 h4 h5 h6 h7 h8 h9 h10 h11 h12 h13 dH h15 h16 h17 h18;clear hp hd;have hsz:=hg.size;have jX:Hid (aj (fun b=>e.vu.ownBlock=some b) y8 z5):=hid (aj.aK hg (fun k o ⟨j,_,hw⟩=>hw.2));replace be:=be.grow hg (by intro i _;rintro⟨j,_,hw⟩;simp only[vX]at hw;first|exact FY hw.2|exact IU hw.2|(have:=WI _ hw.2;omega));replace bb:=bb.grow hg (by intro i _;rintro⟨j,_,hw⟩;simp only[vX]at hw;first|exact FY hw.2|exact IU hw.2|(have:=WI _ hw.2;omega));replace hB:=hB.trans (hg.below (fun k hk=>⟨by omega,fun o=>by rintro⟨j,_,hw⟩;simp only[vX]at hw;first|exact FY hw.2|exact IU hw.2|(have:=WI _ hw.2;omega)⟩));have hr:List.range 19=[0,1,2,3,4,5,6,7,8,9,10,11,12,13,14,15,16,17,18]:=rfl;rw[hr];clear hr;simp only[List.drop_succ_cons,List.drop_zero,List.drop_nil,ak,Act.put,aA,h0,h1,h2,h3,h4,h5,h6,h7,h8,h9,h10,h11,h12,h13,dH,h17,h18];clear h0 h1 h2 h3 h4 h5 h6 h7 h8 h9 h10 h11 h12 h13 dH h17 h18;obtain⟨ov,kv,Qy,WJ,G6⟩:=h16;rw[Qy];have apF:=hid WJ;have Qz:=hid G6;have c3:=be.cell 3 _ rfl;have cfz:=be.free;have bU:=be.lt;have rH:=hid be;have xZ:=hid bb;clear Qy WJ G6 h15 hB hg be bb;go_upto_region 24 with (fail);have Lm:Box (z5.setCell ⟨e.t,3,none⟩ (.slice ov (m+1) kv)) e.t [.int .i64 (id:Nat),.int .i64 (e.x.first:Nat),.int .i64 (e.x.last:Nat),.slice ov (m+1) kv]:=rH.out.setCell 3 (.slice ov (m+1) kv)
 have Ar:aj e.fp y8 (z5.setCell ⟨e.t,3,none⟩ (.slice ov (m+1) kv)):=(jX.out.mono (fun k h=>.inr h)).trans ((aF z5 e.t 3 (.slice ov (m+1) kv)).mono (fun k h=>.inl h));have ho6:=aI apF.out (aF z5 e.t 3 (.slice ov (m+1) kv)) (fun q e1 e2=>(Qz.out q e1).elim (fun h=>FY (e2▸h)) (fun h=>by have:=DT.out.box.lt;omega));have xK:=hid Ar;have UM:=hid ho6;clear c3 cfz bU Ar ho6;generalize z5.setCell ⟨e.t,3,none⟩ (.slice ov (m+1) kv)=z6 at *;have JZ:=hid Lm;have c2:=Lm.cell 2 _ rfl;have cfz:=Lm.free;have bU:=Lm.lt;clear Lm;go_upto_region 25 with (fail);have Zn:Box (z6.setCell ⟨e.t,2,none⟩ (.int .i64 ((T+1:Nat):Int))) e.t [.int .i64 (id:Nat),.int .i64 (e.x.first:Nat),.int .i64 ((T+1:Nat):Int),.slice ov (m+1) kv]:=JZ.out.setCell 2 (.int .i64 ((T+1:Nat):Int));have tX:aj e.fp y8 (z6.setCell ⟨e.t,2,none⟩ (.int .i64 ((T+1:Nat):Int))):=xK.out.trans ((aF z6 e.t 2 _).mono (fun k h=>.inl h));have Zi:=aI UM.out (aF z6 e.t 2 (.int .i64 ((T+1:Nat):Int))) (fun q e1 e2=>(Qz.out q e1).elim (fun h=>FY (e2▸h)) (fun h=>by have:=DT.out.box.lt;omega));have wQ:=hid tX;have HO7:=hid Zi;have apG:=hid Zn;clear c2 cfz bU tX Zi Zn;rw[show(Value.int .i64 ((T:Int)+1))=Value.int .i64 ((T+1:Nat):Int)from rfl];generalize z6.setCell ⟨e.t,2,none⟩ (.int .i64 ((T+1:Nat):Int))=z7 at *;have hmem:=List.mem_of_getElem? lU.out;have abC:∀k,e.fp k->k<y1.heap.size:=fun k hk=>(gY.out.tx.lt k (.inr ⟨e,hmem,hk⟩)).2;have htx:yg W0 z7 (⟨e.t,{ e.x with l:=e.x.l++[⟨T+1,e.x.last,p,off,dM⟩],last:=T+1 },.slice ov (m+1) kv,e.EU++[(⟨T+1,e.x.last,p,off,dM⟩,.slice (some ⟨g8,0,none⟩) nb nb)]⟩:Te) (fun k=>K k\/(k=g8\/k=g11)):=by
  have rF:=FW.out;have hl12:=HB2.out.grow.size;have n8:¬e.fp g8:=fun h=>by have:=abC _ h;omega
  have r8:Reads 1 z7 (.slice (some ⟨g8,0,none⟩) nb nb) nb (dM.map B):=zC ((((HR8.out.below jo.out (Nat.le_refl _)).aH JY.out (fun q e1 h1=>by
   have e3:g8=q:=(by simpa[Value.ownBlock]using e1)
   subst e3;rcases h1 with h1|h1
   ·have:=(HS2.out.lt _ (.inl h1)).2;omega
   ·have:=(HS2.out.lt _ (.inr (.inl h1))).2;omega))).aH wQ.out (fun q e1 h1=>by
   have e3:g8=q:=(by simpa[Value.ownBlock]using e1)
   subst e3;exact n8 h1)) (Nat.le_refl _)
  refine⟨?_,?_,?_,?_,DT.out.gt,?_⟩
  ·show Box z7 e.t [.int .i64 (e.x.id:Nat),.int .i64 (e.x.first:Nat),.int .i64 ((T+1:Nat):Int),.slice ov (m+1) kv];rw[oD.out];exact apG.out
  ·show z7.ownsRow W0.heap.size _ 5 (.slice ov (m+1) kv) (e.EU++[_]).length (sG (e.EU++[_]));rw[List.length_append,jP.out,MX];exact HO7.out
  ·have hup:=DT.out.ups;simp only[List.map_append,<-hup];rfl
  ·intro u hq;rcases List.mem_append.1 hq with hq|hq
   ·exact(DT.out.tb u hq).grow wQ.out (fun k hk h=>l9.out.k3 k hk (.inr ⟨e,hmem,h⟩))
   ·obtain rfl:=List.mem_singleton.1 hq;exact⟨by rw[show(dM:List UInt8).length=nb from dP.out];exact r8,fun q e1=>.inr (.inl (by have e3:g8=q:=(by simpa[Value.ownBlock]using e1);exact e3.symm))⟩
  ·intro q e1 e2;rcases Qz.out q e1 with h|h
   ·exact DT.out.ne q h e2
   ·have:=DT.out.box.lt;have e3:q=e.t:=e2;omega
 have hnew:∀k,bZ vo (EO.set i (⟨e.t,{ e.x with l:=e.x.l++[⟨T+1,e.x.last,p,off,dM⟩],last:=T+1 },.slice ov (m+1) kv,e.EU++[(⟨T+1,e.x.last,p,off,dM⟩,.slice (some ⟨g8,0,none⟩) nb nb)]⟩:Te)) k->bZ vo EO k\/y8.heap.size<=k:=by
  intro k hk;rcases hk.set with hk|hk
  ·exact .inl hk
  ·rcases hk with hk|hk
   ·exact .inl (.inr ⟨e,hmem,.inl hk⟩)
   ·exact(Qz.out k hk).imp (fun h=>.inr ⟨e,hmem,.inr h⟩) (fun h=>h)
 have hs9:=l9.out.txs wQ.out (fun k hk=>.inl (.inr ⟨e,hmem,hk⟩)) (l9.out.tx.setAt lU.out wQ.out (fun k hk h=>l9.out.k3 k hk (.inr ⟨e,hmem,h⟩)) htx rfl Qz.out) hnew;have pW:=hid hs9;have uF:=hid hnew;have ng:¬S2 g/\¬dS vl g/\¬e.fp g:=⟨FK.out,fun h=>by have:=(gY.out.lt g (.inr (.inl h))).2;have:=lD.out;omega,fun h=>by have:=abC g h;have:=lD.out;omega⟩
 have hro:=aI (aI (aI alG.out (aC jo.out) (fun _ _ h=>h)) JY.out (fun q e1 h1=>by have e3:g=q:=(by simpa[Value.ownBlock]using e1);subst e3;exact h1.elim ng.1 ng.2.1)) wQ.out (fun q e1 h1=>by have e3:g=q:=(by simpa[Value.ownBlock]using e1);subst e3;exact ng.2.2 h1);have apH:=hid hro;have hv7:Reads 1 z7 (.slice ab nb cb) nb (bs.map B):=((vO.out.below jo.out (Nat.le_refl _)).aH JY.out (fun q e1 h1=>by
  have h2:=WG.out q e1;have h3:=HB1.out.size;rcases h1 with h1|h1
  ·exact(HF2.out.new q h1).elim (fun h=>h2.1 (.inl h)) (fun h=>by omega)
  ·exact h2.1 (.inr (.inl h1)))).aH wQ.out (fun q e1 h1=>(WG.out q e1).1 (.inr (.inr (.inl (.inr ⟨e,hmem,h1⟩)))))
 have HV7:=hid hv7;have QA:Hid (T+1<=1099511627776):=hid (by have:=IQ.out;have:=HT.out;omega);clear htx hnew hs9 ng hro hv7 hmem abC;go_wp2_with fail;refine(rC _ (T+1) (by have:=QA.out;omega)).mono ?_;rintro er y9 ⟨g9,rfl,IV,pK,abD⟩;have abE:=hid abD;have alH:=hid (aI apH.out (aC abD) (fun _ _ h=>h));have apI:Hid (Reads 1 y9 (.slice (some ⟨g9,0,none⟩) 8 8) 8 ((aJ (T+1)).map B)):=hid (Reads.aY (IV.own (base:=0) (dL _) (Nat.zero_le _) (by decide)));have hge:∀q,(Value.slice (some ⟨g,0,none⟩) 512 k).ownBlock=some q->q=g:=fun q e=>by have e2:g=q:=(by simpa[Value.ownBlock]using e);exact e2.symm
 have ru:=hid hge;clear IV pK abD hge;go_wp2_with (with_reducible refine uz rfl (.tmp 128) (.tmp 130) rfl alH.out (Nat.zero_le 512) (some ⟨g,0,none⟩) k ?p1 ?p2 ?p3 apI.out ?p4)
 case p1=>rfl
 case p2=>
  intro _ g' e;rw[ru.out g' e]
 case p3=>rfl
 intro IW kk Zo WL;have apJ:=hid Zo;have alI:=hid WL;have apK:Hid (Reads 1 IW (.slice ab nb cb) nb (bs.map B)):=hid ((HV7.out.below abE.out (Nat.le_refl _)).aH WL (fun q e1 e2=>by have:=ru.out q e2;have:=lD.out;have:=(WG.out q e1).2;have:=HB1.out.size;omega));have apL:8+off+nb<=512:=by have:=Qo.out;omega
 clear Zo WL;go_wp2_with (with_reducible refine JW rfl (.tmp 132) (.tmp 133) rfl apJ.out apL IK.out (some ⟨g,8+off,none⟩) (k-(8+off)) ?q1 ?q2 ?q3 apK.out ?q4)
 case q1=>rfl
 case q2=>
  intro g' e;rw[ru.out g' e]
 case q3=>rfl
 intro CB kk IX adS;have hgg:aj (fun b=>b=g) y9 CB:=(alI.out.trans adS).mono (fun b e=>ru.out _ e);have hs9:=pW.out.below abE.out;have pI:¬aO S8 yD vo (EO.set i (⟨e.t,{ e.x with l:=e.x.l++[⟨T+1,e.x.last,p,off,dM⟩],last:=T+1 },.slice ov (m+1) kv,e.EU++[(⟨T+1,e.x.last,p,off,dM⟩,.slice (some ⟨g8,0,none⟩) nb nb)]⟩:Te)) (fun k=>K k\/(k=g8\/k=g11)) g:=by
  have h1:=gY.out.lt;have h2:=lD.out;have h3:=gZ.out.lt g rfl;have h4:=jo.out.size;have h5:=ahM.out;have h6:=FW.out;have h7:=Qv.out;have h8:=HB3.out.size;rintro(h|h|h|h)
  ·rcases Aq.out g h with h|h
   ·exact FK.out h
   ·omega
  ·rcases HV8.out g h with h|h
   ·have:=(h1 g (.inr (.inl h))).2;omega
   ·omega
  ·rcases uF.out g h with h|h
   ·have:=(h1 g (.inr (.inr (.inl h)))).2;omega
   ·have:=JY.out.size;omega
  ·rcases h with h|h|h
   ·have:=(h1 g (.inr (.inr (.inr h)))).2;omega
   ·omega
   ·omega
 have hw0:W0.heap.size<=g:=by have:=gY.out.bel.size;have:=lD.out;omega
 have IY:=hs9.own hgg pI hw0;have DU:=hid IY;have auz:=hid IX;have alJ:=hid hgg;have c3:=IY.bC.cell 3 _ rfl;have bU:=IY.bC.lt;have hlx:(aX (aX yA 0 (aJ (T+1))) (8+off) bs).length=512:=by have:=IX.1;rw[List.length_map]at this;omega
 have hput:=UQ IY p lN.out _ hlx (T+1) (by omega) _ (Reads.aY IX) (fun q e1 h1=>pI (.inl (by rw[ru.out q e1]at h1;exact h1))) (by
  show(σ.get c p).2.2.p.wr+1<=_;have:=((σ.iV c p lN.out).2).wr;have:=nK.out;omega)
 have HPU:=hid hput;clear IX adS hgg hs9 pI hw0 IY hlx hput;go_wp2_with fail;refine HPU.out.mono ?_;rintro er zD ⟨FZ,rfl,yE,ahQ⟩;have abG:=hid yE;have apM:=hid ahQ;have htold:=PU yE 0 (.inl rfl);have HTO:=hid htold;clear yE ahQ htold c3 bU;go_wp2_with fail;refine HTO.out.mono ?_;rintro er y13 ⟨S13,rfl,QB,ahR⟩;have apN:=hid QB;have abH:=hid ahR;clear QB ahR;go_wp2_with fail;go_ret;have hmem:=List.mem_of_getElem? lU.out;have F1:aG (aO S1 vl vo EO K) (aO S2 vl vo EO K) w y2:=(aG.below (aC HB1.out)).trans (iY HF2.out);have F2:aG (aO S2 vl vo EO K) (aO S8 yD vo EO (fun k=>K k\/(k=g8\/k=g11))) y2 y8:=by
  have h4:=jo.out.size;have h5:=HGY.out.size;have h6:=FW.out;have h7:=Qv.out;refine fQ ((lT HGY.out).trans ((lT jo.out).trans (JY.out.mono (fun k h=>h.elim .inl (fun h=>.inr (.inl h)))))) (fun k h=>(Aq.out k h).imp (fun h=>h) (fun h=>by omega)) (fun k h=>(HV8.out k h).imp (fun h=>h) (fun h=>by omega)) (fun k h=>.inl h) (fun k h=>?_);rcases h with h|h|h
  ·exact .inl h
  ·exact .inr (by omega)
  ·exact .inr (by omega)
 have F3:aG (aO S8 yD vo EO (fun k=>K k\/(k=g8\/k=g11))) (aO S8 yD vo (EO.set i (⟨e.t,{ e.x with l:=e.x.l++[⟨T+1,e.x.last,p,off,dM⟩],last:=T+1 },.slice ov (m+1) kv,e.EU++[(⟨T+1,e.x.last,p,off,dM⟩,.slice (some ⟨g8,0,none⟩) nb nb)]⟩:Te)) (fun k=>K k\/(k=g8\/k=g11))) y8 z7:=fQ (wQ.out.mono (fun k h=>.inr (.inr (.inl (.inr ⟨e,hmem,h⟩))))) (fun k h=>.inl h) (fun k h=>.inl h) uF.out (fun k h=>.inl h);have F4:aG (aO S1 vl vo EO K) (aO S8 yD vo (EO.set i (⟨e.t,{ e.x with l:=e.x.l++[⟨T+1,e.x.last,p,off,dM⟩],last:=T+1 },.slice ov (m+1) kv,e.EU++[(⟨T+1,e.x.last,p,off,dM⟩,.slice (some ⟨g8,0,none⟩) nb nb)]⟩:Te)) (fun k=>K k\/(k=g8\/k=g11))) w CB:=(F1.trans (F2.trans (F3.trans (aG.below (aC abE.out))))).fin alJ.out (fun k h=>.inr (by subst h;have:=lD.out;have:=HB1.out.size;omega)) (fun k h=>.inl h);have e1:=GZ σ c i e.x p off bs lN.out dM (by rw[HPB.out,tV.out];exact ahG.out) Qs.out (by
  have h1:=(σ.iV c p lN.out).2.R.room c.n;rw[h1];have h2:=nP.out;rw[<-oD.out]at h2;rw[h2];have:=HK.out;omega)
 rw[oD.out,oG.out,HPB.out]at e1;have e2:(EO.set i (⟨e.t,{ e.x with l:=e.x.l++[⟨T+1,e.x.last,p,off,dM⟩],last:=T+1 },.slice ov (m+1) kv,e.EU++[(⟨T+1,e.x.last,p,off,dM⟩,.slice (some ⟨g8,0,none⟩) nb nb)]⟩:Te)).map (·.x)=(σ.get c p).2.2.opn.set i ⟨id,e.x.first,T+1,e.x.l++[⟨T+1,e.x.last,p,off,dM⟩]⟩:=by rw[List.map_set,<-HS2.out.wP,<-oD.out]
 have e3:=apN.out;rw[e2]at e3
 try rw[oG.out]at e3
 have e4:=congrArg (fun z=>z.2) e1;simp only[]at e4;rw[<-e4]at e3;have F5:=F4.trans ((iY apM.out).trans (iY abH.out))
 first|exact⟨_,rfl,⟨_,_,_,_,_,_,e3,rfl⟩,F5⟩|exact⟨rfl,_,⟨_,_,_,_,_,_,e3,rfl⟩,F5⟩
end
end
section
open Go.RowKit
section
variable{W0 w w':World}{A:bG}{c:Cf}{σ:St}{S:Nat->Prop}{vl vo:Value}{EL:List Le}{EO:List Te}{K S1:Nat->Prop}{X:Nat->Prop}
def St.bytes(σ:St)(c:Cf)(p off n:Nat):List UInt8:=(((σ.get c p).2.1.drop (8+off)).take n)
theorem aP.other{w2:World}(h:aP W0 w A c σ vl vo EL EO K S1)(hg:aj X w w2)(hX:∀k,X k->w.heap.size<=k):aP W0 w2 A c σ vl vo EL EO K S1:=
 h.below (hg.below (fun k hk=>⟨hk,fun hx=>by have:=hX k hx;omega⟩))
theorem abI(h:aP W0 w A c σ vl vo EL EO K S1)(p off n:Nat)(hpg:p<c.pg)(hoff:off+n<=504)(hpp:c.pg<=1099511627776)(hwr:σ.p.wr+1<=1000000000):
  Calls Tryz.prog 38 #[.pointer (some ⟨A.sb,0,none⟩),.int .i64 (p:Nat),.int .i64 (off:Nat),.int .i64 (n:Nat)] w fun er w'=>∃v S',er=.returned (.tuple #[v,.int .i64 0])/\w'.ownsRow w.heap.size 5 1 v n ((σ.bytes c p off n).map B)/\(σ.bytes c p off n).length=n/\(∀q,v.ownBlock=some q->¬S' q)/\
   SV W0 A c (σ.get c p).2.2 S' w'/\aG (aO S1 vl vo EO K) S' w w':=by
 have HS:=hid h;have lN:=hid hpg;have Qn:=hid hpp;have Qo:=hid hoff;have c9:=h.bC.cell 9 _ rfl;have c3:=h.bC.cell 3 _ rfl;have bU:=h.bC.lt;have oH:=DJ h (p:Int) (off:Int) (n:Int);rw[decide_eq_true (show _ from⟨by omega,by omega,by omega,by omega,by omega,by omega⟩)]at oH;have Ll:=hid oH;have hget:=xC h p hpg hwr;have HG:=hid hget;clear h hpg hpp hwr oH hget;go_enter Tryz.func38,Tryz.ntmps38;go_wp2_with fail;refine Ll.out.mono ?_;rintro er y0 ⟨rfl,hy⟩;obtain rfl:w=y0:=hy.symm;clear Ll;go_wp2_with fail;refine HG.out.mono ?_;rintro er y2 ⟨g,k,S2,rfl,hrow,hgg,hkk,pI,hs2,hf2⟩;obtain⟨yA,yB⟩:∃x,(σ.get c p).2.1=x:=⟨_,rfl⟩
 have ahS:Hid (σ.bytes c p off n=(yA.drop (8+off)).take n):=hid (by unfold St.bytes;rw[yB]);rw[yB]at hrow;have hpl:yA.length=512:=by have:=hrow.1;rw[List.length_map]at this;omega
 have qU:Hid (((yA.drop (8+off)).take n).length=n):=hid (by rw[List.length_take,List.length_drop,hpl];omega);have hcut:=(Reads.aY hrow).bY (8+off) (8+off+n) (by omega) (by omega);have hk3:8+off+n-(8+off)=n:=by omega
 rw[hk3]at hcut;have hcx:(((yA.map B).drop ((8+off)*1)).take (n*1))=((yA.drop (8+off)).take n).map B:=by rw[List.map_take,List.map_drop,Nat.mul_one,Nat.mul_one]
 rw[hcx]at hcut;have fin:∀(v:Value)(y3:World),aj (fun b=>y2.heap.size<=b) y2 y3->y3.ownsRow y2.heap.size 5 1 v n (((yA.drop (8+off)).take n).map B)->
   y3.ownsRow w.heap.size 5 1 v n ((σ.bytes c p off n).map B)/\(σ.bytes c p off n).length=n/\(∀q,v.ownBlock=some q->¬aO S2 vl vo EO K q)/\SV W0 A c (σ.get c p).2.2 (aO S2 vl vo EO K) y3/\aG (aO S1 vl vo EO K) (aO S2 vl vo EO K) w y3:=by
  intro v y3 hg ho;have hb:Below y2.heap.size y2 y3:=hg.below (fun k hk=>⟨hk,fun h=>by omega⟩);refine⟨by rw[ahS.out];exact own_base ho hf2.grow.size,by rw[ahS.out];exact qU.out,fun q e hq=>?_,⟨vl,vo,EL,EO,K,S2,hs2.below hb,rfl⟩,(iY hf2).trans (aG.below (aC hb))⟩;have h1:=(hs2.lt q hq).2;have h2:=(ho.lt q e).1;omega
 have FIN:=hid fin;have mO:=hid hcut;have HKK:=hid hkk;have hkb:8+off+n<=k:=by omega
 clear hrow hgg pI hs2 hf2 hpl hcut hcx fin yB c3 c9 bU HG;by_cases hnz:n=0
 case pos=>
  subst hnz;have hz1:Reads 1 y2 (.slice (some ⟨g,0,none⟩) 0 0) 0 []:=⟨_,_,rfl,rfl,Nat.le_refl _,fun h=>absurd h (by omega)⟩
  have hz2:Reads 1 y2 (.slice (some ⟨g,8+off,none⟩) 0 (k-(8+off))) 0 []:=⟨_,_,rfl,rfl,Nat.zero_le _,fun h=>absurd h (by omega)⟩
  have HZ1:=hid hz1;have HZ2:=hid hz2;have Zp:=FIN.out (.slice none 0 0) y2 (aj.refl _) (by rw[List.take_zero];exact World.ownsRow_nil _ _ _ _);have wR:=hid Zp;clear hz1 hz2 Zp;go_wp2_with fail
  all_goals (go_ret2;first|exact⟨_,rfl,_,(wR.out).1,(wR.out).2.1,(wR.out).2.2.1,(wR.out).2.2.2.1,(wR.out).2.2.2.2⟩|exact⟨_,_,rfl,(wR.out).1,(wR.out).2.1,(wR.out).2.2.1,(wR.out).2.2.2.1,(wR.out).2.2.2.2⟩)
 have hkne:¬k=8+off:=by have:=HKK.out;have:=Qo.out;omega
 have hcp:Reads 1 y2 (.slice (some ⟨g,8+off,none⟩) n (k-(8+off))) n (((yA.drop (8+off)).take n).map B):=by
  have:=mO.out;unfold bY at this;rw[if_neg hkne]at this;simpa only[Option.map_some,Addr.add_lit,Nat.zero_add,Nat.mul_one]using this
 have hcp2:Reads 1 y2 (.slice (some ⟨g,8+off,none⟩) (8+off+n-(8+off)) (k-(8+off))) n (((yA.drop (8+off)).take n).map B):=by rw[hk3];exact hcp
 have Cm:=hid hcp2;clear hcp hcp2;have aua:off+n<=504:=Qo.out;go_wp2_with (at_builtin;refine dU (base:=y2.heap.size) bytesOf (.const (.slice none 0 0)) (.tmp 43) rfl rfl rfl (World.ownsRow_nil _ _ _ _) rfl Cm.out (eU _) (by omega) (by omega) (Nat.le_refl _) ?_;intro ob cq wq ho2 hg2 hn2;have HX:=hid (And.intro ho2 (And.intro hg2 hn2));clear ho2 hg2 hn2);obtain⟨ho2,hg2,hn2⟩:=HX.out;have hgx:aj (fun b=>y2.heap.size<=b) y2 wq:=aj.aK hg2 (fun k o e=>by cases e);rw[List.nil_append,Nat.zero_add]at ho2;have Zp:=FIN.out _ wq hgx ho2;have wR:=hid Zp;clear HX ho2 hg2 hn2 hgx Zp;go_ret2;exact⟨_,_,rfl,wR.out.1,wR.out.2.1,wR.out.2.2.1,wR.out.2.2.2.1,wR.out.2.2.2.2⟩
end
end
section
open Go.RowKit
def o9(A:bG)(e:Te)(t5 kd:Nat)(j b o:Nat):Prop:=(j=9/\b=t5/\o=1)\/(j=11/\b=t5/\o=2)
def xu(A:bG)(e:Te)(t5 kd:Nat)(i:Nat)(v:Value)(lo hi:Nat)(w:World):Prop:=
 match i with
 | 0=>v=.pointer (some ⟨e.t,0,none⟩)
 | 1=>v=.pointer (some ⟨e.t,0,none⟩)
 | 2=>v=.pointer (some ⟨e.t,0,none⟩)
 | 3=>v=.int .i64 (e.x.id:Nat)
 | 4=>v=.pointer (some ⟨e.t,0,none⟩)
 | 5=>v=.pointer (some ⟨e.t,0,none⟩)
 | 6=>v=.pointer (some ⟨e.t,2,none⟩)
 | 7=>v=.int .i64 (e.x.last:Nat)
 | 8=>v=.pointer (some ⟨t5,1,none⟩)
 | 9=>t5<w.heap.size/\w.cell? ⟨t5,1,none⟩=some (.int .i64 (e.x.id:Nat))
 | 10=>v=.pointer (some ⟨t5,2,none⟩)
 | 11=>t5<w.heap.size/\w.cell? ⟨t5,2,none⟩=some (.int .i64 (e.x.last:Nat))
 | _=>True
theorem QC(A:bG)(e:Te)(t5 kd:Nat)  : ∀i j,i<12->j<12->j≠i->j∉([[],[0],[0,1],[0,1,2],[],[4],[4,5],[4,5,6],[0,1,2,3],[0,1,2,3,8],[0,1,2,3,4,5,6,7,8,9],[0,1,2,3,4,5,6,7,8,9,10]]:List (List Nat)).getD i []->∀v lo hi w w',xu A e t5 kd i v lo hi w->aB (o9 A e t5 kd j) w w'->xu A e t5 kd i v lo hi w':=by
 intro i j hi hj hne hbs v lo hj2 w w' h hg
 match i,hi with
 | 0,_|1,_|2,_|3,_|4,_|5,_|6,_|7,_|8,_|10,_=>
  simp only[xu]at h⊢;exact h
 | 9,_|11,_=>
  simp only[xu]at h⊢;obtain⟨h0,h1⟩:=h;exact⟨Nat.lt_of_lt_of_le h0 hg.size,(hg.cell _ _ h0 (by simp only[o9];omega)).trans h1⟩
 | (q+12),hq=>exact absurd hq (by omega)
section
variable{W0 w w' w2:World}{A:bG}{c:Cf}{σ:St}{S:Nat->Prop}{vl vo:Value}{EL:List Le}{EO:List Te}{K S1:Nat->Prop}{X:Nat->Prop}
theorem aP.setLast(h:aP W0 w A c σ vl vo EL EO K S1){i:Nat}{e:Te}(jI:EO[i]? = some e)(l:Nat):
  aP W0 (w.setCell ⟨e.t,2,none⟩ (.int .i64 (l:Nat))) A c { σ with opn:=σ.opn.set i { e.x with last:=l } } vl vo EL (EO.set i ⟨e.t,{ e.x with last:=l },e.vu,e.EU⟩) K S1/\
  aG (aO S1 vl vo EO K) (aO S1 vl vo (EO.set i ⟨e.t,{ e.x with last:=l },e.vu,e.EU⟩) K) w (w.setCell ⟨e.t,2,none⟩ (.int .i64 (l:Nat))):=by
 have hmem:=List.mem_of_getElem? jI;have hta:=h.tx.at_ e hmem;have hg:=aF w e.t 2 (.int .i64 (l:Nat));have hgf:aj e.fp w (w.setCell ⟨e.t,2,none⟩ (.int .i64 (l:Nat))):=hg.mono (fun k e2=>.inl e2);have htx:yg W0 (w.setCell ⟨e.t,2,none⟩ (.int .i64 (l:Nat))) (⟨e.t,{ e.x with last:=l },e.vu,e.EU⟩:Te) K:=
  ⟨hta.box.setCell 2 (.int .i64 (l:Nat)),aI hta.row hg (fun q e1 e2=>hta.ne q e1 e2),hta.ups,fun u hu=>(hta.tb u hu).grow hg (fun k hk e2=>h.k3 k hk (.inr ⟨e,hmem,.inl e2⟩)),hta.gt,hta.ne⟩
 have hnew:∀k,bZ vo (EO.set i (⟨e.t,{ e.x with last:=l },e.vu,e.EU⟩:Te)) k->bZ vo EO k\/w.heap.size<=k:=by
  intro k hk;rcases hk.set with hk|hk
  ·exact .inl hk
  ·exact .inl (.inr ⟨e,hmem,hk⟩)
 have h1:=h.txs hgf (fun k hk=>.inl (.inr ⟨e,hmem,hk⟩)) (h.tx.setAt jI hgf (fun k hk h2=>h.k3 k hk (.inr ⟨e,hmem,h2⟩)) htx rfl (fun q e1=>.inl e1)) hnew;have e2:(EO.set i (⟨e.t,{ e.x with last:=l },e.vu,e.EU⟩:Te)).map (·.x)=σ.opn.set i { e.x with last:=l }:=by rw[List.map_set,<-h.wP]
 rw[e2]at h1;exact⟨h1,fQ (hgf.mono (fun k hk=>.inr (.inr (.inl (.inr ⟨e,hmem,hk⟩))))) (fun k h=>.inl h) (fun k h=>.inl h) hnew (fun k h=>.inl h)⟩
theorem St.step_eq(σ:St)(c:Cf)(i:Nat)(x:Tx)(kd:Nat)(hr:96<=σ.io.R.room c.n):σ.step c i x { Rc.zero with kind:=kd }=(0,{ σ with io:={ σ.io with R:=σ.io.R.app (Rc.enc { Rc.zero with kind:=kd,aV:=x.id,prev:=x.last }) },lines:=σ.lines++[(σ.io.R.tail+1,{ Rc.zero with kind:=kd,aV:=x.id,prev:=x.last })],opn:=σ.opn.set i { x with last:=σ.io.R.tail+1 } }):=by
 unfold St.step;simp only[];rw[St.DL σ c { Rc.zero with kind:=kd,aV:=x.id,prev:=x.last } rfl rfl hr];simp only[if_pos,St.wZ]
theorem afw(h:aP W0 w A c σ vl vo EL EO K S1)(i:Nat)(e:Te)(jI:EO[i]? = some e)(kd:Nat)(hkd:kd<=9)(lS:e.x.id<=1099511627776)(hla:e.x.last<=1099511627776)(hk:96<=σ.io.R.room c.n)(ht:σ.io.R.tail+96<=1099511627775)(hl:EL.length<=1073741824):
  Calls Tryz.prog 57 #[.pointer (some ⟨A.sb,0,none⟩),.pointer (some ⟨e.t,0,none⟩),.agg (recC { Rc.zero with kind:=kd } none none 0 0 0 0)] w fun er w'=>∃gJ aT,er=.returned (.int .i64 0)/\
   aP W0 w' A c (σ.step c i e.x { Rc.zero with kind:=kd }).2 gJ vo (EL++[⟨σ.io.R.tail+1,{ Rc.zero with kind:=kd,aV:=e.x.id,prev:=e.x.last },.slice none 0 0,.slice none 0 0⟩]) (EO.set i ⟨e.t,{ e.x with last:=σ.io.R.tail+1 },e.vu,e.EU⟩) K aT/\
   aG (aO S1 vl vo EO K) (aO aT gJ vo (EO.set i ⟨e.t,{ e.x with last:=σ.io.R.tail+1 },e.vu,e.EU⟩) K) w w':=by
 have lU:=hid jI;have HK:=hid hk;have HT:=hid ht;have HL:=hid hl;have hal:Below w.heap.size w (w.alloc (.cells (recC { Rc.zero with kind:=kd } none none 0 0 0 0) 85)):=(Below.refl _ _).alloc (Nat.le_refl _) _;have hbx:=Box.new w (recC { Rc.zero with kind:=kd } none none 0 0 0 0) 85 rfl;have ji:=hid hal;have gY:=hid (h.below hal);have HS0:=hid h;obtain⟨t5,Lp⟩:∃x,w.heap.size=x:=⟨_,rfl⟩
 have zN:∀k,aO S1 vl vo EO K k->k<t5:=fun k hk=>by have:=(h.lt k hk).2;omega
 have jH:=hid zN;have HT5:=hid Lp;obtain⟨T,hT⟩:∃x,σ.io.R.tail=x:=⟨_,rfl⟩
 have oG:=hid hT;clear h jI hk ht hl hal zN;go_enter Tryz.func57,Tryz.ntmps57;go_upto_region 1 with (fail);rw[Lp]at hbx
 try rw[Lp]
 generalize w.alloc (.cells (recC { Rc.zero with kind:=kd } none none 0 0 0 0) 85)=w1 at *;have bt:Box w1 t5 [.int .i64 (kd:Nat),.int .i64 0,.int .i64 0,.int .i64 0,.int .i64 0,.int .i64 0,.slice none 0 0,.slice none 0 0,.slice none 0 0,.slice none 0 0,.int .i64 0]:=hbx;have hmem:=List.mem_of_getElem? lU.out;have be:Box w1 e.t [.int .i64 (e.x.id:Nat),.int .i64 (e.x.first:Nat),.int .i64 (e.x.last:Nat),e.vu]:=(gY.out.tx.at_ e hmem).box;have hne:e.t≠t5:=fun e1=>by have:=jH.out e.t (.inr (.inr (.inl (.inr ⟨e,hmem,.inl rfl⟩))));omega
 have hne2:t5≠e.t:=fun e1=>hne e1.symm;have hB:Below 0 w1 w1:=Below.refl _ _;clear hbx hmem Lp hT;refine aQ (o9 A e t5 kd) 12 [[],[0],[0,1],[0,1,2],[],[4],[4,5],[4,5,6],[0,1,2,3],[0,1,2,3,8],[0,1,2,3,4,5,6,7,8,9],[0,1,2,3,4,5,6,7,8,9,10]] [some 9,some 10,some 11,some 12,some 13,some 14,some 15,some 16,some 17,none,some 18,none] (by kernel_rfl) (by kernel_rfl) rfl (xu A e t5 kd) (QC A e t5 kd) ?alK ?_
 case alK=>
  intro i hi o ho vs lo eX w' hg hp;have hsz:=hg.size;replace hp:=fun j hj=>(hp j hj).2.2.2
  match i,hi with
  | 0,_|4,_|8,_|1,_|2,_|3,_|5,_|6,_|7,_|10,_=>
   cases ho;simp only[aA,xu]at hp
   first|simp only[ak,Act.put,aA,hp]|simp only[ak,Act.put,aA]
   try have e0:=(hg.cell (e.t) 0 be.lt (by rintro⟨j,_,hne,hb,hw⟩;first|(simp only[o9]at hw;rcases hw with ⟨_,h,_⟩|⟨_,h,_⟩<;>first|exact hne h|exact hne2 h|omega)|fail)).trans (be.cell 0 _ rfl)
   try have e1:=(hg.cell (e.t) 2 be.lt (by rintro⟨j,_,hne,hb,hw⟩;first|(simp only[o9]at hw;rcases hw with ⟨_,h,_⟩|⟨_,h,_⟩<;>first|exact hne h|exact hne2 h|omega)|fail)).trans (be.cell 2 _ rfl)
   go_wp2;exact⟨_,rfl,aB.refl _,rfl⟩
  | 9,_=>
   cases ho;simp only[ak,Act.put,aA];have h3:=hp 3 (by simp);have h8:=hp 8 (by simp);simp only[xu]at h3 h8;rw[h3,h8];have o0:=(hg.cell (t5) 1 bt.lt (by rintro⟨j,_,hne,hb,hw⟩;simp only[o9]at hw;rcases hw with ⟨_,h,_⟩|⟨_,h,_⟩<;>first|exact hne h|exact hne2 h|omega)).trans (bt.cell 1 _ rfl);have fz:∀o,w'.frozen? ⟨t5,o,none⟩=false:=fun o=>(hg.frozen _ o bt.lt).trans (bt.free o);have hlt:t5<w'.heap.size:=by have:=bt.lt;omega
   go_wp2;exact⟨.bool true,rfl,((aB.refl _).setCell (by unfold o9;omega) hlt _),by simpa[World.setCell]using hlt,World.cell?_setCell_same _ _ _ o0⟩
  | 11,_=>
   cases ho;simp only[ak,Act.put,aA];have h7:=hp 7 (by simp);have h9:=hp 9 (by simp);have h10:=hp 10 (by simp);simp only[xu]at h7 h9 h10;rw[h7,h10];have o0:=(hg.cell (t5) 2 bt.lt (by rintro⟨j,_,hne,hb,hw⟩;simp only[o9]at hw;rcases hw with ⟨_,h,_⟩|⟨_,h,_⟩<;>first|exact hne h|exact hne2 h|omega)).trans (bt.cell 2 _ rfl);have fz:∀o,w'.frozen? ⟨t5,o,none⟩=false:=fun o=>(hg.frozen _ o bt.lt).trans (bt.free o);have hlt:t5<w'.heap.size:=by have:=bt.lt;omega
   go_wp2;exact⟨.bool true,rfl,((aB.refl _).setCell (by unfold o9;omega) hlt _),by simpa[World.setCell]using hlt,World.cell?_setCell_same _ _ _ o0⟩
  | (q+12),hq=>exact absurd hq (by omega)
 intro vS lo hi w2 hg hp hd;have hP:=fun j hj=>(hp j hj).2.2.2;have h0:=hP 0 (by decide);have h1:=hP 1 (by decide);have h2:=hP 2 (by decide);have h3:=hP 3 (by decide);have h4:=hP 4 (by decide);have h5:=hP 5 (by decide);have h6:=hP 6 (by decide);have h7:=hP 7 (by decide);have h8:=hP 8 (by decide);have h9:=hP 9 (by decide);have h10:=hP 10 (by decide);have h11:=hP 11 (by decide);clear hP;simp only[xu]at h0 h1 h2 h3 h4 h5 h6 h7 h8 h9 h10 h11;clear hp hd;have hsz:=hg.size;have jX:Hid (aj (fun k=>k=t5) w1 w2):=hid (aj.aK hg (fun k o ⟨j,_,hw⟩=>by simp only[o9]at hw;rcases hw with ⟨_,h,_⟩|⟨_,h,_⟩<;>exact h));replace be:=be.grow hg (by intro i _;rintro⟨j,_,hw⟩;simp only[o9]at hw;first|omega|(rcases hw with ⟨_,h,_⟩|⟨_,h,_⟩<;>first|exact hne h|exact hne2 h|omega));replace bt:Box w2 (t5) [.int .i64 (kd:Nat),.int .i64 (e.x.id:Nat),.int .i64 (e.x.last:Nat),.int .i64 0,.int .i64 0,.int .i64 0,.slice none 0 0,.slice none 0 0,.slice none 0 0,.slice none 0 0,.int .i64 0]:=bt.upd hg (by
  intro i v hi
  match i,hi with
  | 0,hi|3,hi|4,hi|5,hi|6,hi|7,hi|8,hi|9,hi|10,hi=>exact .inr ⟨(by rintro⟨j,_,hw⟩;simp only[o9]at hw;first|omega|(rcases hw with ⟨_,h,_⟩|⟨_,h,_⟩<;>first|exact hne h|exact hne2 h|omega)),hi⟩
  | 1,hi=>exact .inl (by obtain rfl:=Option.some.inj hi;exact h9.2)
  | 2,hi=>exact .inl (by obtain rfl:=Option.some.inj hi;exact h11.2)
  | (q+11),hi=>cases hi)
 replace hB:=hB.trans (hg.below (fun k hk=>⟨by omega,fun o=>by rintro⟨j,_,hw⟩;simp only[o9]at hw;first|omega|(rcases hw with ⟨_,h,_⟩|⟨_,h,_⟩<;>first|exact hne h|exact hne2 h|omega)⟩));have hr:List.range 12=[0,1,2,3,4,5,6,7,8,9,10,11]:=rfl;rw[hr];clear hr;simp only[List.drop_succ_cons,List.drop_zero,List.drop_nil,ak,Act.put,aA,h0,h1,h2,h3,h4,h5,h6,h7,h8,h10];clear h0 h1 h2 h3 h4 h5 h6 h7 h8 h9 h10 h11;have HG2:Hid (aj (fun k=>k=t5) w w2):=hid ((lT ji.out).trans jX.out);have hs2:=HS0.out.other HG2.out (fun k e1=>by have:=HT5.out;omega);have HS2:=hid hs2;have r0:=bt.cell 0 _ rfl;have r1:=bt.cell 1 _ rfl;have r2:=bt.cell 2 _ rfl;have r3:=bt.cell 3 _ rfl;have r4:=bt.cell 4 _ rfl;have r5:=bt.cell 5 _ rfl;have r6:=bt.cell 6 _ rfl;have r7:=bt.cell 7 _ rfl;have r8:=bt.cell 8 _ rfl;have r9:=bt.cell 9 _ rfl;have r10:=bt.cell 10 _ rfl;have yw:=bt.lt;have jB:=ES hs2 { Rc.zero with kind:=kd,aV:=e.x.id,prev:=e.x.last } ⟨by show kd<=_;omega,by show e.x.id<=_;omega,by show e.x.last<=_;omega,Nat.zero_le _,Nat.zero_le _,Nat.zero_le _,Nat.zero_le _,Nat.zero_le _,Nat.zero_le _,rfl,rfl⟩ rfl rfl HK.out HT.out HL.out;have FQ:=hid jB;clear hs2 jB hB hg hsz be bt hne hne2;go_wp2_with fail;refine FQ.out.mono ?_;rintro er y4 ⟨nR,S4,rfl,hs4,hg4,hn4,hv4⟩;have Cj:=hid hg4;have FT:=hid hn4;have vO:=hid hv4;have be4:=(hs4.tx.at_ e (List.mem_of_getElem? lU.out)).box;have c2:=be4.cell 2 _ rfl;have cfz:=be4.free;have bU:=be4.lt;obtain⟨hs5,hf5⟩:=hs4.setLast lU.out (σ.io.R.tail+1);have sK:=hid hs5;have Pn:=hid hf5;clear r0 r1 r2 r3 r4 r5 r6 r7 r8 r9 r10 yw hs4 hg4 hn4 hv4 be4 hs5 hf5;go_wp2_with fail;go_ret;have e1:=St.step_eq σ c i e.x kd HK.out;have F1:aG (aO S1 vl vo EO K) (aO S4 nR vo EO K) w2 y4:=fQ (Cj.out.mono (fun k h=>h.elim .inl (fun h=>.inr (.inl h)))) FT.out vO.out (fun k h=>.inl h) (fun k h=>.inl h)
 have F0:aG (aO S1 vl vo EO K) (aO S1 vl vo EO K) w w2:=(aG.below (aC (Below.refl w.heap.size w))).fin HG2.out (fun k e2=>.inr (by have:=HT5.out;omega)) (fun k h=>.inl h);rw[e1]
 first|exact⟨_,_,rfl,sK.out,(F0.trans F1).trans Pn.out⟩|exact⟨rfl,_,_,sK.out,(F0.trans F1).trans Pn.out⟩
end
end
section
open Go.RowKit
theorem DW(w:World)(g:Nat)(cs:Array Value):aj (fun k=>k=g) w (w.setRow g cs):=
 ⟨rfl,rfl,rfl,by simp[World.setRow],fun k hk hx=>setRow_other w g k cs hx⟩
theorem jR{P:Program}{w:World}{ops:Array Oper}{rest:List Oper}{o:Oper}{a:Act}{Q:Exit->Act->World->Prop}
  {t e:TypeId} {z:Value} {size bytes:Nat} (T:SliceOf P t e z size bytes) (s:Operand) (hgd:o.guard=none) (ho:o.op=.call { callee:=.builtin .clear,args:=#[s],argTypes:=#[t] })
  {base g m k c n cap:Nat} {xs:List Value} (hs:a.eval s=.slice (some ⟨g,m*size,none⟩) k c) (hown:w.ownsRow base e size (.slice (some ⟨g,0,none⟩) n cap) n xs) (hmk:m+k=n) (hk:0<k) (hz1:∀v∈z.cells.toList,v.oneCell'=true)
  (h:∀w',w'.ownsRow base e size (.slice (some ⟨g,0,none⟩) m cap) m (xs.take (m*size))->aj (fun k=>k=g) w w'->wpList P ops Q rest (a.put o.dst (.tuple #[])) w'):wpList P ops Q (o::rest) a w:=by
 obtain⟨i,hi,hz0,hz,hz2⟩:=info_parts T.info;obtain⟨hl,hown⟩:=hown;rcases hown with ⟨h0,_⟩|⟨g',cap',cur,e0,hb,hg,hn,hc,hcs,ht⟩
 ·simp at h0
 injection e0 with e1 e2 e3;injection e1 with e1;injection e1 with e1;subst e1 e3;have hpos:=T.pos;have hzs:=T.cells;have hmul:m*size+k*size=n*size:=by rw[<-Nat.add_mul,hmk]
 have hcap:n*size<=cap*size:=Nat.mul_le_mul_right _ hn;have hzl:(Builtin.zeroCells z.cells k).toList.length=k*size:=by simp[Builtin.zeroCells,hzs]
 have hone:∀v∈(Builtin.zeroCells z.cells k).toList,v.oneCell'=true:=by
  intro v hv;simp only[Builtin.zeroCells,Array.toList_map,List.mem_map]at hv;obtain⟨j,_,rfl⟩:=hv;have hj:j % z.cells.size<z.cells.size:=Nat.mod_lt _ (by omega);rw[getElem!_pos z.cells _ hj];exact hz1 _ (by simp)
 have hst:=run_storeCells_at P g (m*size) e (Builtin.zeroCells z.cells k).toList 0 cur w hg (by rw[hzl,hcs];omega) hone;simp only[Nat.add_zero]at hst;rw[hzl]at hst;have hrun:(Builtin.clear_ #[t] o.type #[.slice (some ⟨g,m*size,none⟩) k c]).run P w=.ok (.tuple #[]) (w.setRow g (cur.toList.take (m*size)++(Builtin.zeroCells z.cells k).toList++cur.toList.drop (m*size+k*size)).toArray):=by
  obtain⟨k',rfl⟩:∃k',k=k'+1:=⟨k-1,by omega⟩
  simp[Builtin.clear_,run_underlying T.und,zeroValue,typeInfo,hi,hz0,Result.andThen];simp at hst;rw[hst]
 refine wpList_plain hgd fun K hK=>?_;unfold Oper.wp;simp[execOp,ho,resolve,invoke,builtin,hs,hrun,Result.andThen];have hcl:cur.toList.length=cap*size:=by simpa using hcs
 have hg2:=setRow_heap w g cur (cur.toList.take (m*size)++(Builtin.zeroCells z.cells k).toList++cur.toList.drop (m*size+k*size)).toArray e (0,0) hg;have:=h _ ⟨by rw[List.length_take,hl];omega,.inr ⟨g,cap,_,rfl,hb,hg2,by omega,hc,by simp[hzl];omega,?_⟩⟩ (DW w g _)
 ·simp only[List.append_assoc]at this;exact hK _ _ this
 ·rw[<-ht,List.take_take,Nat.min_eq_left (by omega)];simp only[List.append_assoc];rw[List.take_append_of_le_length (by rw[List.length_take];omega),List.take_take,Nat.min_self]
def uG(t:Nat):Value:=.pointer (some ⟨t,0,none⟩)
structure Bz(L:List Nat)(fn:Nat)(lb:Array Value)(p:Nat->Bool)(g:Nat)(F:World->Prop):Prop where
 ahU:∀W W',F W->aj (fun k=>k=g) W W'->F W'
 ans:∀W (x:Nat),x∈L->F W->Calls Tryz.prog fn (#[.pointer (some ⟨x,0,none⟩)]++lb) W fun e w'=>e=.returned (.bool (p x))/\Below W.heap.size W w'
theorem Bz.yes{L:List Nat}{fn:Nat}{lb:Array Value}{p:Nat->Bool}{g:Nat}{F:World->Prop}(h:Bz L fn lb p g F)(W:World)(x:Nat)(hm:x∈L)(hF:F W)(hp:p x=true):Calls Tryz.prog fn (#[.pointer (some ⟨x,0,none⟩)]++lb) W fun e w'=>e=.returned (.bool true)/\Below W.heap.size W w':=
 (h.ans W x hm hF).mono fun _ _ ⟨h1,h2⟩=>⟨by rw[h1,hp],h2⟩
theorem Bz.no{L:List Nat}{fn:Nat}{lb:Array Value}{p:Nat->Bool}{g:Nat}{F:World->Prop}(h:Bz L fn lb p g F)(W:World)(x:Nat)(hm:x∈L)(hF:F W)(hp:p x=false):Calls Tryz.prog fn (#[.pointer (some ⟨x,0,none⟩)]++lb) W fun e w'=>e=.returned (.bool false)/\Below W.heap.size W w':=
 (h.ans W x hm hF).mono fun _ _ ⟨h1,h2⟩=>⟨by rw[h1,hp],h2⟩
theorem abJ{L:List Nat}{p:Nat->Bool}{j x:Nat}(hx:L[j]? = some x)(hp:p x=true)(hb:∀k y,k<j->L[k]? = some y->p y=false):L.findIdx? p=some j:=by
 obtain⟨hj,hxe⟩:=List.getElem?_eq_some_iff.1 hx;rw[List.findIdx?_eq_some_iff_getElem];refine⟨hj,by rw[hxe];exact hp,fun k hk=>?_⟩;have:=hb k _ hk (List.getElem?_eq_getElem (by omega));simpa using this
theorem afx{L:List Nat}{p:Nat->Bool}(hb:∀k y,k<L.length->L[k]? = some y->p y=false):L.findIdx? p=none:=by
 rw[List.findIdx?_eq_none_iff];intro x hx;obtain⟨k,hk,rfl⟩:=List.getElem_of_mem hx;exact hb k _ hk (List.getElem?_eq_getElem hk)
theorem QD(L:List Nat)(n c G g:Nat)(fn:Nat)(lb:Array Value)(p:Nat->Bool)(F:World->Prop)(eg:∀args w,(callFunc fn args).run Tryz.prog w=.ok (.enter fn args) w)(hP:Bz L fn lb p g F)(hl:L.length=n)(hn:n<=1099511627776)(w:World)(hF:F w)(hv:w.ownsRow G 100 1 (.slice (some ⟨g,0,none⟩) n c) n (L.map uG)):
  Calls Tryz.prog 128 #[.slice (some ⟨g,0,none⟩) n c,.func (.func fn) #[] lb] w fun e w'=>e=.returned (.int .i64 (jh (L.findIdx? p)))/\Below w.heap.size w w':=by
 have HO:=hid hv;have HL:=hid hl;have HP:=hid hP;have HF:=hid hF;clear hv hl hP hF;go_enter Tryz.func128,Tryz.ntmps128;go_wp2_with fail;go_loopw [8] (fun i wr=>∃j:Nat,j<=n/\i=.int .i64 j/\Below w.heap.size w wr/\(∀k y,k<j->L[k]? = some y->p y=false)) (fun i _=>n-(intOf i).toNat)
 case atStart=>exact⟨0,Nat.zero_le _,rfl,Below.refl _ _,fun k y hk=>absurd hk (Nat.not_lt_zero _)⟩
 case round=>
  obtain⟨j,hj,rfl,hbl,hno⟩:=hrel;have HB:=hid hbl;have yu:=hid hno;clear hbl hno;by_cases hjn:j<n
  case neg=>
   have b1:decide (j<n)=false:=by simpa using hjn
   have b2:decide ((j:Int)<(n:Int))=false:=by simpa using hjn
   have e4:L.findIdx? p=none:=afx (fun k y hk hy=>yu.out k y (by have:=HL.out;omega) hy);have Zk:=hid e4;clear e4;go_wp2_with fail;go_ret;exact⟨rO (by rw[Zk.out];rfl),HB.out⟩
  have b1:decide (j<n)=true:=by simpa using hjn
  have b2:decide ((j:Int)<(n:Int))=true:=by simpa using hjn
  have hjl:j<L.length:=by rw[HL.out];exact hjn
  obtain⟨x,hx⟩:∃x,L[j]? = some x:=⟨_,List.getElem?_eq_getElem hjl⟩
  have hcl:=gQ (own_below HO.out HB.out (fun q e=>(HO.out.lt q e).2)) j (uG x) (by rw[List.getElem?_map,hx];rfl);simp only[uG]at hcl;have HX:=hid hx;have Zq:Hid (F wr):=hid (HP.out.ahU _ _ HF.out (lT HB.out));clear hjl hx;cases hpx:p x with
  | true=>
   have IZ:=hid hpx;clear hpx;go_wp2_with fail;refine(HP.out.yes _ x (List.mem_of_getElem? HX.out) Zq.out IZ.out).mono ?_;rintro e w2 ⟨rfl,hb2⟩;have HB2:=hid (HB.out.trans (hb2.mono HB.out.size));clear hb2;have e4:L.findIdx? p=some j:=abJ HX.out IZ.out yu.out;have Zk:=hid e4;clear e4;go_wp2_with fail;go_ret;exact⟨rO (by rw[Zk.out];rfl),HB2.out⟩
  | false=>
   have IZ:=hid hpx;clear hpx;go_wp2_with fail;refine(HP.out.no _ x (List.mem_of_getElem? HX.out) Zq.out IZ.out).mono ?_;rintro e w2 ⟨rfl,hb2⟩;have HB2:=hid (HB.out.trans (hb2.mono HB.out.size));clear hb2;go_wp2_with fail;go_roundw
   ·refine⟨j+1,by omega,by go_num,HB2.out,fun k y hk hy=>?_⟩;rcases Nat.lt_succ_iff_lt_or_eq.1 hk with hk|rfl
    ·exact yu.out k y hk hy
    ·rw[HX.out]at hy;obtain rfl:=Option.some.inj hy;exact IZ.out
   ·simp[intOf];omega
theorem TU:∀v∈(Value.pointer none).cells.toList,v.oneCell'=true:=by
 intro v hv;simp[Value.cells]at hv;rcases hv with rfl;rfl
theorem abK(L:List Nat)(n c G g:Nat)(fn:Nat)(lb:Array Value)(p:Nat->Bool)(F:World->Prop)(eg:∀args w,(callFunc fn args).run Tryz.prog w=.ok (.enter fn args) w)(hP:Bz L fn lb p g F)(hl:L.length=n)(hn:n<=1099511627776)(hpos:0<n)(w:World)(hF:F w)(hown:w.ownsRow G 100 1 (.slice (some ⟨g,0,none⟩) n c) n (L.map uG)):
  Calls Tryz.prog 101 #[.slice (some ⟨g,0,none⟩) n c,.func (.func fn) #[] lb] w fun e w'=>∃m,e=.returned (.slice (some ⟨g,0,none⟩) m c)/\(L.filter fun x=>!p x).length=m/\m<=n/\w'.ownsRow G 100 1 (.slice (some ⟨g,0,none⟩) m c) m ((L.filter fun x=>!p x).map uG)/\aj (fun k=>k=g) w w':=by
 have HO:=hid hown;have HL:=hid hl;have HP:=hid hP;have HF:=hid hF;have hnc:n<=c:=by obtain⟨_,_,h,_,h2,_⟩:=Reads.aY hown;injection h with _ _ h3;omega
 clear hown hl hP hF;cases hf:L.findIdx? p with
 | none=>
  have hno:=List.findIdx?_eq_none_iff.1 hf;have vI:Hid (L.filter (fun x=>!p x)=L):=hid (List.filter_eq_self.2 (fun a ha=>by rw[hno a ha];rfl));have xP:=hid hf;clear hf hno;go_enter Tryz.func101,Tryz.ntmps101;go_wp2_with fail;refine(QD L n c G g fn lb p F eg HP.out HL.out hn w HF.out HO.out).mono ?_;rintro e w1 ⟨rfl,hb1⟩;rw[xP.out];have qh:=hid (own_below HO.out hb1 (fun q e=>(HO.out.lt q e).2));have HB1:=hid hb1;clear hb1 eg;show _;simp only[jh];go_wp2_with fail;go_ret;exact⟨n,rfl,by rw[vI.out];exact HL.out,Nat.le_refl _,by rw[vI.out];exact qh.out,aC HB1.out⟩
 | some i0=>
  obtain⟨hil,hpi,hbef⟩:=List.findIdx?_eq_some_iff_getElem.1 hf;have ahV:Hid ((L.take (i0+1)).filter (fun x=>!p x)=L.take i0):=hid (by
   rw[List.take_succ_eq_append_getElem hil,List.filter_append];have e1:List.filter (fun x=>!p x) [L[i0]]=[]:=by simp[hpi]
   rw[e1,List.append_nil];refine List.filter_eq_self.2 (fun a ha=>?_);obtain⟨j,hj,rfl⟩:=List.getElem_of_mem ha;have hj':j<i0:=by simp at hj;omega
   have:=hbef j hj';simpa using this)
  have xP:=hid hf;rw[HL.out]at hil;clear hf hpi hbef;go_enter Tryz.func101,Tryz.ntmps101;go_wp2_with fail;refine(QD L n c G g fn lb p F eg HP.out HL.out hn w HF.out HO.out).mono ?_;rintro e w1 ⟨rfl,hb1⟩;rw[xP.out];have qh:=hid (own_below HO.out hb1 (fun q e=>(HO.out.lt q e).2));have vY:=hid (aC (X:=fun k=>k=g) hb1);clear hb1 HO xP;simp only[jh];have hne:((i0:Int) == -1)=false:=by simp
  go_wp2_with fail;go_loopw [5,6] (fun si sj wr=>∃(i j:Nat)(M:List Nat),j<=n/\i<j/\si=.int .i64 i/\sj=.int .i64 j/\Hid (M.length=n/\M.take i=(L.take j).filter (fun x=>!p x)/\M.drop j=L.drop j/\((L.take j).filter (fun x=>!p x)).length=i)/\
   wr.ownsRow G 100 1 (.slice (some ⟨g,0,none⟩) n c) n (M.map uG)/\aj (fun k=>k=g) w wr) (fun _ sj _=>n-(intOf sj).toNat)
  case atStart=>exact⟨i0,i0+1,L,by omega,by omega,rfl,by go_num,hid ⟨HL.out,by rw[ahV.out],rfl,by rw[ahV.out,List.length_take,HL.out];omega⟩,qh.out,vY.out⟩
  case round=>
   obtain⟨i,j,M,hj,hij,rfl,rfl,HM,hown,hgr⟩:=hrel;have HO:=hid hown;have HG:=hid hgr;have Zq:Hid (F wr):=hid (HP.out.ahU w wr HF.out hgr);clear hown hgr;by_cases hlt:j<n
   ·have hjL:j<L.length:=by rw[HL.out];exact hlt
    have hts:L.take (j+1)=L.take j++[L[j]]:=List.take_succ_eq_append_getElem hjL;have hMj:M[j]? = some L[j]:=by
     have h1:=congrArg (fun l=>l[0]?) HM.out.2.2.1;simp only[List.getElem?_drop,Nat.add_zero]at h1;rw[h1,List.getElem?_eq_getElem hjL]
    have HD:Hid (M.drop (j+1)=L.drop (j+1)):=hid (by
     have h1:=congrArg (List.drop 1) HM.out.2.2.1
     rwa [List.drop_drop,List.drop_drop]at h1)
    have hcl:=gQ HO.out j (uG L[j]) (by rw[List.getElem?_map,hMj];rfl);simp only[uG]at hcl;have IQ:=hid hts;have HMX:=hid (List.getElem_mem hjL);generalize L[j]=x at *;clear hMj hts hjL;cases hpx:p x with
    | true=>
     have IZ:=hid hpx;have vF:Hid ((L.take (j+1)).filter (fun x=>!p x)=(L.take j).filter (fun x=>!p x)):=hid (by rw[IQ.out,List.filter_append];simp[hpx]);clear hpx;go_wp2_with fail;refine(HP.out.yes _ x HMX.out Zq.out IZ.out).mono ?_;rintro e w2 ⟨rfl,hb2⟩;have tH:=hid (own_below HO.out hb2 (fun q e=>(HO.out.lt q e).2));have wL:=hid (HG.out.trans (aC hb2));clear hb2;go_wp2_with fail;go_roundw
     case rel=>exact⟨i,j+1,M,by omega,by omega,rfl,by go_num,hid ⟨HM.out.1,by rw[vF.out];exact HM.out.2.1,HD.out,by rw[vF.out];exact HM.out.2.2.2⟩,tH.out,wL.out⟩
     case measure=>simp[intOf];omega
    | false=>
     have IZ:=hid hpx;have vF:Hid ((L.take (j+1)).filter (fun x=>!p x)=(L.take j).filter (fun x=>!p x)++[x]):=hid (by rw[IQ.out,List.filter_append];simp[hpx]);clear hpx;go_wp2_with fail;refine(HP.out.no _ x HMX.out Zq.out IZ.out).mono ?_;rintro e w2 ⟨rfl,hb2⟩;have tH:=hid (own_below HO.out hb2 (fun q e=>(HO.out.lt q e).2));have wL:=hid (HG.out.trans (aC hb2));clear hb2;have fz:∀o,w2.frozen? ⟨g,o,none⟩=false:=fun o=>mJ tH.out rfl o;have HIM:Hid (∃y,M[i]? = some y):=hid ⟨_,List.getElem?_eq_getElem (by rw[HM.out.1];omega)⟩;obtain⟨y,hy⟩:=HIM.out;have hs1:=gQ tH.out i (uG y) (by rw[List.getElem?_map,hy];rfl);have auA:=(tH.out.lt g rfl).2;clear hy;go_wp2_with fail;have hown4:=qW tH.out rfl i (by omega) (uG x);rw[<-List.map_set]at hown4;simp only[uG]at hown4;have Ot:=wL.out.trans (aF w2 g i (.pointer (some ⟨x,0,none⟩)));go_roundw
     case rel=>exact⟨i+1,j+1,M.set i x,by omega,by omega,by go_num,by go_num,hid ⟨by rw[List.length_set];exact HM.out.1,by rw[vF.out,<-HM.out.2.1,List.take_succ_eq_append_getElem (by rw[List.length_set,HM.out.1];omega),List.take_set_of_le (Nat.le_refl _),List.getElem_set_self],by rw[List.drop_set_of_lt (by omega)];exact HD.out,by rw[vF.out,List.length_append,HM.out.2.2.2];rfl⟩,hown4,Ot⟩
     case measure=>simp[intOf];omega
   ·obtain rfl:n=j:=by omega
    have hall:L.take n=L:=List.take_of_length_le (Nat.le_of_eq HL.out);have U5:Hid (M.take i=L.filter (fun x=>!p x)/\(L.filter (fun x=>!p x)).length=i):=hid ⟨by rw[HM.out.2.1,hall],by rw[<-hall];exact HM.out.2.2.2⟩;have hci:¬c=i:=by omega
    clear hall eg;go_wp2_with (with_reducible refine jR Zj (.tmp 38) rfl rfl (m:=i) (k:=n-i) (c:=c-i) (n:=n) (cap:=c) ?s1 HO.out (by omega) (by omega) TU ?s2)
    case s1=>rw[Nat.mul_one];rfl
    intro w2 hown2 fV;have apO:=hid hown2;have G8:=hid fV;clear hown2 fV;go_wp2_with fail;have hown2:=apO.out;have fV:=G8.out;go_ret;rw[<-List.map_take,U5.out.1]at hown2;exact⟨i,rfl,U5.out.2,by omega,hown2,HG.out.trans fV⟩
end
end Go.Proofs.YtpajagkhmodbnaaGreat

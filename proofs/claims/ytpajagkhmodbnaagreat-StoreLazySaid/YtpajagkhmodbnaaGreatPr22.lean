/- Pr: texts of the store seat laid together by program: StView. Conditions: each theorem names its own. -/
import Derived.Test.YtpajagkhmodbnaaGreatPr12
import Derived.Test.YtpajagkhmodbnaaGreatPr17
namespace Go.Proofs.YtpajagkhmodbnaaGreat
set_option linter.unusedSimpArgs false
set_option linter.unusedVariables false
section
def zH(F:List Fm):Prop:=∀(i j:Nat)(x y:Fm),F[i]? = some x->F[j]? = some y->i≠j->0<=x.page->x.page≠y.page
theorem nG{α:Type}{l:List α}{x:α}(h:x∈l):∃i:Nat,l[i]? = some x:=by
 obtain⟨i,hi,e⟩:=List.getElem_of_mem h;exact⟨i,by rw[List.getElem?_eq_getElem hi,e]⟩
theorem sO{α:Type}{l:List α}{i j:Nat}{y z:α}(h:(l.set i y)[j]? = some z):(j=i/\z=y)\/(j≠i/\l[j]? = some z):=by
 rw[List.getElem?_set]at h;by_cases e:i=j
 ·subst e;rw[if_pos rfl]at h;split at h
  ·exact .inl ⟨rfl,(Option.some.inj h).symm⟩
  ·cases h
 ·rw[if_neg e]at h;exact .inr ⟨fun e2=>e e2.symm,h⟩
theorem Hg{F:List Fm}(hu:zH F){i:Nat}{y:Fm}(hy:0<=y.page->∀j z,F[j]? = some z->j≠i->z.page≠y.page):zH (F.set i y):=by
 intro a b x z hx hz hab h0;rcases sO hx with ⟨e1,e2⟩|⟨ha,hx2⟩
 ·rcases sO hz with ⟨e3,e4⟩|⟨hb,hz2⟩
  ·exact absurd (e1.trans e3.symm) hab
  ·rw[e2]at h0⊢;exact fun e=>hy h0 b z hz2 hb e.symm
 ·rcases sO hz with ⟨e3,e4⟩|⟨hb,hz2⟩
  ·rw[e4];exact fun e=>hy (by rw[<-e];exact h0) a x hx2 ha e
  ·exact hu a b x z hx2 hz2 hab h0
theorem mW{F:List Fm}{m:Int}{i:Nat}(h:fZ F m=some i):∃x,F[i]? = some x/\x.page=m/\0<=m:=by
 obtain⟨h1,h2,_⟩:=List.findIdx?_eq_some_iff_getElem.1 h;exact⟨F[i],List.getElem?_eq_getElem h1,OB h2⟩
theorem BG{F:List Fm}{m:Int}(h:fZ F m=none)(hm:0<=m){x:Fm}(hx:x∈F):x.page≠m:=by
 have h1:=List.findIdx?_eq_none_iff.1 h x hx;intro e;unfold zi at h1;rw[if_pos e]at h1;simp[hm]at h1
theorem Xc{F:List Fm}{i:Nat}(h:wX F=some i):∃x,F[i]? = some x/\x.page<0:=by
 obtain⟨h1,h2,_⟩:=List.findIdx?_eq_some_iff_getElem.1 h;exact⟨F[i],List.getElem?_eq_getElem h1,by simpa[KN]using h2⟩
theorem getD_at{F:List Fm}{i:Nat}{x:Fm}(h:F[i]? = some x):F.getD i Fm.free=x:=by rw[List.getD_eq_getElem?_getD,h];rfl
def fF(V:Nat->List UInt8)(q:Nat)(b:List UInt8)(r:Nat):List UInt8:=if r=q then b else V r
theorem DZ(V:Nat->List UInt8)(q:Nat):fF V q (V q)=V:=by funext x;unfold fF;split<;>simp_all
structure EX{T:Type}(O:qc T)(pg:Nat)(J:T->Prop):Prop where
 step:∀s l,J s->(O.step s l).1=0/\J (O.step s l).2/\∀q,q<pg->O.fJ (O.step s l).2 q=O.fJ s q
 wr:∀s p b,J s->p<pg->b.length=512->J (O.wr s p b)/\∀q,q<pg->O.fJ (O.wr s p b) q=if q=p then b else O.fJ s q
 rd:∀s,J s->J (O.rd s)/\∀q,q<pg->O.fJ (O.rd s) q=O.fJ s q
structure ig(pg:Nat)(F:List Fm)(P V:Nat->List UInt8):Prop where
 fr:∀x∈F,(x.page<0/\x.dirty=false)\/∃q:Nat,q<pg/\x.page=q/\x.b=V q/\(x.dirty=false->P q=V q)
 uniq:zH F
 out:∀q:Nat,q<pg->(∀x∈F,x.page≠(q:Int))->P q=V q
 len:∀q:Nat,q<pg->(V q).length=512
section
variable{pg:Nat}{F F':List Fm}{P P' V:Nat->List UInt8}
theorem ig.page(h:ig pg F P V){x:Fm}(hx:x∈F){q:Nat}(hp:x.page=(q:Int)):q<pg/\x.b=V q/\(x.dirty=false->P q=V q):=by
 rcases h.fr x hx with ⟨h1,_⟩|⟨q',h0,h1,h2,h3⟩
 ·omega
 ·obtain rfl:q=q':=by omega
  exact⟨h0,h2,h3⟩
theorem ig.disk(h:ig pg F P V)(hP:∀q,q<pg->P' q=P q):ig pg F P' V:=
 ⟨fun x hx=>(h.fr x hx).imp id (fun⟨q,a,b,c,d⟩=>⟨q,a,b,c,fun e=>(hP q a).trans (d e)⟩),h.uniq,fun q hq hno=>(hP q hq).trans (h.out q hq hno),h.len⟩
def kU(F F':List Fm):Prop:=F'.length=F.length/\∀(i:Nat)(x:Fm),F[i]? = some x->∃m,F'[i]? = some { x with marked:=m }
theorem kU.refl(F:List Fm):kU F F:=⟨rfl,fun i x h=>⟨x.marked,h⟩⟩
theorem kU.trans{F G H:List Fm}(h:kU F G)(k:kU G H):kU F H:=⟨k.1.trans h.1,fun i x hx=>by
 obtain⟨m,hm⟩:=h.2 i x hx;obtain⟨m2,hm2⟩:=k.2 i _ hm;exact⟨m2,hm2⟩⟩
theorem kU.set{F:List Fm}{i:Nat}{x:Fm}(hx:F[i]? = some x)(m:Bool):kU F (F.set i { x with marked:=m }):=by
 refine⟨List.length_set,fun j y hy=>?_⟩;by_cases e:i=j
 ·subst e;rw[hx]at hy;obtain rfl:=Option.some.inj hy;exact⟨m,List.getElem?_set_self (List.getElem?_eq_some_iff.1 hx).1⟩
 ·exact⟨y.marked,by rw[List.getElem?_set_ne e];exact hy⟩
theorem kU.back(h:kU F F'){i:Nat}{y:Fm}(hy:F'[i]? = some y):∃x m,F[i]? = some x/\y={ x with marked:=m }:=by
 have hi:i<F.length:=by rw[<-h.1];exact(List.getElem?_eq_some_iff.1 hy).1
 obtain⟨m,hm⟩:=h.2 i F[i] (List.getElem?_eq_getElem hi);rw[hy]at hm;exact⟨F[i],m,List.getElem?_eq_getElem hi,Option.some.inj hm⟩
theorem ig.same(h:ig pg F P V)(hs:kU F F'):ig pg F' P V:=by
 refine⟨fun y hy=>?_,fun i j x y hx hy hij h0=>?_,fun q hq hno=>h.out q hq (fun x hx=>?_),h.len⟩
 ·obtain⟨i,hi⟩:=nG hy;obtain⟨x,m,hx,rfl⟩:=hs.back hi;exact h.fr x (List.mem_of_getElem? hx)
 ·obtain⟨a,m,ha,rfl⟩:=hs.back hx;obtain⟨b,m2,hb,rfl⟩:=hs.back hy;exact h.uniq i j a b ha hb hij h0
 ·obtain⟨i,hi⟩:=nG hx;obtain⟨m,hm⟩:=hs.2 i x hi;exact hno { x with marked:=m } (List.mem_of_getElem? hm)
theorem BH{n:Nat}:∀(m:Nat)(F:List Fm)(h:Nat),kU F (sweep n m F h).1
 | 0,F,h=>kU.refl F
 | m + 1,F,h=>by
  rw[sweep];split
  ·cases hx:F[h]? with
   | none=>
    have:F.set h { F.getD h Fm.free with marked:=false }=F:=by
     rw[List.set_eq_of_length_le];exact List.getElem?_eq_none_iff.1 hx
    rw[this];exact BH m F _
   | some x=>
    rw[getD_at hx];exact(kU.set hx false).trans (BH m _ _)
  ·exact kU.refl F
theorem ig.clean(h:ig pg F P V){i:Nat}{x:Fm}(hx:F[i]? = some x)(hd:x.dirty=true):(x.page.toNat<pg/\x.b.length=512)/\ig pg (F.set i { x with dirty:=false }) (fF P x.page.toNat x.b) V:=by
 obtain⟨q,hq,hp,hb,h2⟩:=(h.fr x (List.mem_of_getElem? hx)).resolve_left (by rintro⟨_,e⟩;rw[hd]at e;cases e);have hqn:x.page.toNat=q:=by rw[hp];rfl
 rw[hqn];have hne:∀j z,F[j]? = some z->j≠i->z.page≠(q:Int):=fun j z hz hji=>by
  rw[<-hp];exact fun e2=>h.uniq i j x z hx hz (fun e=>hji e.symm) (by omega) e2.symm
 refine⟨⟨hq,by rw[hb];exact h.len q hq⟩,⟨fun z hz=>?_,Hg h.uniq (fun _ j z hz hj=>by show z.page≠x.page;rw[hp];exact hne j z hz hj),fun r hr hno=>?_,h.len⟩⟩
 ·obtain⟨j,hj⟩:=nG hz;rcases sO hj with ⟨e1,e2⟩|⟨hji,hj⟩
  ·rw[e2];exact .inr ⟨q,hq,hp,hb,fun _=>by unfold fF;rw[if_pos rfl,hb]⟩
  ·rcases h.fr z (List.mem_of_getElem? hj)with h1|⟨r,r0,r1,r2,r4⟩
   ·exact .inl h1
   ·have hrq:r≠q:=fun e=>hne j z hj hji (by rw[r1,e]);exact .inr ⟨r,r0,r1,r2,fun e=>by unfold fF;rw[if_neg hrq];exact r4 e⟩
 ·have hrq:r≠q:=fun e=>hno _ (List.mem_of_getElem? (List.getElem?_set_self (List.getElem?_eq_some_iff.1 hx).1)) (by show x.page=_;rw[hp,e]);unfold fF;rw[if_neg hrq];refine h.out r hr (fun z hz=>?_);obtain⟨j,hj⟩:=nG hz;by_cases e:i=j
  ·subst e;rw[hx]at hj;obtain rfl:=Option.some.inj hj;rw[hp];omega
  ·exact hno z (List.mem_of_getElem? (by rw[List.getElem?_set_ne e];exact hj))
theorem ig.drop(h:ig pg F P V){i:Nat}{x:Fm}(hx:F[i]? = some x)(hd:x.dirty=false):ig pg (F.set i Fm.free) P V:=by
 refine⟨fun z hz=>?_,Hg h.uniq (fun h0=>absurd h0 (by decide)),fun r hr hno=>?_,h.len⟩
 ·obtain⟨j,hj⟩:=nG hz;rcases sO hj with ⟨e1,e2⟩|⟨hji,hj⟩
  ·rw[e2];exact .inl ⟨by decide,rfl⟩
  ·exact h.fr z (List.mem_of_getElem? hj)
 ·by_cases e:x.page=(r:Int)
  ·exact(h.page (List.mem_of_getElem? hx) e).2.2 hd
  ·refine h.out r hr (fun z hz=>?_);obtain⟨j,hj⟩:=nG hz;by_cases e2:i=j
   ·subst e2;rw[hx]at hj;obtain rfl:=Option.some.inj hj;exact e
   ·exact hno z (List.mem_of_getElem? (by rw[List.getElem?_set_ne e2];exact hj))
theorem ig.put(h:ig pg F P V){i q:Nat}(hq:q<pg){x:Fm}(hx:F[i]? = some x)(hor:x.page=(q:Int)\/(x.page<0/\∀z∈F,z.page≠(q:Int)))(y:Fm)(b:List UInt8)(hb:b.length=512)(hy1:y.page=(q:Int))(hy2:y.b=b)(hy4:y.dirty=false->P q=b):
  ig pg (F.set i y) P (fF V q b):=by
 have hne:∀j z,F[j]? = some z->j≠i->z.page≠(q:Int):=by
  intro j z hz hji;rcases hor with e|⟨_,e⟩
  ·rw[<-e];exact fun e2=>h.uniq i j x z hx hz (fun e=>hji e.symm) (by omega) e2.symm
  ·exact e z (List.mem_of_getElem? hz)
 refine⟨fun z hz=>?_,Hg h.uniq (fun _ j z hz hj=>by rw[hy1];exact hne j z hz hj),fun r hr hno=>?_,fun r hr=>?_⟩
 ·obtain⟨j,hj⟩:=nG hz;rcases sO hj with ⟨e1,e2⟩|⟨hji,hj⟩
  ·rw[e2];exact .inr ⟨q,hq,hy1,by simp[fF,hy2],fun e=>by simpa[fF]using hy4 e⟩
  ·rcases h.fr z (List.mem_of_getElem? hj)with h1|⟨r,r0,r1,r2,r4⟩
   ·exact .inl h1
   ·have hrq:r≠q:=fun e=>hne j z hj hji (by rw[r1,e]);exact .inr ⟨r,r0,r1,by simp[fF,hrq,r2],fun e=>by simpa[fF,hrq]using r4 e⟩
 ·have hrq:r≠q:=fun e=>hno y (List.mem_of_getElem? (List.getElem?_set_self (List.getElem?_eq_some_iff.1 hx).1)) (by rw[hy1,e]);have:fF V q b r=V r:=by simp[fF,hrq]
  rw[this];refine h.out r hr (fun z hz=>?_);obtain⟨j,hj⟩:=nG hz;by_cases e:i=j
  ·subst e;rw[hx]at hj;obtain rfl:=Option.some.inj hj;rcases hor with e|⟨e,_⟩<;>omega
  ·exact hno z (List.mem_of_getElem? (by rw[List.getElem?_set_ne e];exact hj))
 ·unfold fF;split
  ·exact hb
  ·exact h.len r hr
end
section
variable{T:Type}{O:qc T}{pg n:Nat}{J:T->Prop}{p:Pq}{s:T}{V:Nat->List UInt8}
theorem QU(hL:EX O pg J)(hJ:J s)(h:ig pg p.F (O.fJ s) V){i:Nat}{x:Fm}(hx:p.F[i]? = some x):
  (p.clean O s i).1=0/\J (p.clean O s i).2.2/\ig pg (p.clean O s i).2.1.F (O.fJ (p.clean O s i).2.2) V/\(p.clean O s i).2.1.F=p.F.set i { x with dirty:=false }/\(p.clean O s i).2.1.hand=p.hand/\
  (∀q,q<pg->(x.page≠(q:Int))->O.fJ (p.clean O s i).2.2 q=O.fJ s q):=by
 cases hd:x.dirty with
 | true=>
  obtain⟨a1,a2,a3⟩:=hL.step s x.aN hJ;obtain⟨⟨b1,b2⟩,b3⟩:=h.clean hx hd;obtain⟨c1,c2⟩:=hL.wr _ x.page.toNat x.b a2 b1 b2;rw[Pq.uj (getD_at hx) hd (rs:=(O.step s x.aN).2) (Prod.ext a1 rfl)];refine⟨rfl,c1,b3.disk (fun q hq=>?_),rfl,rfl,fun q hq hne=>?_⟩
  ·rw[c2 q hq];unfold fF;split
   ·rfl
   ·exact a3 q hq
  ·rw[c2 q hq,if_neg]
   ·exact a3 q hq
   ·intro e;rcases h.fr x (List.mem_of_getElem? hx)with ⟨_,e2⟩|⟨r,_,e2,_⟩
    ·rw[hd]at e2;cases e2
    ·rw[e2]at e hne;apply hne;rw[e];rfl
 | false=>
  rw[Pq.Om (by rw[getD_at hx];exact hd)];refine⟨rfl,hJ,h,?_,rfl,fun q _ _=>rfl⟩;show p.F=_;have:({ x with dirty:=false }:Fm)=x:=by cases x;simp at hd;subst hd;rfl
  rw[this];apply List.ext_getElem?;intro j;rw[List.getElem?_set];split
  ·next e=>subst e;rw[hx,if_pos (List.getElem?_eq_some_iff.1 hx).1]
  ·rfl
def D5(n:Nat)(p:Pq):Prop:=p.F.length=n/\1<=n/\p.hand<n
theorem ZB(hL:EX O pg J)(hJ:J s)(h:ig pg p.F (O.fJ s) V)(m:Int)(hok:D5 n p):
  (p.bQ O s m).1=0/\J (p.bQ O s m).2.2/\ig pg (p.bQ O s m).2.1.F (O.fJ (p.bQ O s m).2.2) V/\D5 n (p.bQ O s m).2.1:=by
 unfold Pq.bQ;cases hf:fZ p.F m with
 | none=>exact⟨rfl,hJ,h,hok⟩
 | some i=>
  obtain⟨x,hx,hxp,_⟩:=mW hf;obtain⟨h1,h2,h3,h4,h5,_⟩:=QU hL hJ h hx;simp only[h1,if_true];have hxi:(p.clean O s i).2.1.F[i]? = some { x with dirty:=false }:=by rw[h4];exact List.getElem?_set_self (List.getElem?_eq_some_iff.1 hx).1
  exact⟨trivial,h2,h3.drop hxi rfl,by rw[List.length_set,h4,List.length_set];exact hok.1,hok.2.1,by show(p.clean O s i).2.1.hand<n;rw[h5];exact hok.2.2⟩
theorem Jf{n:Nat}(hn:0<n):∀(m:Nat)(F:List Fm)(h:Nat),h<n->(sweep n m F h).2.1<n
 | 0,F,h,hh=>hh
 | m+1,F,h,hh=>by
  rw[sweep];split
  ·exact Jf hn m _ _ (Nat.mod_lt _ hn)
  ·exact Nat.mod_lt _ hn
theorem ad6(hL:EX O pg J)(hJ:J s)(h:ig pg p.F (O.fJ s) V)(hok:D5 n p):
  (p.free O s).1=0/\D5 n (p.free O s).2.2.1/\J (p.free O s).2.2.2/\ig pg (p.free O s).2.2.1.F (O.fJ (p.free O s).2.2.2) V/\(∃x,(p.free O s).2.2.1.F[(p.free O s).2.1]? = some x/\x.page<0/\x.dirty=false)/\
  (∀q:Nat,q<pg->(∀x∈p.F,x.page≠(q:Int))->(∀x∈(p.free O s).2.2.1.F,x.page≠(q:Int))/\O.fJ (p.free O s).2.2.2 q=O.fJ s q):=by
 unfold Pq.free;cases hf:wX p.F with
 | some i=>
  obtain⟨x,hx,hxp⟩:=Xc hf;refine⟨rfl,hok,hJ,h,⟨x,hx,hxp,?_⟩,fun q _ h=>⟨h,rfl⟩⟩;rcases h.fr x (List.mem_of_getElem? hx)with ⟨_,e⟩|⟨r,_,e,_⟩
  ·exact e
  ·omega
 | none=>
  have hs:kU p.F p.iy.1:=BH _ _ _;have hi:p.iy.2.2<p.F.length:=Gy (by rw[hok.1];have:=hok.2.1;omega) _ _ _ (by rw[hok.1];exact hok.2.2);have hh:p.iy.2.1<n:=by rw[<-hok.1];exact Jf (by rw[hok.1];have:=hok.2.1;omega) _ _ _ (by rw[hok.1];exact hok.2.2)
  obtain⟨m,hm⟩:=hs.2 _ _ (List.getElem?_eq_getElem hi);have hk:ig pg (Pq.mk p.iy.1 p.iy.2.1 p.wr).F (O.fJ s) V:=h.same hs;obtain⟨h1,h2,h3,h4,h6,h5⟩:=QU hL hJ (p:=Pq.mk p.iy.1 p.iy.2.1 p.wr) hk hm;simp only[Pq.freed];generalize hc:Pq.clean O { p with F:=p.iy.1,hand:=p.iy.2.1 } s p.iy.2.2=c at *;generalize p.iy.2.2=i at *;rw[if_pos h1];have hlen:i<p.iy.1.length:=by rw[hs.1];exact hi
  have hxi:c.2.1.F[i]? = some { ({ p.F[i]with marked:=m }:Fm)with dirty:=false }:=by rw[h4];exact List.getElem?_set_self hlen
  refine⟨rfl,⟨by show(c.2.1.F.set i Fm.free).length=n;rw[List.length_set,h4,List.length_set,hs.1];exact hok.1,hok.2.1,by show c.2.1.hand<n;rw[h6];exact hh⟩,h2,h3.drop hxi rfl,⟨Fm.free,by show(c.2.1.F.set i Fm.free)[i]? = _;rw[h4,List.set_set];exact List.getElem?_set_self hlen,by decide,rfl⟩,fun q hq hno=>⟨fun z hz=>?_,?_⟩⟩
  ·have hz':z∈c.2.1.F.set i Fm.free:=hz;rw[h4,List.set_set]at hz';obtain⟨j,hj⟩:=nG hz';rcases sO hj with ⟨e1,e2⟩|⟨hji,hj⟩
   ·rw[e2];show ¬(-1:Int)=_;omega
   ·obtain⟨y,m2,hy,rfl⟩:=hs.back hj;exact hno y (List.mem_of_getElem? hy)
  ·exact h5 q hq (show(p.F[i]).page≠(q:Int)from hno _ (List.getElem_mem hi))
theorem apV(hL:EX O pg J)(hJ:J s)(h:ig pg p.F (O.fJ s) V)(hok:D5 n p){q:Nat}(hq:q<pg):
  (p.get O pg s (q:Nat)).1=0/\D5 n (p.get O pg s (q:Nat)).2.2.1/\(p.get O pg s (q:Nat)).2.1=V q/\J (p.get O pg s (q:Nat)).2.2.2/\ig pg (p.get O pg s (q:Nat)).2.2.1.F (O.fJ (p.get O pg s (q:Nat)).2.2.2) V:=by
 unfold Pq.get;cases hf:fZ p.F (q:Nat)with
 | some i=>
  obtain⟨x,hx,hxp,_⟩:=mW hf;obtain⟨_,h2,_⟩:=h.page (List.mem_of_getElem? hx) hxp;simp only[getD_at hx];exact⟨trivial,⟨by rw[List.length_set];exact hok.1,hok.2⟩,h2,hJ,h.same (kU.set hx true)⟩
 | none=>
  have hno:∀z∈p.F,z.page≠((q:Nat):Int):=fun z hz=>BG hf (by omega) hz;obtain⟨r1,r2⟩:=hL.rd s hJ;obtain⟨h1,h7,h2,h3,⟨x,hx,hxp,_⟩,h5⟩:=ad6 hL r1 (h.disk r2) hok;have hpq:=h.out q hq hno;simp only[];rw[if_pos ⟨by omega,by omega⟩,Int.toNat_natCast];simp only[Pq.got,h1,if_true];have:=h3.put hq hx (.inr ⟨hxp,(h5 q hq hno).1⟩) ⟨(q:Nat),O.fJ s q,false,true,0,0⟩ (V q) (h.len q hq) rfl hpq (fun _=>((h5 q hq hno).2.trans (r2 q hq)).trans hpq);rw[DZ]at this;exact⟨trivial,⟨by rw[List.length_set];exact h7.1,h7.2⟩,hpq,h2,this⟩
theorem apW(hL:EX O pg J)(hJ:J s)(h:ig pg p.F (O.fJ s) V)(hok:D5 n p){q:Nat}(hq:q<pg)(b:List UInt8)(hb:b.length=512)(k:Int)(hk:1<=k):
  (p.put O pg s (q:Nat) b k).1=0/\D5 n (p.put O pg s (q:Nat) b k).2.1/\J (p.put O pg s (q:Nat) b k).2.2/\ig pg (p.put O pg s (q:Nat) b k).2.1.F (O.fJ (p.put O pg s (q:Nat) b k).2.2) (fF V q b):=by
 unfold Pq.put;rw[if_pos ⟨by omega,by omega,hb,hk⟩];cases hf:fZ p.F (q:Nat)with
 | some i=>
  obtain⟨x,hx,hxp,_⟩:=mW hf;simp only[Pq.putAt,getD_at hx];exact⟨trivial,⟨by rw[List.length_set];exact hok.1,hok.2⟩,hJ,h.put hq hx (.inl hxp) ⟨(q:Nat),b,true,true,_,k⟩ b hb rfl rfl (fun e=>by cases e)⟩
 | none=>
  have hno:∀z∈p.F,z.page≠((q:Nat):Int):=fun z hz=>BG hf (by omega) hz;obtain⟨h1,h7,h2,h3,⟨x,hx,hxp,_⟩,h5⟩:=ad6 hL hJ h hok;simp only[h1,if_true,Pq.putAt,getD_at hx];exact⟨trivial,⟨by rw[List.length_set];exact h7.1,h7.2⟩,h2,h3.put hq hx (.inr ⟨hxp,(h5 q hq hno).1⟩) ⟨(q:Nat),b,true,true,_,k⟩ b hb rfl rfl (fun e=>by cases e)⟩
theorem ig.new(pg n:Nat)(P:Nat->List UInt8)(hP:∀q,q<pg->(P q).length=512):ig pg (List.replicate n Fm.free) P P:=by
 refine⟨fun x hx=>?_,fun i j x y hx hy hij h0=>?_,fun q hq _=>rfl,hP⟩
 ·rw[List.eq_of_mem_replicate hx];exact .inl ⟨by decide,rfl⟩
 ·rw[List.eq_of_mem_replicate (List.mem_of_getElem? hx)]at h0;exact absurd h0 (by decide)
end
structure Cf.ok(c:Cf):Prop where
 fr:c.fr=2+c.n
 n2:2<=c.n
theorem Dv.good.jV{D:Dv}(h:D.good)(i:Nat)(l:List UInt8)(hi:i<D.l.length)(hl:l.length=128)(j:Nat):(D.write i l).sec j=if i=j then l else D.sec j:=by
 obtain⟨w1,w2,w3⟩:=h.write i l hi hl;unfold Dv.sec;rw[w2,w3,wW]
theorem Rg.Vb{n:Nat}{R:Rg}{D:Dv}(h:D.good)(hn:2<=n)(hD:2+n<=D.l.length)(k j:Nat)(hj:2+n<=j):∀m,(Rg.nM n R m k D).sec j=D.sec j
 | 0=>rfl
 | m+1=>by
  obtain⟨h1,h2,h3⟩:=Rg.ou (R:=R) h hn hD k m;have hm:=Nat.mod_lt (k+m) (show 0<n by omega);rw[Rg.uw,h1.jV _ _ (by rw[h2];omega) (R.je _),if_neg (by omega)];exact Rg.Vb h hn hD k j hj m
theorem Rg.zI{n:Nat}{R:Rg}{D:Dv}(h:D.good)(hn:2<=n)(hD:2+n<=D.l.length)(j:Nat)(hj:2+n<=j):(R.flush n D).2.good/\(R.flush n D).2.l.length=D.l.length/\(R.flush n D).2.sec j=D.sec j:=by
 unfold Rg.flush;split
 ·exact⟨h,rfl,rfl⟩
 ·obtain⟨g1,g2,_⟩:=Rg.uQ (R:=R) h hn hD;refine⟨g1,g2,?_⟩;show(R.jm n D).sec j=_;unfold Rg.jm;simp only[];generalize R.fin / 118=a;generalize (R.tail-1) / 118=b;obtain⟨h1,h2,h3⟩:=Rg.ou (R:=R) h hn hD (a+1) (b-a);have hm:∀k,2+k % n<2+n:=fun k=>by have:=Nat.mod_lt k (show 0<n by omega);omega
  have hz:dB.length=128:=by simp[dB]
  obtain⟨f1,f2,f3⟩:=h1.write (2+(b+1) % n) dB (by rw[h2];have:=hm (b+1);omega) hz;obtain⟨s1,s2,s3,s4⟩:=f1.sync;obtain⟨i1,i2,i3⟩:=s1.write (2+a % n) (R.sec a) (by rw[s2,f2,h2];have:=hm a;omega) (R.je a);obtain⟨j1,j2,j3,j4⟩:=i1.sync;have ha:=hm a;have hb:=hm (b+1);rw[j4,s1.jV _ _ (by rw[s2,f2,h2];omega) (R.je a),if_neg (by omega),s4,h1.jV _ _ (by rw[h2];omega) hz,if_neg (by omega)];exact Rg.Vb h hn hD _ j hj _
def Jg(c:Cf)(s:Io):Prop:=s.D.good/\c.fr+5+4*c.pg<=s.D.l.length
theorem Vd{c:Cf}(hc:c.ok){s:Io}(h:Jg c s):Jg c { D:=(s.R.flush c.n s.D).2,R:=(s.R.flush c.n s.D).1 }/\∀q,q<c.pg->(Io.ops c.n c.fr).fJ { D:=(s.R.flush c.n s.D).2,R:=(s.R.flush c.n s.D).1 } q=(Io.ops c.n c.fr).fJ s q:=by
 have h1:=hc.fr;have h2:=h.2;have hf:=fun j hj=>Rg.zI (R:=s.R) h.1 hc.n2 (by omega) j hj;refine⟨⟨(hf _ (Nat.le_refl _)).1,by rw[(hf _ (Nat.le_refl _)).2.1];exact h2⟩,fun q hq=>?_⟩;show dO _ _ 4=dO _ _ 4;exact kP (fun i i1 i2=>(hf i (by omega)).2.2)
theorem D6{c:Cf}(hc:c.ok):EX (Io.ops c.n c.fr) c.pg (Jg c) where
 step s l h:=by
  by_cases hl:(s.R.fin:Int)<l
  ·have e:(Io.ops c.n c.fr).step s l=(0,{ D:=(s.R.flush c.n s.D).2,R:=(s.R.flush c.n s.D).1 }):=if_pos hl;rw[e];exact⟨rfl,Vd hc h⟩
  ·have e:(Io.ops c.n c.fr).step s l=(0,s):=if_neg hl;rw[e];exact⟨rfl,h,fun q _=>rfl⟩
 wr s p b h hp hb:=by
  have h2:=h.2;obtain⟨g1,g2,g3,g4,g5⟩:=h.1.dQ c.fr p b hb (by omega);have g6:=h.1.Oj c.fr p b hb (by omega);have e:(Io.ops c.n c.fr).wr s p b={ s with D:=(s.D.dQ c.fr p b).2 }:=rfl;rw[e];generalize (s.D.dQ c.fr p b).2=D at *;exact⟨⟨g2,by show _<=D.l.length;rw[g3];exact h2⟩,fun q _=>g6 q⟩
 rd s h:=by
  obtain⟨r1,r2,_,_,r5⟩:=Dv.kH s.D 4;exact⟨⟨h.1.reads 4,by show _<=(s.D.reads 4).l.length;rw[r1];exact h.2⟩,fun q _=>kP (fun i _ _=>r5 i)⟩
structure mF(c:Cf)(nf:Nat)(σ:St)(V:Nat->List UInt8):Prop where
 J:Jg c σ.io
 hok:D5 nf σ.p
 inv:ig c.pg σ.p.F ((Io.ops c.n c.fr).fJ σ.io) V
section
variable{c:Cf}{nf:Nat}{σ σ':St}{V:Nat->List UInt8}
theorem mF.congr(h:mF c nf σ V)(hp:σ'.p=σ.p)(hD:σ'.io.D=σ.io.D):mF c nf σ' V:=by
 have hpg:(Io.ops c.n c.fr).fJ σ'.io=(Io.ops c.n c.fr).fJ σ.io:=by
  funext q;show dO σ'.io.D _ 4=dO σ.io.D _ 4;rw[hD]
 exact⟨⟨by rw[hD];exact h.J.1,by rw[hD];exact h.J.2⟩,by rw[hp];exact h.hok,by rw[hp,hpg];exact h.inv⟩
theorem mF.get(hc:c.ok)(h:mF c nf σ V){q:Nat}(hq:q<c.pg):(σ.get c q).1=0/\(σ.get c q).2.1=V q/\mF c nf (σ.get c q).2.2 V:=by
 obtain⟨h1,h2,h3,h4,h5⟩:=apV (D6 hc) h.J h.inv h.hok hq;exact⟨h1,h3,⟨h4,h2,h5⟩⟩
theorem mF.put(hc:c.ok)(h:mF c nf σ V){q:Nat}(hq:q<c.pg)(b:List UInt8)(hb:b.length=512)(l:Nat)(hl:1<=l):(σ.put c q b l).1=0/\mF c nf (σ.put c q b l).2 (fF V q b):=by
 obtain⟨h1,h2,h3,h4⟩:=apW (D6 hc) h.J h.inv h.hok hq b hb (l:Int) (by omega);exact⟨h1,⟨h3,h2,h4⟩⟩
theorem mF.flush(hc:c.ok)(h:mF c nf σ V)(hp:σ'.p=σ.p)(vV:σ'.io={ D:=(σ.io.R.flush c.n σ.io.D).2,R:=(σ.io.R.flush c.n σ.io.D).1 }):mF c nf σ' V:=by
 obtain⟨h1,h2⟩:=Vd hc h.J;exact⟨by rw[vV];exact h1,by rw[hp];exact h.hok,by rw[hp,vV];exact h.inv.disk h2⟩
end
end
end Go.Proofs.YtpajagkhmodbnaaGreat

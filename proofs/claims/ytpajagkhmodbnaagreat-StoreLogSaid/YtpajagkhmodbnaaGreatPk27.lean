/- Pk: texts of the store seat laid together by program: StView. Conditions: each theorem names its own. -/
import Derived.Test.YtpajagkhmodbnaaGreatPk15
import Derived.Test.YtpajagkhmodbnaaGreatPk20
namespace Go.Proofs.YtpajagkhmodbnaaGreat
set_option linter.unusedSimpArgs false
set_option linter.unusedVariables false
section
def UniqF(F:List Fm):Prop:=∀(i j:Nat)(x y:Fm),F[i]? = some x→F[j]? = some y→i≠j→0≤x.page→x.page≠y.page
theorem mem_at{α:Type}{l:List α}{x:α}(h:x∈l):∃i:Nat,l[i]? = some x:=by
 obtain⟨i,hi,e⟩:=List.getElem_of_mem h
 exact⟨i,by rw[List.getElem?_eq_getElem hi,e]⟩
theorem set_at{α:Type}{l:List α}{i j:Nat}{y z:α}(h:(l.set i y)[j]? = some z):(j=i∧z=y)∨(j≠i∧l[j]? = some z):=by
 rw[List.getElem?_set]at h
 by_cases e:i=j
 ·subst e
  rw[if_pos rfl]at h
  split at h
  ·exact .inl ⟨rfl,(Option.some.inj h).symm⟩
  ·cases h
 ·rw[if_neg e]at h
  exact .inr ⟨fun e2=>e e2.symm,h⟩
theorem uniq_set{F:List Fm}(hu:UniqF F){i:Nat}{y:Fm}(hy:0≤y.page→∀j z,F[j]? = some z→j≠i→z.page≠y.page):UniqF (F.set i y):=by
 intro a b x z hx hz hab h0
 rcases set_at hx with ⟨e1,e2⟩|⟨ha,hx2⟩
 ·rcases set_at hz with ⟨e3,e4⟩|⟨hb,hz2⟩
  ·exact absurd (e1.trans e3.symm) hab
  ·rw[e2]at h0⊢
   exact fun e=>hy h0 b z hz2 hb e.symm
 ·rcases set_at hz with ⟨e3,e4⟩|⟨hb,hz2⟩
  ·rw[e4]
   exact fun e=>hy (by rw[←e];exact h0) a x hx2 ha e
  ·exact hu a b x z hx2 hz2 hab h0
theorem findL_some{F:List Fm}{m:Int}{i:Nat}(h:findL F m=some i):∃x,F[i]? = some x∧x.page=m∧0≤m:=by
 obtain⟨h1,h2,_⟩:=List.findIdx?_eq_some_iff_getElem.1 h
 exact⟨F[i],List.getElem?_eq_getElem h1,isP_page h2⟩
theorem findL_none{F:List Fm}{m:Int}(h:findL F m=none)(hm:0≤m){x:Fm}(hx:x∈F):x.page≠m:=by
 have h1:=List.findIdx?_eq_none_iff.1 h x hx
 intro e
 unfold isP at h1
 rw[if_pos e]at h1
 simp[hm]at h1
theorem freeL_some{F:List Fm}{i:Nat}(h:freeL F=some i):∃x,F[i]? = some x∧x.page<0:=by
 obtain⟨h1,h2,_⟩:=List.findIdx?_eq_some_iff_getElem.1 h
 exact⟨F[i],List.getElem?_eq_getElem h1,by simpa[isE]using h2⟩
theorem getD_at{F:List Fm}{i:Nat}{x:Fm}(h:F[i]? = some x):F.getD i Fm.free=x:=by rw[List.getD_eq_getElem?_getD,h];rfl
def updV(V:Nat→List UInt8)(q:Nat)(b:List UInt8)(r:Nat):List UInt8:=if r=q then b else V r
theorem updV_self(V:Nat→List UInt8)(q:Nat):updV V q (V q)=V:=by funext x;unfold updV;split<;>simp_all
structure IoLaw{T:Type}(O:IoF T)(pg:Nat)(J:T→Prop):Prop where
 step:∀s l,J s→(O.step s l).1=0∧J (O.step s l).2∧∀q,q<pg→O.pgs (O.step s l).2 q=O.pgs s q
 wr:∀s p b,J s→p<pg→b.length=512→J (O.wr s p b)∧∀q,q<pg→O.pgs (O.wr s p b) q=if q=p then b else O.pgs s q
 rd:∀s,J s→J (O.rd s)∧∀q,q<pg→O.pgs (O.rd s) q=O.pgs s q
structure VInv(pg:Nat)(F:List Fm)(P V:Nat→List UInt8):Prop where
 fr:∀x∈F,(x.page<0∧x.dirty=false)∨∃q:Nat,q<pg∧x.page=q∧x.b=V q∧(x.dirty=false→P q=V q)
 uniq:UniqF F
 out:∀q:Nat,q<pg→(∀x∈F,x.page≠(q:Int))→P q=V q
 len:∀q:Nat,q<pg→(V q).length=512
section
variable{pg:Nat}{F F':List Fm}{P P' V:Nat→List UInt8}
theorem VInv.page(h:VInv pg F P V){x:Fm}(hx:x∈F){q:Nat}(hp:x.page=(q:Int)):q<pg∧x.b=V q∧(x.dirty=false→P q=V q):=by
 rcases h.fr x hx with ⟨h1,_⟩|⟨q',h0,h1,h2,h3⟩
 ·omega
 ·obtain rfl:q=q':=by omega
  exact⟨h0,h2,h3⟩
theorem VInv.disk(h:VInv pg F P V)(hP:∀q,q<pg→P' q=P q):VInv pg F P' V:=
 ⟨fun x hx=>(h.fr x hx).imp id (fun⟨q,a,b,c,d⟩=>⟨q,a,b,c,fun e=>(hP q a).trans (d e)⟩),h.uniq,fun q hq hno=>(hP q hq).trans (h.out q hq hno),h.len⟩
def SameF(F F':List Fm):Prop:=F'.length=F.length∧∀(i:Nat)(x:Fm),F[i]? = some x→∃m,F'[i]? = some { x with marked:=m }
theorem SameF.refl(F:List Fm):SameF F F:=⟨rfl,fun i x h=>⟨x.marked,h⟩⟩
theorem SameF.trans{F G H:List Fm}(h:SameF F G)(k:SameF G H):SameF F H:=⟨k.1.trans h.1,fun i x hx=>by
 obtain⟨m,hm⟩:=h.2 i x hx
 obtain⟨m2,hm2⟩:=k.2 i _ hm
 exact⟨m2,hm2⟩⟩
theorem SameF.set{F:List Fm}{i:Nat}{x:Fm}(hx:F[i]? = some x)(m:Bool):SameF F (F.set i { x with marked:=m }):=by
 refine⟨List.length_set,fun j y hy=>?_⟩
 by_cases e:i=j
 ·subst e
  rw[hx]at hy
  obtain rfl:=Option.some.inj hy
  exact⟨m,List.getElem?_set_self (List.getElem?_eq_some_iff.1 hx).1⟩
 ·exact⟨y.marked,by rw[List.getElem?_set_ne e];exact hy⟩
theorem SameF.back(h:SameF F F'){i:Nat}{y:Fm}(hy:F'[i]? = some y):∃x m,F[i]? = some x∧y={ x with marked:=m }:=by
 have hi:i<F.length:=by rw[←h.1];exact(List.getElem?_eq_some_iff.1 hy).1
 obtain⟨m,hm⟩:=h.2 i F[i] (List.getElem?_eq_getElem hi)
 rw[hy]at hm
 exact⟨F[i],m,List.getElem?_eq_getElem hi,Option.some.inj hm⟩
theorem VInv.same(h:VInv pg F P V)(hs:SameF F F'):VInv pg F' P V:=by
 refine⟨fun y hy=>?_,fun i j x y hx hy hij h0=>?_,fun q hq hno=>h.out q hq (fun x hx=>?_),h.len⟩
 ·obtain⟨i,hi⟩:=mem_at hy
  obtain⟨x,m,hx,rfl⟩:=hs.back hi
  exact h.fr x (List.mem_of_getElem? hx)
 ·obtain⟨a,m,ha,rfl⟩:=hs.back hx
  obtain⟨b,m2,hb,rfl⟩:=hs.back hy
  exact h.uniq i j a b ha hb hij h0
 ·obtain⟨i,hi⟩:=mem_at hx
  obtain⟨m,hm⟩:=hs.2 i x hi
  exact hno { x with marked:=m } (List.mem_of_getElem? hm)
theorem sweep_same{n:Nat}:∀(m:Nat)(F:List Fm)(h:Nat),SameF F (sweep n m F h).1
 | 0,F,h=>SameF.refl F
 | m + 1,F,h=>by
  rw[sweep]
  split
  ·cases hx:F[h]? with
   | none=>
    have:F.set h { F.getD h Fm.free with marked:=false }=F:=by
     rw[List.set_eq_of_length_le]
     exact List.getElem?_eq_none_iff.1 hx
    rw[this]
    exact sweep_same m F _
   | some x=>
    rw[getD_at hx]
    exact(SameF.set hx false).trans (sweep_same m _ _)
  ·exact SameF.refl F
theorem VInv.clean(h:VInv pg F P V){i:Nat}{x:Fm}(hx:F[i]? = some x)(hd:x.dirty=true):(x.page.toNat<pg∧x.b.length=512)∧VInv pg (F.set i { x with dirty:=false }) (updV P x.page.toNat x.b) V:=by
 obtain⟨q,hq,hp,hb,h2⟩:=(h.fr x (List.mem_of_getElem? hx)).resolve_left (by rintro⟨_,e⟩;rw[hd]at e;cases e)
 have hqn:x.page.toNat=q:=by rw[hp];rfl
 rw[hqn]
 have hne:∀j z,F[j]? = some z→j≠i→z.page≠(q:Int):=fun j z hz hji=>by
  rw[←hp];exact fun e2=>h.uniq i j x z hx hz (fun e=>hji e.symm) (by omega) e2.symm
 refine⟨⟨hq,by rw[hb];exact h.len q hq⟩,⟨fun z hz=>?_,uniq_set h.uniq (fun _ j z hz hj=>by show z.page≠x.page;rw[hp];exact hne j z hz hj),fun r hr hno=>?_,h.len⟩⟩
 ·obtain⟨j,hj⟩:=mem_at hz
  rcases set_at hj with ⟨e1,e2⟩|⟨hji,hj⟩
  ·rw[e2]
   exact .inr ⟨q,hq,hp,hb,fun _=>by unfold updV;rw[if_pos rfl,hb]⟩
  ·rcases h.fr z (List.mem_of_getElem? hj)with h1|⟨r,r0,r1,r2,r4⟩
   ·exact .inl h1
   ·have hrq:r≠q:=fun e=>hne j z hj hji (by rw[r1,e])
    exact .inr ⟨r,r0,r1,r2,fun e=>by unfold updV;rw[if_neg hrq];exact r4 e⟩
 ·have hrq:r≠q:=fun e=>hno _ (List.mem_of_getElem? (List.getElem?_set_self (List.getElem?_eq_some_iff.1 hx).1)) (by show x.page=_;rw[hp,e])
  unfold updV
  rw[if_neg hrq]
  refine h.out r hr (fun z hz=>?_)
  obtain⟨j,hj⟩:=mem_at hz
  by_cases e:i=j
  ·subst e
   rw[hx]at hj
   obtain rfl:=Option.some.inj hj
   rw[hp];omega
  ·exact hno z (List.mem_of_getElem? (by rw[List.getElem?_set_ne e];exact hj))
theorem VInv.drop(h:VInv pg F P V){i:Nat}{x:Fm}(hx:F[i]? = some x)(hd:x.dirty=false):VInv pg (F.set i Fm.free) P V:=by
 refine⟨fun z hz=>?_,uniq_set h.uniq (fun h0=>absurd h0 (by decide)),fun r hr hno=>?_,h.len⟩
 ·obtain⟨j,hj⟩:=mem_at hz
  rcases set_at hj with ⟨e1,e2⟩|⟨hji,hj⟩
  ·rw[e2];exact .inl ⟨by decide,rfl⟩
  ·exact h.fr z (List.mem_of_getElem? hj)
 ·by_cases e:x.page=(r:Int)
  ·exact(h.page (List.mem_of_getElem? hx) e).2.2 hd
  ·refine h.out r hr (fun z hz=>?_)
   obtain⟨j,hj⟩:=mem_at hz
   by_cases e2:i=j
   ·subst e2
    rw[hx]at hj
    obtain rfl:=Option.some.inj hj
    exact e
   ·exact hno z (List.mem_of_getElem? (by rw[List.getElem?_set_ne e2];exact hj))
theorem VInv.put(h:VInv pg F P V){i q:Nat}(hq:q<pg){x:Fm}(hx:F[i]? = some x)(hor:x.page=(q:Int)∨(x.page<0∧∀z∈F,z.page≠(q:Int)))(y:Fm)(b:List UInt8)(hb:b.length=512)(hy1:y.page=(q:Int))(hy2:y.b=b)(hy4:y.dirty=false→P q=b):
  VInv pg (F.set i y) P (updV V q b):=by
 have hne:∀j z,F[j]? = some z→j≠i→z.page≠(q:Int):=by
  intro j z hz hji
  rcases hor with e|⟨_,e⟩
  ·rw[←e];exact fun e2=>h.uniq i j x z hx hz (fun e=>hji e.symm) (by omega) e2.symm
  ·exact e z (List.mem_of_getElem? hz)
 refine⟨fun z hz=>?_,uniq_set h.uniq (fun _ j z hz hj=>by rw[hy1];exact hne j z hz hj),fun r hr hno=>?_,fun r hr=>?_⟩
 ·obtain⟨j,hj⟩:=mem_at hz
  rcases set_at hj with ⟨e1,e2⟩|⟨hji,hj⟩
  ·rw[e2]
   exact .inr ⟨q,hq,hy1,by simp[updV,hy2],fun e=>by simpa[updV]using hy4 e⟩
  ·rcases h.fr z (List.mem_of_getElem? hj)with h1|⟨r,r0,r1,r2,r4⟩
   ·exact .inl h1
   ·have hrq:r≠q:=fun e=>hne j z hj hji (by rw[r1,e])
    exact .inr ⟨r,r0,r1,by simp[updV,hrq,r2],fun e=>by simpa[updV,hrq]using r4 e⟩
 ·have hrq:r≠q:=fun e=>hno y (List.mem_of_getElem? (List.getElem?_set_self (List.getElem?_eq_some_iff.1 hx).1)) (by rw[hy1,e])
  have:updV V q b r=V r:=by simp[updV,hrq]
  rw[this]
  refine h.out r hr (fun z hz=>?_)
  obtain⟨j,hj⟩:=mem_at hz
  by_cases e:i=j
  ·subst e
   rw[hx]at hj
   obtain rfl:=Option.some.inj hj
   rcases hor with e|⟨e,_⟩<;>omega
  ·exact hno z (List.mem_of_getElem? (by rw[List.getElem?_set_ne e];exact hj))
 ·unfold updV
  split
  ·exact hb
  ·exact h.len r hr
end
section
variable{T:Type}{O:IoF T}{pg n:Nat}{J:T→Prop}{p:Pq}{s:T}{V:Nat→List UInt8}
theorem vclean(hL:IoLaw O pg J)(hJ:J s)(h:VInv pg p.F (O.pgs s) V){i:Nat}{x:Fm}(hx:p.F[i]? = some x):
  (p.clean O s i).1=0∧J (p.clean O s i).2.2∧VInv pg (p.clean O s i).2.1.F (O.pgs (p.clean O s i).2.2) V∧(p.clean O s i).2.1.F=p.F.set i { x with dirty:=false }∧(p.clean O s i).2.1.hand=p.hand∧
  (∀q,q<pg→(x.page≠(q:Int))→O.pgs (p.clean O s i).2.2 q=O.pgs s q):=by
 cases hd:x.dirty with
 | true=>
  obtain⟨a1,a2,a3⟩:=hL.step s x.lsn hJ
  obtain⟨⟨b1,b2⟩,b3⟩:=h.clean hx hd
  obtain⟨c1,c2⟩:=hL.wr _ x.page.toNat x.b a2 b1 b2
  rw[Pq.clean_ok (getD_at hx) hd (rs:=(O.step s x.lsn).2) (Prod.ext a1 rfl)]
  refine⟨rfl,c1,b3.disk (fun q hq=>?_),rfl,rfl,fun q hq hne=>?_⟩
  ·rw[c2 q hq];unfold updV;split
   ·rfl
   ·exact a3 q hq
  ·rw[c2 q hq,if_neg]
   ·exact a3 q hq
   ·intro e
    rcases h.fr x (List.mem_of_getElem? hx)with ⟨_,e2⟩|⟨r,_,e2,_⟩
    ·rw[hd]at e2;cases e2
    ·rw[e2]at e hne;apply hne;rw[e];rfl
 | false=>
  rw[Pq.clean_no (by rw[getD_at hx];exact hd)]
  refine⟨rfl,hJ,h,?_,rfl,fun q _ _=>rfl⟩
  show p.F=_
  have:({ x with dirty:=false }:Fm)=x:=by cases x;simp at hd;subst hd;rfl
  rw[this]
  apply List.ext_getElem?
  intro j
  rw[List.getElem?_set]
  split
  ·next e=>subst e;rw[hx,if_pos (List.getElem?_eq_some_iff.1 hx).1]
  ·rfl
def Hok(n:Nat)(p:Pq):Prop:=p.F.length=n∧1≤n∧p.hand<n
theorem vevict(hL:IoLaw O pg J)(hJ:J s)(h:VInv pg p.F (O.pgs s) V)(m:Int)(hok:Hok n p):
  (p.evict O s m).1=0∧J (p.evict O s m).2.2∧VInv pg (p.evict O s m).2.1.F (O.pgs (p.evict O s m).2.2) V∧Hok n (p.evict O s m).2.1:=by
 unfold Pq.evict
 cases hf:findL p.F m with
 | none=>exact⟨rfl,hJ,h,hok⟩
 | some i=>
  obtain⟨x,hx,hxp,_⟩:=findL_some hf
  obtain⟨h1,h2,h3,h4,h5,_⟩:=vclean hL hJ h hx
  simp only[h1,if_true]
  have hxi:(p.clean O s i).2.1.F[i]? = some { x with dirty:=false }:=by rw[h4];exact List.getElem?_set_self (List.getElem?_eq_some_iff.1 hx).1
  exact⟨trivial,h2,h3.drop hxi rfl,by rw[List.length_set,h4,List.length_set];exact hok.1,hok.2.1,by show(p.clean O s i).2.1.hand<n;rw[h5];exact hok.2.2⟩
theorem sweep_hand{n:Nat}(hn:0<n):∀(m:Nat)(F:List Fm)(h:Nat),h<n→(sweep n m F h).2.1<n
 | 0,F,h,hh=>hh
 | m+1,F,h,hh=>by
  rw[sweep]
  split
  ·exact sweep_hand hn m _ _ (Nat.mod_lt _ hn)
  ·exact Nat.mod_lt _ hn
theorem vfree(hL:IoLaw O pg J)(hJ:J s)(h:VInv pg p.F (O.pgs s) V)(hok:Hok n p):
  (p.free O s).1=0∧Hok n (p.free O s).2.2.1∧J (p.free O s).2.2.2∧VInv pg (p.free O s).2.2.1.F (O.pgs (p.free O s).2.2.2) V∧(∃x,(p.free O s).2.2.1.F[(p.free O s).2.1]? = some x∧x.page<0∧x.dirty=false)∧
  (∀q:Nat,q<pg→(∀x∈p.F,x.page≠(q:Int))→(∀x∈(p.free O s).2.2.1.F,x.page≠(q:Int))∧O.pgs (p.free O s).2.2.2 q=O.pgs s q):=by
 unfold Pq.free
 cases hf:freeL p.F with
 | some i=>
  obtain⟨x,hx,hxp⟩:=freeL_some hf
  refine⟨rfl,hok,hJ,h,⟨x,hx,hxp,?_⟩,fun q _ h=>⟨h,rfl⟩⟩
  rcases h.fr x (List.mem_of_getElem? hx)with ⟨_,e⟩|⟨r,_,e,_⟩
  ·exact e
  ·omega
 | none=>
  have hs:SameF p.F p.swept.1:=sweep_same _ _ _
  have hi:p.swept.2.2<p.F.length:=sweep_lt (by rw[hok.1];have:=hok.2.1;omega) _ _ _ (by rw[hok.1];exact hok.2.2)
  have hh:p.swept.2.1<n:=by rw[←hok.1];exact sweep_hand (by rw[hok.1];have:=hok.2.1;omega) _ _ _ (by rw[hok.1];exact hok.2.2)
  obtain⟨m,hm⟩:=hs.2 _ _ (List.getElem?_eq_getElem hi)
  have hk:VInv pg (Pq.mk p.swept.1 p.swept.2.1 p.wr).F (O.pgs s) V:=h.same hs
  obtain⟨h1,h2,h3,h4,h6,h5⟩:=vclean hL hJ (p:=Pq.mk p.swept.1 p.swept.2.1 p.wr) hk hm
  simp only[Pq.freed]
  generalize hc:Pq.clean O { p with F:=p.swept.1,hand:=p.swept.2.1 } s p.swept.2.2=c at *
  generalize p.swept.2.2=i at *
  rw[if_pos h1]
  have hlen:i<p.swept.1.length:=by rw[hs.1];exact hi
  have hxi:c.2.1.F[i]? = some { ({ p.F[i]with marked:=m }:Fm)with dirty:=false }:=by rw[h4];exact List.getElem?_set_self hlen
  refine⟨rfl,⟨by show(c.2.1.F.set i Fm.free).length=n;rw[List.length_set,h4,List.length_set,hs.1];exact hok.1,hok.2.1,by show c.2.1.hand<n;rw[h6];exact hh⟩,h2,h3.drop hxi rfl,⟨Fm.free,by show(c.2.1.F.set i Fm.free)[i]? = _;rw[h4,List.set_set];exact List.getElem?_set_self hlen,by decide,rfl⟩,fun q hq hno=>⟨fun z hz=>?_,?_⟩⟩
  ·have hz':z∈c.2.1.F.set i Fm.free:=hz
   rw[h4,List.set_set]at hz'
   obtain⟨j,hj⟩:=mem_at hz'
   rcases set_at hj with ⟨e1,e2⟩|⟨hji,hj⟩
   ·rw[e2];show ¬(-1:Int)=_;omega
   ·obtain⟨y,m2,hy,rfl⟩:=hs.back hj
    exact hno y (List.mem_of_getElem? hy)
  ·exact h5 q hq (show(p.F[i]).page≠(q:Int)from hno _ (List.getElem_mem hi))
theorem vget(hL:IoLaw O pg J)(hJ:J s)(h:VInv pg p.F (O.pgs s) V)(hok:Hok n p){q:Nat}(hq:q<pg):
  (p.get O pg s (q:Nat)).1=0∧Hok n (p.get O pg s (q:Nat)).2.2.1∧(p.get O pg s (q:Nat)).2.1=V q∧J (p.get O pg s (q:Nat)).2.2.2∧VInv pg (p.get O pg s (q:Nat)).2.2.1.F (O.pgs (p.get O pg s (q:Nat)).2.2.2) V:=by
 unfold Pq.get
 cases hf:findL p.F (q:Nat)with
 | some i=>
  obtain⟨x,hx,hxp,_⟩:=findL_some hf
  obtain⟨_,h2,_⟩:=h.page (List.mem_of_getElem? hx) hxp
  simp only[getD_at hx]
  exact⟨trivial,⟨by rw[List.length_set];exact hok.1,hok.2⟩,h2,hJ,h.same (SameF.set hx true)⟩
 | none=>
  have hno:∀z∈p.F,z.page≠((q:Nat):Int):=fun z hz=>findL_none hf (by omega) hz
  obtain⟨r1,r2⟩:=hL.rd s hJ
  obtain⟨h1,h7,h2,h3,⟨x,hx,hxp,_⟩,h5⟩:=vfree hL r1 (h.disk r2) hok
  have hpq:=h.out q hq hno
  simp only[]
  rw[if_pos ⟨by omega,by omega⟩,Int.toNat_natCast]
  simp only[Pq.got,h1,if_true]
  have:=h3.put hq hx (.inr ⟨hxp,(h5 q hq hno).1⟩) ⟨(q:Nat),O.pgs s q,false,true,0,0⟩ (V q) (h.len q hq) rfl hpq (fun _=>((h5 q hq hno).2.trans (r2 q hq)).trans hpq)
  rw[updV_self]at this
  exact⟨trivial,⟨by rw[List.length_set];exact h7.1,h7.2⟩,hpq,h2,this⟩
theorem vput(hL:IoLaw O pg J)(hJ:J s)(h:VInv pg p.F (O.pgs s) V)(hok:Hok n p){q:Nat}(hq:q<pg)(b:List UInt8)(hb:b.length=512)(k:Int)(hk:1≤k):
  (p.put O pg s (q:Nat) b k).1=0∧Hok n (p.put O pg s (q:Nat) b k).2.1∧J (p.put O pg s (q:Nat) b k).2.2∧VInv pg (p.put O pg s (q:Nat) b k).2.1.F (O.pgs (p.put O pg s (q:Nat) b k).2.2) (updV V q b):=by
 unfold Pq.put
 rw[if_pos ⟨by omega,by omega,hb,hk⟩]
 cases hf:findL p.F (q:Nat)with
 | some i=>
  obtain⟨x,hx,hxp,_⟩:=findL_some hf
  simp only[Pq.putAt,getD_at hx]
  exact⟨trivial,⟨by rw[List.length_set];exact hok.1,hok.2⟩,hJ,h.put hq hx (.inl hxp) ⟨(q:Nat),b,true,true,_,k⟩ b hb rfl rfl (fun e=>by cases e)⟩
 | none=>
  have hno:∀z∈p.F,z.page≠((q:Nat):Int):=fun z hz=>findL_none hf (by omega) hz
  obtain⟨h1,h7,h2,h3,⟨x,hx,hxp,_⟩,h5⟩:=vfree hL hJ h hok
  simp only[h1,if_true,Pq.putAt,getD_at hx]
  exact⟨trivial,⟨by rw[List.length_set];exact h7.1,h7.2⟩,h2,h3.put hq hx (.inr ⟨hxp,(h5 q hq hno).1⟩) ⟨(q:Nat),b,true,true,_,k⟩ b hb rfl rfl (fun e=>by cases e)⟩
theorem VInv.new(pg n:Nat)(P:Nat→List UInt8)(hP:∀q,q<pg→(P q).length=512):VInv pg (List.replicate n Fm.free) P P:=by
 refine⟨fun x hx=>?_,fun i j x y hx hy hij h0=>?_,fun q hq _=>rfl,hP⟩
 ·rw[List.eq_of_mem_replicate hx];exact .inl ⟨by decide,rfl⟩
 ·rw[List.eq_of_mem_replicate (List.mem_of_getElem? hx)]at h0
  exact absurd h0 (by decide)
end
structure Cf.ok(c:Cf):Prop where
 fr:c.fr=2+c.n
 n2:2≤c.n
theorem Dv.good.write_sec{D:Dv}(h:D.good)(i:Nat)(l:List UInt8)(hi:i<D.l.length)(hl:l.length=128)(j:Nat):(D.write i l).sec j=if i=j then l else D.sec j:=by
 obtain⟨w1,w2,w3⟩:=h.write i l hi hl
 unfold Dv.sec
 rw[w2,w3,overC_snoc]
theorem Rg.wrs_sec{n:Nat}{R:Rg}{D:Dv}(h:D.good)(hn:2≤n)(hD:2+n≤D.l.length)(k j:Nat)(hj:2+n≤j):∀m,(Rg.wrs n R m k D).sec j=D.sec j
 | 0=>rfl
 | m+1=>by
  obtain⟨h1,h2,h3⟩:=Rg.wrs_good (R:=R) h hn hD k m
  have hm:=Nat.mod_lt (k+m) (show 0<n by omega)
  rw[Rg.wrs_snoc,h1.write_sec _ _ (by rw[h2];omega) (R.sec_len _),if_neg (by omega)]
  exact Rg.wrs_sec h hn hD k j hj m
theorem Rg.flush_sec{n:Nat}{R:Rg}{D:Dv}(h:D.good)(hn:2≤n)(hD:2+n≤D.l.length)(j:Nat)(hj:2+n≤j):(R.flush n D).2.good∧(R.flush n D).2.l.length=D.l.length∧(R.flush n D).2.sec j=D.sec j:=by
 unfold Rg.flush
 split
 ·exact⟨h,rfl,rfl⟩
 ·obtain⟨g1,g2,_⟩:=Rg.flushD_good (R:=R) h hn hD
  refine⟨g1,g2,?_⟩
  show(R.flushD n D).sec j=_
  unfold Rg.flushD
  simp only[]
  generalize R.fin / 118=a
  generalize (R.tail-1) / 118=b
  obtain⟨h1,h2,h3⟩:=Rg.wrs_good (R:=R) h hn hD (a+1) (b-a)
  have hm:∀k,2+k % n<2+n:=fun k=>by have:=Nat.mod_lt k (show 0<n by omega);omega
  have hz:zsec.length=128:=by simp[zsec]
  obtain⟨f1,f2,f3⟩:=h1.write (2+(b+1) % n) zsec (by rw[h2];have:=hm (b+1);omega) hz
  obtain⟨s1,s2,s3,s4⟩:=f1.sync
  obtain⟨i1,i2,i3⟩:=s1.write (2+a % n) (R.sec a) (by rw[s2,f2,h2];have:=hm a;omega) (R.sec_len a)
  obtain⟨j1,j2,j3,j4⟩:=i1.sync
  have ha:=hm a
  have hb:=hm (b+1)
  rw[j4,s1.write_sec _ _ (by rw[s2,f2,h2];omega) (R.sec_len a),if_neg (by omega),s4,h1.write_sec _ _ (by rw[h2];omega) hz,if_neg (by omega)]
  exact Rg.wrs_sec h hn hD _ j hj _
def IoJ(c:Cf)(s:Io):Prop:=s.D.good∧c.fr+5+4*c.pg≤s.D.l.length
theorem flush_J{c:Cf}(hc:c.ok){s:Io}(h:IoJ c s):IoJ c { D:=(s.R.flush c.n s.D).2,R:=(s.R.flush c.n s.D).1 }∧∀q,q<c.pg→(Io.ops c.n c.fr).pgs { D:=(s.R.flush c.n s.D).2,R:=(s.R.flush c.n s.D).1 } q=(Io.ops c.n c.fr).pgs s q:=by
 have h1:=hc.fr
 have h2:=h.2
 have hf:=fun j hj=>Rg.flush_sec (R:=s.R) h.1 hc.n2 (by omega) j hj
 refine⟨⟨(hf _ (Nat.le_refl _)).1,by rw[(hf _ (Nat.le_refl _)).2.1];exact h2⟩,fun q hq=>?_⟩
 show secsD _ _ 4=secsD _ _ 4
 exact secsD_ext (fun i i1 i2=>(hf i (by omega)).2.2)
theorem io_law{c:Cf}(hc:c.ok):IoLaw (Io.ops c.n c.fr) c.pg (IoJ c) where
 step s l h:=by
  by_cases hl:(s.R.fin:Int)<l
  ·have e:(Io.ops c.n c.fr).step s l=(0,{ D:=(s.R.flush c.n s.D).2,R:=(s.R.flush c.n s.D).1 }):=if_pos hl
   rw[e]
   exact⟨rfl,flush_J hc h⟩
  ·have e:(Io.ops c.n c.fr).step s l=(0,s):=if_neg hl
   rw[e]
   exact⟨rfl,h,fun q _=>rfl⟩
 wr s p b h hp hb:=by
  have h2:=h.2
  obtain⟨g1,g2,g3,g4,g5⟩:=h.1.fwrite c.fr p b hb (by omega)
  have g6:=h.1.fwrite_pages c.fr p b hb (by omega)
  have e:(Io.ops c.n c.fr).wr s p b={ s with D:=(s.D.fwrite c.fr p b).2 }:=rfl
  rw[e]
  generalize (s.D.fwrite c.fr p b).2=D at *
  exact⟨⟨g2,by show _≤D.l.length;rw[g3];exact h2⟩,fun q _=>g6 q⟩
 rd s h:=by
  obtain⟨r1,r2,_,_,r5⟩:=Dv.reads_l s.D 4
  exact⟨⟨h.1.reads 4,by show _≤(s.D.reads 4).l.length;rw[r1];exact h.2⟩,fun q _=>secsD_ext (fun i _ _=>r5 i)⟩
structure StV(c:Cf)(nf:Nat)(σ:St)(V:Nat→List UInt8):Prop where
 J:IoJ c σ.io
 hok:Hok nf σ.p
 inv:VInv c.pg σ.p.F ((Io.ops c.n c.fr).pgs σ.io) V
section
variable{c:Cf}{nf:Nat}{σ σ':St}{V:Nat→List UInt8}
theorem StV.congr(h:StV c nf σ V)(hp:σ'.p=σ.p)(hD:σ'.io.D=σ.io.D):StV c nf σ' V:=by
 have hpg:(Io.ops c.n c.fr).pgs σ'.io=(Io.ops c.n c.fr).pgs σ.io:=by
  funext q
  show secsD σ'.io.D _ 4=secsD σ.io.D _ 4
  rw[hD]
 exact⟨⟨by rw[hD];exact h.J.1,by rw[hD];exact h.J.2⟩,by rw[hp];exact h.hok,by rw[hp,hpg];exact h.inv⟩
theorem StV.get(hc:c.ok)(h:StV c nf σ V){q:Nat}(hq:q<c.pg):(σ.get c q).1=0∧(σ.get c q).2.1=V q∧StV c nf (σ.get c q).2.2 V:=by
 obtain⟨h1,h2,h3,h4,h5⟩:=vget (io_law hc) h.J h.inv h.hok hq
 exact⟨h1,h3,⟨h4,h2,h5⟩⟩
theorem StV.put(hc:c.ok)(h:StV c nf σ V){q:Nat}(hq:q<c.pg)(b:List UInt8)(hb:b.length=512)(l:Nat)(hl:1≤l):(σ.put c q b l).1=0∧StV c nf (σ.put c q b l).2 (updV V q b):=by
 obtain⟨h1,h2,h3,h4⟩:=vput (io_law hc) h.J h.inv h.hok hq b hb (l:Int) (by omega)
 exact⟨h1,⟨h3,h2,h4⟩⟩
theorem StV.flush(hc:c.ok)(h:StV c nf σ V)(hp:σ'.p=σ.p)(hio:σ'.io={ D:=(σ.io.R.flush c.n σ.io.D).2,R:=(σ.io.R.flush c.n σ.io.D).1 }):StV c nf σ' V:=by
 obtain⟨h1,h2⟩:=flush_J hc h.J
 exact⟨by rw[hio];exact h1,by rw[hp];exact h.hok,by rw[hp,hio];exact h.inv.disk h2⟩
end
end
end Go.Proofs.YtpajagkhmodbnaaGreat

/- Pr: texts of the store seat laid together by program: Raw Raw2. Conditions: each theorem names its own. -/
import Derived.Test.YtpajagkhmodbnaaGreatPr23
import Derived.Test.YtpajagkhmodbnaaGreatPr27
namespace Go.Proofs.YtpajagkhmodbnaaGreat
set_option linter.unusedSimpArgs false
set_option linter.unusedVariables false
section
theorem ML{α:Type}[DecidableEq α]:∀(l ps:List α),l.Nodup->(∀x∈l,x∈ps)->l.length<=ps.length
 | [],ps,_,_=>Nat.zero_le _
 | a::l,ps,hn,hs=>by
  obtain⟨h1,h2⟩:=List.nodup_cons.1 hn;have ha:=hs a (List.mem_cons_self ..);have h3:=ML l (ps.erase a) h2 (fun x hx=>(List.mem_erase_of_ne (fun(e:x=a)=>h1 (by rw[<-e];exact hx))).2 (hs x (List.mem_cons_of_mem _ hx)));rw[List.length_erase_of_mem ha]at h3;have:=List.length_pos_of_mem ha;rw[List.length_cons];omega
theorem zM{F:List Fm}{ps:List Int}(hu:zH F)(hf:∀x∈F,x.page<0\/x.page∈ps)(hl:ps.length<F.length):∃i,wX F=some i:=by
 cases h:wX F with
 | some i=>exact⟨i,rfl⟩
 | none=>
  have h0:∀x∈F,¬x.page<0:=fun x hx hlt=>by
   have:=List.findIdx?_eq_none_iff.1 h x hx;unfold KN at this;simp[hlt]at this
  have hn:(F.map (·.page)).Nodup:=by
   refine List.pairwise_iff_getElem.2 (fun i j hi hj hij e=>?_);rw[List.length_map]at hi hj;rw[List.getElem_map,List.getElem_map]at e;exact hu i j _ _ (List.getElem?_eq_getElem hi) (List.getElem?_eq_getElem hj) (by omega) (by have:=h0 _ (List.getElem_mem hi);omega) e
  have:=ML (F.map (·.page)) ps hn (fun x hx=>by
   obtain⟨y,hy,rfl⟩:=List.mem_map.1 hx;exact(hf y hy).elim (fun h=>absurd h (h0 y hy)) id)
  rw[List.length_map]at this;omega
structure Raw(nf dn:Nat)(ps:List Int)(D0:Nat->List UInt8)(σ:St):Prop where
 sec:σ.io.D.sec=D0
 c0:σ.io.D.c=[]
 fin:σ.io.R.fin=0
 fr:∀x∈σ.p.F,x.page<0\/x.page∈ps
 len:σ.p.F.length=nf
 dl:σ.io.D.l.length=dn
theorem fU(D:Dv)(k:Nat):(D.reads k).sec=D.sec:=by
 induction k with
 | zero=>rfl
 | succ k ih=>rw[<-ih];rfl
theorem Ib(D:Dv)(k:Nat):(D.reads k).c=D.c:=by
 induction k with
 | zero=>rfl
 | succ k ih=>rw[<-ih];rfl
section
variable{nf dn:Nat}{ps:List Int}{D0:Nat->List UInt8}{σ σ':St}{c:Cf}{V:Nat->List UInt8}
theorem JA{F:List Fm}{ps:List Int}(h:∀x∈F,x.page<0\/x.page∈ps)(i:Nat)(y:Fm)(hy:y.page<0\/y.page∈ps):∀x∈F.set i y,x.page<0\/x.page∈ps:=fun x hx=>by
 rcases List.mem_or_eq_of_mem_set hx with hx|rfl
 ·exact h x hx
 ·exact hy
theorem afS{F:List Fm}{ps:List Int}(h:∀x∈F,x.page<0\/x.page∈ps)(i:Nat):(F.getD i Fm.free).page<0\/(F.getD i Fm.free).page∈ps:=by
 rw[List.getD_eq_getElem?_getD];cases hx:F[i]? with
 | none=>exact .inl (by decide)
 | some x=>exact h x (List.mem_of_getElem? hx)
theorem Raw.get(h:Raw nf dn ps D0 σ)(hu:zH σ.p.F)(hl:ps.length<nf)(q:Nat)(hq:(q:Int)∈ps)(hq2:q<c.pg):Raw nf dn ps D0 (σ.get c q).2.2:=by
 unfold St.get;simp only[];cases hf:fZ σ.p.F (q:Int)with
 | some i=>
  have e:σ.p.get c.ops c.pg σ.io (q:Int)=(0,(σ.p.F.getD i Fm.free).b,{ σ.p with F:=σ.p.F.set i { σ.p.F.getD i Fm.free with marked:=true } },σ.io):=by unfold Pq.get;rw[hf]
  rw[e];exact⟨h.sec,h.c0,h.fin,JA h.fr i _ (afS h.fr i),by show(List.set _ _ _).length=_;rw[List.length_set];exact h.len,h.dl⟩
 | none=>
  obtain⟨i,hi⟩:=zM hu h.fr (by rw[h.len];exact hl);have e:σ.p.get c.ops c.pg σ.io (q:Int)=(0,c.ops.fJ σ.io q,{ σ.p with F:=σ.p.F.set i ⟨q,c.ops.fJ σ.io q,false,true,0,0⟩ },c.ops.rd σ.io):=by
   unfold Pq.get;rw[hf];simp only[];rw[if_pos (by omega)];unfold Pq.free Pq.got;rw[hi];simp only[];rfl
  rw[e];exact⟨(fU _ 4).trans h.sec,(Ib _ 4).trans h.c0,h.fin,JA h.fr i _ (.inr hq),by show(List.set _ _ _).length=_;rw[List.length_set];exact h.len,by show(σ.io.D.reads 4).l.length=dn;rw[Dv.fM];exact h.dl⟩
theorem Raw.put(h:Raw nf dn ps D0 σ)(hu:zH σ.p.F)(hl:ps.length<nf)(q:Nat)(hq:(q:Int)∈ps)(b:List UInt8)(l:Nat):Raw nf dn ps D0 (σ.put c q b l).2:=by
 unfold St.put;simp only[];by_cases hc:0<=(q:Int)/\(q:Int)<(c.pg:Int)/\b.length=512/\1<=(l:Int)
 ·cases hf:fZ σ.p.F (q:Int)with
  | some i=>
   have e:σ.p.put c.ops c.pg σ.io (q:Int) b l=(0,σ.p.putAt i q b l,σ.io):=by unfold Pq.put;rw[if_pos hc,hf]
   rw[e];exact⟨h.sec,h.c0,h.fin,JA h.fr i _ (.inr hq),by show(List.set _ _ _).length=_;rw[List.length_set];exact h.len,h.dl⟩
  | none=>
   obtain⟨i,hi⟩:=zM hu h.fr (by rw[h.len];exact hl);have e0:σ.p.free c.ops σ.io=(0,i,σ.p,σ.io):=by unfold Pq.free;rw[hi]
   have e:σ.p.put c.ops c.pg σ.io (q:Int) b l=(0,σ.p.putAt i q b l,σ.io):=by unfold Pq.put;rw[if_pos hc,hf];simp only[];rw[e0];rfl
   rw[e];exact⟨h.sec,h.c0,h.fin,JA h.fr i _ (.inr hq),by show(List.set _ _ _).length=_;rw[List.length_set];exact h.len,h.dl⟩
 ·have e:σ.p.put c.ops c.pg σ.io (q:Int) b l=(1,σ.p,σ.io):=by unfold Pq.put;rw[if_neg hc]
  rw[e];exact⟨h.sec,h.c0,h.fin,h.fr,h.len,h.dl⟩
theorem Raw.lay(h:Raw nf dn ps D0 σ)(r:Rc):Raw nf dn ps D0 (σ.lay c r).2.2:=by
 unfold St.lay;split
 ·exact h
 ·exact⟨h.sec,h.c0,h.fin,h.fr,h.len,h.dl⟩
theorem Raw.begin_(h:Raw nf dn ps D0 σ):Raw nf dn ps D0 (σ.begin_ c).2.2:=by
 unfold St.begin_;simp only[];have h1:=h.lay (c:=c) { Rc.zero with kind:=1,aV:=σ.next };generalize σ.lay c { Rc.zero with kind:=1,aV:=σ.next }=a at h1⊢;split
 ·exact⟨h1.sec,h1.c0,h1.fin,h1.fr,h1.len,h1.dl⟩
 ·exact h1
theorem Raw.write(hc:c.ok)(hV:mF c nf σ V)(h:Raw nf dn ps D0 σ)(hl:ps.length<nf)(i:Nat)(x:Tx)(q:Nat)(hq:(q:Int)∈ps)(hq2:q<c.pg)(off:Nat)(b:List UInt8):Raw nf dn ps D0 (σ.write c i x q off b).2:=by
 have h1:=h.get (c:=c) hV.inv.uniq hl q hq hq2;obtain⟨g0,_,g2⟩:=hV.get hc hq2;unfold St.write;simp only[];split
 ·exact h1
 ·split
  ·exact h1
  ·split
   ·exact h1.lay _
   ·have h2:=h1.lay (c:=c) { Rc.zero with kind:=2,aV:=x.id,prev:=x.last,page:=q,off:=off,before:=((σ.get c q).2.1.drop (8+off)).take b.length,after:=b };have hu2:zH ((σ.get c q).2.2.lay c { Rc.zero with kind:=2,aV:=x.id,prev:=x.last,page:=q,off:=off,before:=((σ.get c q).2.1.drop (8+off)).take b.length,after:=b }).2.2.p.F:=by
     unfold St.lay;split
     ·exact g2.inv.uniq
     ·exact g2.inv.uniq
    generalize ((σ.get c q).2.2.lay c { Rc.zero with kind:=2,aV:=x.id,prev:=x.last,page:=q,off:=off,before:=((σ.get c q).2.1.drop (8+off)).take b.length,after:=b })=a at h2 hu2⊢;have h3:Raw nf dn ps D0 (a.2.2.wZ i { x with l:=x.l++[⟨a.2.1,x.last,q,off,((σ.get c q).2.1.drop (8+off)).take b.length⟩],last:=a.2.1 }):=⟨h2.sec,h2.c0,h2.fin,h2.fr,h2.len,h2.dl⟩
    exact h3.put hu2 hl q hq _ _
end
end
section
theorem Dv.good.Yq{D:Dv}(h:D.good)(fr p:Nat)(b:List UInt8)(hb:b.length=512)(hq:fr+5+4*(p+1)<=D.l.length):
  (∀i,i<fr->(D.dQ fr p b).2.sec i=D.sec i)/\(D.dQ fr p b).2.sec fr=dB:=by
 obtain⟨a1,a2,a3,a4,a5⟩:=Dv.good.dI (q:=fr+1) (b:=b) 4 0 D h (by omega) (by omega);obtain⟨b1,b2,b3,b4,b5⟩:=Dv.good.dI (q:=fr) (b:=fO (p+1) 8) 1 0 _ a2 (by omega) (by rw[kQ _ (by omega)]);obtain⟨c1,c2,c3,c4,c5⟩:=Dv.good.dI (q:=fr+5+4*p) (b:=b) 4 0 _ b2 (by omega) (by omega);obtain⟨d1,d2,d3,d4,d5⟩:=Dv.good.dI (q:=fr) (b:=fO 0 8) 1 0 _ c2 (by omega) (by rw[kQ _ (by omega)]);unfold Dv.dQ;rw[if_pos a1,if_pos b1,if_pos c1];refine⟨fun i hi=>?_,?_⟩
 ·rw[d5,if_neg (by omega),c5,if_neg (by omega),b5,if_neg (by omega),a5,if_neg (by omega)]
 ·rw[d5,if_pos (by omega),Nat.sub_self];decide
section
variable{nf dn:Nat}{ps:List Int}{D0:Nat->List UInt8}{σ σ':St}{c:Cf}{V:Nat->List UInt8}
theorem found{F:List Fm}(hu:zH F){y:Fm}(hy:y∈F){q:Nat}(hq:y.page=(q:Int)):∃i,fZ F (q:Int)=some i/\F.getD i Fm.free=y:=by
 obtain⟨j,hj⟩:=nG hy;have h1:(fZ F (q:Int)).isSome:=by
  unfold fZ;rw[List.findIdx?_isSome];refine List.any_eq_true.2 ⟨y,hy,?_⟩;unfold zi;rw[if_pos hq];simp
 obtain⟨i,hi⟩:=Option.isSome_iff_exists.1 h1;obtain⟨x,hx,hxp,_⟩:=mW hi;refine⟨i,hi,?_⟩;by_cases e:i=j
 ·subst e;exact getD_at hj
 ·exact absurd (hxp.trans hq.symm) (hu i j x y hx hj e (by omega))
theorem aaG(q:Nat)(b:List UInt8)(l:Nat)(hq:q<c.pg)(hb:b.length=512)(hl:1<=l)(hfr:(fZ σ.p.F (q:Int)).isSome\/(wX σ.p.F).isSome):
  ∃y∈(σ.put c q b l).2.p.F,y.page=(q:Int)/\y.dirty=true/\y.aN=(l:Int):=by
 have hc:0<=(q:Int)/\(q:Int)<(c.pg:Int)/\b.length=512/\1<=(l:Int):=⟨by omega,by omega,hb,by omega⟩
 unfold St.put;simp only[];cases hf:fZ σ.p.F (q:Int)with
 | some i=>
  have e:σ.p.put c.ops c.pg σ.io (q:Int) b l=(0,σ.p.putAt i q b l,σ.io):=by unfold Pq.put;rw[if_pos hc,hf]
  rw[e];have hi:i<σ.p.F.length:=(List.findIdx?_eq_some_iff_getElem.1 hf).1;exact⟨_,List.mem_set hi _,rfl,rfl,rfl⟩
 | none=>
  rw[hf]at hfr;obtain⟨i,hi⟩:=Option.isSome_iff_exists.1 (hfr.resolve_left (by simp));have e0:σ.p.free c.ops σ.io=(0,i,σ.p,σ.io):=by unfold Pq.free;rw[hi]
  have e:σ.p.put c.ops c.pg σ.io (q:Int) b l=(0,σ.p.putAt i q b l,σ.io):=by unfold Pq.put;rw[if_pos hc,hf];simp only[];rw[e0];rfl
  rw[e];have hi2:i<σ.p.F.length:=(List.findIdx?_eq_some_iff_getElem.1 hi).1;exact⟨_,List.mem_set hi2 _,rfl,rfl,rfl⟩
structure Held(c:Cf)(D0:Nat->List UInt8)(L:List UInt8)(D:Dv):Prop where
 good:D.good
 c0:D.c=[]
 m0:D.sec 0=D0 0
 m1:D.sec 1=D0 1
 log:L≠[]->(∀k,k<=(L.length-1) / 118->D.sec (2+k)=(⟨0,L,0,0⟩:Rg).sec k)/\D.sec (2+((L.length-1) / 118+1))=dB
 nil:L=[]->D.sec 2=dB
 head:D.sec c.fr=dB
theorem Held.reads{L:List UInt8}{D:Dv}(h:Held c D0 L D)(k:Nat):Held c D0 L (D.reads k):=
 ⟨h.good.reads k,(Ib D k).trans h.c0,by rw[fU];exact h.m0,by rw[fU];exact h.m1,fun hl=>by rw[fU];exact h.log hl,fun hl=>by rw[fU];exact h.nil hl,by rw[fU];exact h.head⟩
theorem aaH(R:Rg)(k:Nat)(hb:R.base=0):R.sec k=(⟨0,R.bytes,0,0⟩:Rg).sec k:=by
 unfold Rg.sec;simp only[hb]
theorem Raw.flush(hc:c.ok)(hJ:Jg c σ.io)(h:Raw nf dn ps D0 σ)(hb:σ.io.R.base=0)(h2:D0 2=dB)(hh:D0 c.fr=dB)(hroom:σ.io.R.tail<=(c.n-1)*118):
  Held c D0 σ.io.R.bytes (σ.io.R.flush c.n σ.io.D).2/\(σ.io.R.flush c.n σ.io.D).1.fin=σ.io.R.tail/\(σ.io.R.flush c.n σ.io.D).1.tail=σ.io.R.tail/\(σ.io.R.flush c.n σ.io.D).2.l.length=σ.io.D.l.length/\(∀i,2+c.n<=i->(σ.io.R.flush c.n σ.io.D).2.sec i=σ.io.D.sec i):=by
 have hfr:=hc.fr;have hn:=hc.n2;have hl:=hJ.2;have hta:σ.io.R.tail=σ.io.R.bytes.length:=by unfold Rg.tail;omega
 refine⟨?_,KW _ _ _,(rX _ _ _).tail,(Rg.zI (R:=σ.io.R) hJ.1 hn (by omega) (2+c.n) (Nat.le_refl _)).2.1,fun i hi=>(Rg.zI (R:=σ.io.R) hJ.1 hn (by omega) i hi).2.2⟩;by_cases hz:σ.io.R.bytes=[]
 ·have e:σ.io.R.flush c.n σ.io.D=(σ.io.R,σ.io.D):=by
   unfold Rg.flush;rw[if_pos (by rw[hta,hz,h.fin];rfl)]
  rw[e];exact⟨hJ.1,h.c0,congrFun h.sec 0,congrFun h.sec 1,fun hl=>absurd hz hl,fun _=>(congrFun h.sec 2).trans h2,(congrFun h.sec c.fr).trans hh⟩
 ·have hpos:1<=σ.io.R.bytes.length:=List.length_pos_iff.2 hz;have e:σ.io.R.flush c.n σ.io.D=({ σ.io.R with fin:=σ.io.R.tail },σ.io.R.jm c.n σ.io.D):=by
   unfold Rg.flush;rw[if_neg (by rw[hta,h.fin];omega)]
  obtain⟨f1,f2,f3,f4⟩:=XJ (R:=σ.io.R) hJ.1 hn (by omega) hb h.fin hpos (by omega);obtain⟨g1,g2,g3⟩:=Rg.uQ (R:=σ.io.R) hJ.1 hn (by omega);have g4:=(Rg.zI (R:=σ.io.R) hJ.1 hn (by omega) c.fr (by omega)).2.2;rw[e]at g4⊢;exact⟨g1,g3,f3.trans (congrFun h.sec 0),f4.trans (congrFun h.sec 1),fun _=>⟨fun k hk=>(f1 k hk).trans (aaH _ k hb),f2⟩,fun h0=>absurd h0 hz,g4.trans ((congrFun h.sec c.fr).trans hh)⟩
end
end
end Go.Proofs.YtpajagkhmodbnaaGreat

/- Pr: texts of the store seat laid together by program: StFine SvSay SvSto SvLog SvLine. Conditions: each theorem names its own. -/
import Derived.Test.YtpajagkhmodbnaaGreatPr22
import Derived.Test.YtpajagkhmodbnaaGreatPr20
import Derived.Test.YtpajagkhmodbnaaGreatPr18
namespace Go.Proofs.YtpajagkhmodbnaaGreat
set_option maxRecDepth 100000
set_option maxHeartbeats 6400000
open Lib(hid)
set_option linter.unusedSimpArgs false
set_option linter.unusedVariables false
section
theorem kV(b x:List UInt8)(off:Nat)(h:off+x.length<=b.length)(i:Nat):(aX b off x)[i]? = if i<off then b[i]? else if i<off+x.length then x[i-off]? else b[i]? := by
  unfold aX;have e1:x.take (b.length-off)=x:=List.take_of_length_le (by omega);have e2:(b.take off).length=off:=by rw[List.length_take];omega
  rw[e1,List.append_assoc];by_cases h1:i<off
  · rw[if_pos h1,List.getElem?_append_left (by omega),List.getElem?_take,if_pos h1]
  · rw[if_neg h1,List.getElem?_append_right (by omega),e2]
    by_cases h2:i<off+x.length
    · rw[if_pos h2,List.getElem?_append_left (by omega)]
    · rw[if_neg h2,List.getElem?_append_right (by omega),List.getElem?_drop]
      congr 1;omega
theorem zT(b x bs:List UInt8)(off:Nat)(hb:b.length=512)(hx:x.length=8)(ho:off+bs.length<=504):(aX (aX b 0 x) (8+off) bs).drop 8=aX (b.drop 8) off bs:=by
  have e0:(aX b 0 x).length=512:=by rw[dK _ _ _ (Nat.zero_le _),hb]
  apply List.ext_getElem?;intro i;rw[List.getElem?_drop,kV (aX b 0 x) bs (8+off) (by rw[e0];omega),kV (b.drop 8) bs off (by rw[List.length_drop,hb];omega),kV b x 0 (by omega),List.getElem?_drop];by_cases h1:i<off
  · rw[if_pos (by omega),if_neg (by omega),if_neg (by omega),if_pos h1]
  · rw[if_neg (by omega),if_neg h1]
    by_cases h2:i<off+bs.length
    · rw[if_pos (by omega),if_pos h2]
      congr 1;omega
    · rw[if_neg (by omega),if_neg h2,if_neg (by omega),if_neg (by omega)]
theorem Jh(b:List UInt8)(off n:Nat)(h:off+n<=b.length):aX b off ((b.drop off).take n)=b:=by
  have hl:((b.drop off).take n).length=n:=by rw[List.length_take,List.length_drop];omega
  apply List.ext_getElem?;intro i;rw[kV _ _ _ (by rw[hl];exact h),hl];split
  · rfl
  · split
    · rw[List.getElem?_take,if_pos (by omega),List.getElem?_drop];congr 1;omega
    · rfl
theorem Xd(b x y:List UInt8)(off:Nat)(h:off+x.length<=b.length)(hy:y=(b.drop off).take x.length):aX (aX b off x) off y=b:=by
  subst hy;have hl:((b.drop off).take x.length).length=x.length:=by rw[List.length_take,List.length_drop];omega
  apply List.ext_getElem?;intro i;rw[kV _ _ _ (by rw[dK _ _ _ (by omega),hl];exact h),kV _ _ _ h,hl];split
  · rfl
  · split
    · rw[List.getElem?_take,if_pos (by omega),List.getElem?_drop];congr 1;omega
    · rfl
def fG(c:Cf)(nf:Nat)(σ:St)(W:Nat->List UInt8):Prop:=∃V,mF c nf σ V/\∀q,q<c.pg->W q=(V q).drop 8
section
variable{c:Cf}{nf:Nat}{σ σ':St}{W:Nat->List UInt8}
theorem fG.congr(h:fG c nf σ W)(hp:σ'.p=σ.p)(hD:σ'.io.D=σ.io.D):fG c nf σ' W:=by
  obtain⟨V,h1,h2⟩:=h;exact⟨V,h1.congr hp hD,h2⟩
theorem fG.flush(hc:c.ok)(h:fG c nf σ W)(hp:σ'.p=σ.p)(vV:σ'.io={ D:=(σ.io.R.flush c.n σ.io.D).2,R:=(σ.io.R.flush c.n σ.io.D).1 }):fG c nf σ' W:=by
  obtain⟨V,h1,h2⟩:=h;exact⟨V,h1.flush hc hp vV,h2⟩
theorem fG.len(h:fG c nf σ W){q:Nat}(hq:q<c.pg):(W q).length=504:=by
  obtain⟨V,h1,h2⟩:=h;rw[h2 q hq,List.length_drop,h1.inv.len q hq]
theorem fG.read(hc:c.ok)(h:fG c nf σ W){q:Nat}(hq:q<c.pg)(off n:Nat):σ.bytes c q off n=((W q).drop off).take n/\fG c nf (σ.get c q).2.2 W:=by
  obtain⟨V,h1,h2⟩:=h;obtain⟨_,e,h3⟩:=h1.get hc hq;refine⟨?_,V,h3,h2⟩;unfold St.bytes;rw[e,h2 q hq,List.drop_drop]
theorem fG.over(hc:c.ok){V:Nat->List UInt8}(h1:mF c nf σ V)(h2:∀q,q<c.pg->W q=(V q).drop 8){q:Nat}(hq:q<c.pg)(l:Nat)(hl:1<=l)(off:Nat)(bs:List UInt8)(ho:off+bs.length<=504):
    (σ.put c q (aX (aX (V q) 0 (aJ l)) (8+off) bs) l).1=0/\fG c nf (σ.put c q (aX (aX (V q) 0 (aJ l)) (8+off) bs) l).2 (fF W q (aX (W q) off bs)):=by
  have hlen:=h1.inv.len q hq;have e1:(aX (V q) 0 (aJ l)).length=512:=by rw[dK _ _ _ (Nat.zero_le _),hlen]
  obtain⟨a1,a2⟩:=h1.put hc hq (aX (aX (V q) 0 (aJ l)) (8+off) bs) (by rw[dK _ _ _ (by omega),e1]) l hl;refine⟨a1,_,a2,fun r hr=>?_⟩;unfold fF;split
  · next e=>subst e;rw[zT _ _ _ _ hlen (dL _) ho,h2 _ hr]
  · exact h2 r hr
theorem fG.apply(hc:c.ok)(h:fG c nf σ W)(r:Rc)(hp:r.page<c.pg)(ho:r.off+r.after.length<=504)(l:Nat)(hl:1<=l):(σ.apply c r l).1=0/\fG c nf (σ.apply c r l).2 (fF W r.page (aX (W r.page) r.off r.after)):=by
  obtain⟨V,h1,h2⟩:=h;obtain⟨_,e,h3⟩:=h1.get hc hp;rw[St.Bo σ c r l hp,e];exact fG.over hc h3 h2 hp l hl r.off r.after ho
def uI(id last p off:Nat)(dM bs:List UInt8):Rc:={ Rc.zero with kind:=2,aV:=id,prev:=last,page:=p,off:=off,before:=dM,after:=bs }
theorem fG.write (hc:c.ok) (h:fG c nf σ W) (i:Nat) (x:Tx) (p off:Nat) (bs:List UInt8) (hp:p<c.pg) (ho:off+bs.length<=504) (hsz:96+2*bs.length<=σ.io.R.room c.n):
    (σ.write c i x p off bs).1=0/\fG c nf (σ.write c i x p off bs).2 (fF W p (aX (W p) off bs))/\
    ((((W p).drop off).take bs.length=bs/\jy σ (σ.write c i x p off bs).2 1)\/
     (((W p).drop off).take bs.length≠bs/\jy { σ with io:={ σ.io with R:=σ.io.R.app (uI x.id x.last p off (((W p).drop off).take bs.length) bs).enc },lines:=σ.lines++[(σ.io.R.tail+1,uI x.id x.last p off (((W p).drop off).take bs.length) bs)],opn:=σ.opn.set i { x with l:=x.l++[⟨σ.io.R.tail+1,x.last,p,off,((W p).drop off).take bs.length⟩],last:=σ.io.R.tail+1 } } (σ.write c i x p off bs).2 2)):=by
  have hw:=h.len hp;obtain⟨V,h1,h2⟩:=h;obtain⟨g1,e,h3⟩:=h1.get hc hp;have hlen:=h1.inv.len p hp;have hbef:((σ.get c p).2.1.drop (8+off)).take bs.length=((W p).drop off).take bs.length:=by rw[e,h2 p hp,List.drop_drop]
  have hs:=(σ.iV c p hp).2;by_cases hne:((W p).drop off).take bs.length=bs
  · have e1:σ.write c i x p off bs=(0,(σ.get c p).2.2):=by
      unfold St.write;simp only[];rw[if_neg (by rw[g1];simp),hbef,if_pos hne]
    rw[e1];refine⟨rfl,?_,.inl ⟨hne,hs⟩⟩;have e2:aX (W p) off bs=W p:=by
      have:=Jh (W p) off bs.length (by omega);rw[hne]at this;exact this
    rw[e2,DZ];exact⟨V,h3,h2⟩
  · have hbl:(((W p).drop off).take bs.length).length=bs.length:=by rw[List.length_take,List.length_drop];omega
    have e1:=GZ σ c i x p off bs hp _ hbef hne (by rw[hs.R.room c.n];simp only[Rc.size,Rc.zero,hbl,List.length_nil];omega);rw[e1,e];have h4:mF c nf { (σ.get c p).2.2 with
        io:={ (σ.get c p).2.2.io with R:=(σ.get c p).2.2.io.R.app (Rc.enc { Rc.zero with kind:=2,aV:=x.id,prev:=x.last,page:=p,off:=off,before:=((W p).drop off).take bs.length,after:=bs }) },
        lines:=(σ.get c p).2.2.lines++[((σ.get c p).2.2.io.R.tail+1,{ Rc.zero with kind:=2,aV:=x.id,prev:=x.last,page:=p,off:=off,before:=((W p).drop off).take bs.length,after:=bs })],
        opn:=(σ.get c p).2.2.opn.set i { x with l:=x.l++[⟨(σ.get c p).2.2.io.R.tail+1,x.last,p,off,((W p).drop off).take bs.length⟩],last:=(σ.get c p).2.2.io.R.tail+1 } } V:=h3.congr rfl rfl
    obtain⟨a1,a2⟩:=fG.over hc h4 h2 hp ((σ.get c p).2.2.io.R.tail+1) (by omega) off bs ho;refine⟨a1,a2,.inr ⟨hne,?_⟩⟩;have hlo:(aX (aX (V p) 0 (aJ ((σ.get c p).2.2.io.R.tail+1))) (8+off) bs).length=512:=by
      have e2:(aX (V p) 0 (aJ ((σ.get c p).2.2.io.R.tail+1))).length=512:=by rw[dK _ _ _ (Nat.zero_le _),hlen]
      rw[dK _ _ _ (by omega),e2]
    obtain⟨_,s2⟩:=St.xY { (σ.get c p).2.2 with
        io:={ (σ.get c p).2.2.io with R:=(σ.get c p).2.2.io.R.app (Rc.enc { Rc.zero with kind:=2,aV:=x.id,prev:=x.last,page:=p,off:=off,before:=((W p).drop off).take bs.length,after:=bs }) },
        lines:=(σ.get c p).2.2.lines++[((σ.get c p).2.2.io.R.tail+1,{ Rc.zero with kind:=2,aV:=x.id,prev:=x.last,page:=p,off:=off,before:=((W p).drop off).take bs.length,after:=bs })],
        opn:=(σ.get c p).2.2.opn.set i { x with l:=x.l++[⟨(σ.get c p).2.2.io.R.tail+1,x.last,p,off,((W p).drop off).take bs.length⟩],last:=(σ.get c p).2.2.io.R.tail+1 } } c p hp _ hlo _ (show 1<=(σ.get c p).2.2.io.R.tail+1 by omega)
    have ht:(σ.get c p).2.2.io.R.tail=σ.io.R.tail:=hs.R.tail;obtain⟨r1,r2,r3⟩:=hs.R;refine⟨?_,?_,?_,?_,?_,?_,?_,?_,?_⟩
    · have q1:=s2.wr
      have q2:=hs.wr;simp only at q1⊢;omega
    · refine gy.trans ?_ s2.R
      rw[ht];refine⟨r1,?_,r3⟩;show(σ.get c p).2.2.io.R.bytes++_=σ.io.R.bytes++_;rw[r2];rfl
    · rw[s2.lines]
      show(σ.get c p).2.2.lines++_=σ.lines++_;rw[hs.lines,ht];rfl
    · rw[s2.opn]
      show(σ.get c p).2.2.opn.set i _=σ.opn.set i _;rw[hs.opn,ht]
    · rw[s2.master];exact hs.master
    · rw[s2.next];exact hs.next
    · rw[s2.commits];exact hs.commits
    · rw[s2.aW];exact hs.aW
    · rw[s2.aZ];exact hs.aZ
end
structure yJ(c:Cf)(T N:Nat)(x:Tx):Prop where
  id1:1<=x.id
  id2:x.id<N
  first:1<=x.first/\x.first<=x.last
  last:x.last<=T
  len:96*x.l.length<=T
  ups:∀u∈x.l,u.off+u.before.length<=504/\u.page<c.pg/\u.aN<=x.last/\u.prev<=T
theorem yJ.mono{c:Cf}{T T' N N':Nat}{x:Tx}(h:yJ c T N x)(hT:T<=T')(hN:N<=N'):yJ c T' N' x:=
  ⟨h.id1,Nat.lt_of_lt_of_le h.id2 hN,h.first,Nat.le_trans h.last hT,Nat.le_trans h.len hT,fun u hu=>by obtain⟨a,b,d,e⟩:=h.ups u hu;exact⟨a,b,d,Nat.le_trans e hT⟩⟩
structure Fine(c:Cf)(k b:Nat)(σ:St):Prop where
  start:σ.io.R.start=0
  base:σ.io.R.base=0
  wr:σ.p.wr<=k
  lines:96*σ.lines.length<=σ.io.R.tail
  next:1<=σ.next/\σ.next<=k+1
  commits:σ.commits<=k
  opn:σ.opn.length<=k
  tx:∀x∈σ.opn,yJ c σ.io.R.tail σ.next x
  nd:(σ.opn.map (·.id)).Nodup
  cost:σ.io.R.tail+σ.reserved<=b
  top:b+2048<=(c.n-1)*118
def BI(l:List Up):Nat:=(l.map fun u=>96+u.before.length).sum
def CJ(x:Tx):Nat:=192+BI x.l
theorem Ji(σ:St):σ.reserved=(σ.opn.map CJ).sum:=rfl
theorem Ve{l:List Nat}{i a b:Nat}(h:l[i]? = some a):(l.set i b).sum+a=l.sum+b:=by
  induction l generalizing i with
  | nil=>cases h
  | cons x r ih=>
    cases i with
    | zero=>
      obtain rfl:=Option.some.inj h;simp only[List.set_cons_zero,List.sum_cons];omega
    | succ i=>
      have:=ih (i:=i) h;simp only[List.set_cons_succ,List.sum_cons];omega
theorem LJ{l:List Nat}{i a:Nat}(h:l[i]? = some a):(l.eraseIdx i).sum+a=l.sum:=by
  induction l generalizing i with
  | nil=>cases h
  | cons x r ih=>
    cases i with
    | zero=>
      obtain rfl:=Option.some.inj h;simp only[List.eraseIdx_cons_zero,List.sum_cons];omega
    | succ i=>
      have:=ih (i:=i) h;simp only[List.eraseIdx_cons_succ,List.sum_cons];omega
theorem set_self{α:Type}{l:List α}{i:Nat}{x:α}(h:l[i]? = some x):l.set i x=l:=by
  obtain⟨hi,rfl⟩:=List.getElem?_eq_some_iff.1 h;exact List.set_getElem_self hi
theorem Ud(l:List Up)(u:Up):BI (l++[u])=BI l+(96+u.before.length):=by simp[BI]
theorem aik{L:List Tx}{i:Nat}{x y:Tx}(hx:L[i]? = some x)(e:y.id=x.id):((L.set i y).map (·.id))=L.map (·.id):=by
  rw[List.map_set,e];apply List.ext_getElem?;intro j;rw[List.getElem?_set];split
  · next e2=>
    subst e2;rw[List.getElem?_map,hx];have:=(List.getElem?_eq_some_iff.1 hx).1;simp[this]
  · rfl
section
variable{c:Cf}{k b:Nat}{σ σ':St}
theorem Fine.room(h:Fine c k b σ):σ.io.R.room c.n=(c.n-1)*118-σ.io.R.tail:=by
  unfold Rg.room;rw[h.start,Nat.zero_div,Nat.zero_add]
theorem Fine.le(h:Fine c k b σ){k' b':Nat}(hk:k<=k')(hb:b<=b')(ht:b'+2048<=(c.n-1)*118):Fine c k' b' σ:=
  ⟨h.start,h.base,Nat.le_trans h.wr hk,h.lines,⟨h.next.1,by have:=h.next.2;omega⟩,Nat.le_trans h.commits hk,Nat.le_trans h.opn hk,h.tx,h.nd,Nat.le_trans h.cost hb,ht⟩
theorem Fine.same{j:Nat}(h:Fine c k b σ)(hs:jy σ σ' j):Fine c (k+j) b σ':=by
  have ht:=hs.R.tail;refine⟨by rw[hs.R.2.2];exact h.start,by rw[hs.R.1];exact h.base,by have:=hs.wr;have:=h.wr;omega,by rw[hs.lines,ht];exact h.lines,by rw[hs.next];exact⟨h.next.1,by have:=h.next.2;omega⟩,
    by rw[hs.commits];exact Nat.le_trans h.commits (by omega),by rw[hs.opn];exact Nat.le_trans h.opn (by omega),by rw[hs.opn,ht,hs.next];exact h.tx,by rw[hs.opn];exact h.nd,?_,h.top⟩
  rw[ht,Ji,hs.opn];exact h.cost
theorem Fine.app(h:Fine c k b σ)(r:Rc)(ht:r.lQ=[])(hd:r.dirty=[])(O:List Tx)(N cm j d:Nat)(hN:σ.next<=N)(hN2:N<=k+j+1)(hcm:cm<=k+j)(hO:O.length<=k+j)(hx:∀x∈O,yJ c (σ.io.R.tail+r.size) N x)(hnd:(O.map (·.id)).Nodup)
    (hc:r.size+(O.map CJ).sum<=σ.reserved+d) (hb:b+d+2048<=(c.n-1)*118):
    Fine c (k+j) (b+d) { σ with io:={ σ.io with R:=σ.io.R.app r.enc },lines:=σ.lines++[(σ.io.R.tail+1,r)],opn:=O,next:=N,commits:=cm }:=by
  have e1:(σ.io.R.app r.enc).tail=σ.io.R.tail+r.size:=by rw[qN,oZ r ht hd]
  have e2:96<=r.size:=by unfold Rc.size;omega
  refine⟨h.start,h.base,Nat.le_trans h.wr (by omega),?_,⟨by have:=h.next.1;show 1<=N;omega,hN2⟩,hcm,hO,?_,hnd,?_,hb⟩
  · show 96*(σ.lines++_).length<=(σ.io.R.app r.enc).tail
    rw[e1,List.length_append,List.length_singleton];have:=h.lines;omega
  · show ∀x∈O,yJ c (σ.io.R.app r.enc).tail N x
    rw[e1];exact hx
  · show(σ.io.R.app r.enc).tail+(O.map CJ).sum<=_
    rw[e1];have:=h.cost;omega
theorem Fine.begin(h:Fine c k b σ)(hb:b+288+2048<=(c.n-1)*118):Fine c (k+1) (b+288) (σ.begin_ c).2.2:=by
  have hr:=h.room;have hcs:=h.cost;rw[Bq σ c (by omega)];have hs:Rc.size { Rc.zero with kind:=1,aV:=σ.next }=96:=rfl;refine h.app { Rc.zero with kind:=1,aV:=σ.next } rfl rfl (σ.opn++[⟨σ.next,σ.io.R.tail+1,σ.io.R.tail+1,[]⟩]) (σ.next+1) σ.commits 1 288 (by omega) (by have:=h.next.2;omega) (Nat.le_trans h.commits (by omega)) (by rw[List.length_append];have:=h.opn;simp;omega) (fun x hx=>?_) ?_ ?_ hb
  · rw[hs]
    rcases List.mem_append.1 hx with hx|hx
    · exact(h.tx x hx).mono (by omega) (by omega)
    · rw[List.mem_singleton.1 hx]
      exact⟨h.next.1,by simp,⟨by simp,Nat.le_refl _⟩,by show σ.io.R.tail+1<=_;omega,by simp,fun u hu=>by cases hu⟩
  · rw[List.map_append,List.nodup_append]
    refine⟨h.nd,by simp,fun a ha b hb=>?_⟩;obtain⟨x,hx,rfl⟩:=List.mem_map.1 ha;simp at hb;subst hb;have:=(h.tx x hx).id2;omega
  · rw[hs,List.map_append,List.sum_append,Ji]
    simp[CJ,BI];omega
theorem Fine.ad7(h:Fine c k b σ){i:Nat}{x:Tx}(hx:σ.opn[i]? = some x):yJ c σ.io.R.tail σ.next x:=h.tx x (List.mem_of_getElem? hx)
theorem Fine.of(h:Fine c k b σ){i:Nat}{x:Tx}(hx:σ.opn[i]? = some x):σ.of (x.id:Int)=some i:=by
  obtain⟨hi,he⟩:=List.getElem?_eq_some_iff.1 hx;refine List.findIdx?_eq_some_iff_getElem.2 ⟨hi,by simp[he],fun j hj=>?_⟩;have h2:=(List.pairwise_iff_getElem.1 h.nd) j i (by rw[List.length_map];omega) (by rw[List.length_map];exact hi) hj;simp only[List.getElem_map,he]at h2;simp;omega
theorem Fine.ail(h:Fine c k b σ){i:Nat}{x y:Tx}(hx:σ.opn[i]? = some x):((σ.opn.set i y).map CJ).sum+CJ x=σ.reserved+CJ y:=by
  rw[List.map_set,Ji];exact Ve (by rw[List.getElem?_map,hx];rfl)
theorem Fine.ain(h:Fine c k b σ){i:Nat}{x:Tx}(hx:σ.opn[i]? = some x):CJ x<=σ.reserved:=by
  have h1:=LJ (l:=σ.opn.map CJ) (i:=i) (a:=CJ x) (by rw[List.getElem?_map,hx];rfl);rw[Ji];omega
theorem Fine.apX (h:Fine c k b σ) (r:Rc) (ht:r.lQ=[]) (hd:r.dirty=[]) {i:Nat} {x:Tx} (hx:σ.opn[i]? = some x) (l:List Up) (d cm:Nat) (hcm:cm<=k+1) (hl:l.length<=x.l.length+1) (hu:∀u∈l,u∈x.l\/(u.off+u.before.length<=504/\u.page<c.pg/\u.aN<=σ.io.R.tail+1/\u.prev<=σ.io.R.tail))
    (hc:r.size+BI l<=BI x.l+d) (hb:b+d+2048<=(c.n-1)*118):
    Fine c (k+1) (b+d) { σ with io:={ σ.io with R:=σ.io.R.app r.enc },lines:=σ.lines++[(σ.io.R.tail+1,r)],opn:=σ.opn.set i { x with last:=σ.io.R.tail+1,l:=l },commits:=cm }:=by
  have LK:=h.ad7 hx;have e2:96<=r.size:=by unfold Rc.size;omega
  refine h.app r ht hd (σ.opn.set i { x with last:=σ.io.R.tail+1,l:=l }) σ.next cm 1 d (Nat.le_refl _) (by have:=h.next.2;omega) hcm (by rw[List.length_set];have:=h.opn;omega) (fun y hy=>?_) ?_ ?_ hb
  · rcases List.mem_or_eq_of_mem_set hy with hy|rfl
    · exact(h.tx y hy).mono (by omega) (Nat.le_refl _)
    · refine⟨LK.id1,LK.id2,⟨LK.first.1,by have:=LK.first.2;have:=LK.last;show x.first<=σ.io.R.tail+1;omega⟩,by show σ.io.R.tail+1<=_;omega,?_,fun u hu'=>?_⟩
      · show 96*l.length<=_
        have:=LK.len;omega
      · show _/\_/\u.aN<=σ.io.R.tail+1/\_
        rcases hu u hu' with h1|⟨h1,h2,h3,h4⟩
        · obtain⟨a1,a2,a3,a4⟩:=LK.ups u h1
          exact⟨a1,a2,by have:=LK.last;omega,by omega⟩
        · exact⟨h1,h2,h3,by omega⟩
  · rw[aik (y:={ x with last:=σ.io.R.tail+1,l:=l }) hx rfl];exact h.nd
  · have h1:=h.ail (y:={ x with last:=σ.io.R.tail+1,l:=l }) hx
    simp only[CJ]at h1⊢;omega
end
section
variable{c:Cf}{nf k b:Nat}{σ σ':St}{W:Nat->List UInt8}
theorem Fine.write (hc:c.ok) (hf:Fine c k b σ) (h:fG c nf σ W) {i:Nat} {x:Tx} (hx:σ.opn[i]? = some x) (p off:Nat) (bs:List UInt8) (hp:p<c.pg) (ho:off+bs.length<=504) (hb:b+(192+3*bs.length)+2048<=(c.n-1)*118):
    (σ.write c i x p off bs).1=0/\Fine c (k+3) (b+(192+3*bs.length)) (σ.write c i x p off bs).2/\fG c nf (σ.write c i x p off bs).2 (fF W p (aX (W p) off bs))/\
    ((((W p).drop off).take bs.length=bs/\(σ.write c i x p off bs).2.opn=σ.opn/\(σ.write c i x p off bs).2.lines=σ.lines/\(σ.write c i x p off bs).2.io.R.tail=σ.io.R.tail)\/
     (((W p).drop off).take bs.length≠bs/\(σ.write c i x p off bs).2.opn=σ.opn.set i { x with last:=σ.io.R.tail+1,l:=x.l++[⟨σ.io.R.tail+1,x.last,p,off,((W p).drop off).take bs.length⟩] }/\
      (σ.write c i x p off bs).2.lines=σ.lines++[(σ.io.R.tail+1,uI x.id x.last p off (((W p).drop off).take bs.length) bs)]/\(σ.write c i x p off bs).2.io.R.tail=σ.io.R.tail+(96+2*bs.length)))/\(σ.write c i x p off bs).2.next=σ.next:=by
  have hr:=hf.room;have hcs:=hf.cost;have hw:=h.len hp;have hbl:(((W p).drop off).take bs.length).length=bs.length:=by rw[List.length_take,List.length_drop];omega
  obtain⟨a1,a2,a3⟩:=h.write hc i x p off bs hp ho (by omega);refine⟨a1,?_,a2,?_,?_⟩
  · rcases a3 with ⟨_,hs⟩|⟨_,hs⟩
    · exact(hf.same hs).le (by omega) (by omega) hb
    · have hsz:(uI x.id x.last p off (((W p).drop off).take bs.length) bs).size=96+2*bs.length:=by simp only[uI,Rc.size,Rc.zero,hbl,List.length_nil];omega
      have h1:=hf.apX (uI x.id x.last p off (((W p).drop off).take bs.length) bs) rfl rfl hx (x.l++[⟨σ.io.R.tail+1,x.last,p,off,((W p).drop off).take bs.length⟩]) (192+3*bs.length) σ.commits (by have:=hf.commits;omega) (by simp) (fun u hu=>by
        rcases List.mem_append.1 hu with hu|hu
        · exact .inl hu
        · rw[List.mem_singleton.1 hu]
          exact .inr ⟨by show off+_<=504;rw[hbl];exact ho,hp,Nat.le_refl _,(hf.ad7 hx).last⟩) (by rw[hsz,Ud];simp only[hbl];omega) hb
      have h2:=h1.same hs;exact h2
  · rcases a3 with ⟨e,hs⟩|⟨e,hs⟩
    · exact .inl ⟨e,hs.opn,hs.lines,hs.R.tail⟩
    · refine .inr ⟨e,hs.opn,hs.lines,?_⟩
      rw[hs.R.tail];show(σ.io.R.app _).tail=_;rw[qN,oZ _ rfl rfl];simp only[uI,Rc.size,Rc.zero,hbl,List.length_nil];omega
  · rcases a3 with ⟨e,hs⟩|⟨e,hs⟩
    · exact hs.next
    · exact hs.next
theorem Fine.read(hc:c.ok)(hf:Fine c k b σ)(h:fG c nf σ W){q:Nat}(hq:q<c.pg)(off n:Nat):σ.bytes c q off n=((W q).drop off).take n/\fG c nf (σ.get c q).2.2 W/\Fine c (k+1) b (σ.get c q).2.2/\(σ.get c q).2.2.opn=σ.opn/\(σ.get c q).2.2.lines=σ.lines/\(σ.get c q).2.2.next=σ.next/\(σ.get c q).2.2.io.R.tail=σ.io.R.tail:=by
  obtain⟨h1,h2⟩:=h.read hc hq off n;have hs:=(σ.iV c q hq).2;exact⟨h1,h2,hf.same hs,hs.opn,hs.lines,hs.next,hs.R.tail⟩
end
end
section
open Go.RowKit
section
variable{W0 w w' w2:World}{A:bG}{c:Cf}{σ:St}{S:Nat->Prop}{vl vo gV:Value}{EL:List Le}{EO:List Te}{K S1:Nat->Prop}{X:Nat->Prop}{k b:Nat}
theorem aP.rok(h:aP W0 w A c σ vl vo EL EO K S1):σ.io.R.ok c.n:=by
 obtain⟨S5,h1,_⟩:=h.sp.zx;exact h1.ok
theorem aP.hok(h:aP W0 w A c σ vl vo EL EO K S1):D5 A.nf σ.p:=⟨h.sp.1.ok.len,h.sp.1.ok.n1,h.sp.1.ok.hand⟩
theorem aP.ioJ(h:aP W0 w A c σ vl vo EL EO K S1):Jg c σ.io:=by
 obtain⟨S2,h1,_⟩:=h.sp.1.EK h.sp.io;obtain⟨S3,h2,_⟩:=h1;exact⟨h2.rg.good,h2.fit⟩
theorem aP.say(h:aP W0 w A c σ vl vo EL EO K S1)(hf:Fine c k b σ)(hk:k<=1000000):
  EO.length<=1000000/\EL.length<=100000/\mQ EO<=1000000/\σ.io.R.tail<=1000000/\c.n<=8192/\c.pg<=8192/\TxB EO/\(∀e∈EO,U6 c.pg e.EU/\e.EU.length<=20000/\e.x.id<=1000001/\e.x.last<=1000000/\iP e.EU+192<=mQ EO/\e.x.l.length=e.EU.length):=by
 have h1:=h.JQ;have h2:=hf.opn;have h3:=hf.lines;have h4:=hf.cost;have h5:=hf.top;have h6:=h.rok.n3;have h7:EL.length=σ.lines.length:=by rw[h.lZ,List.length_map]
 have h8:=h.resv;have hsm:=h.sp.2;have hx:∀e∈EO,e.x∈σ.opn:=fun e he=>by rw[h.wP];exact List.mem_map.2 ⟨e,he,rfl⟩
 have hlen:∀e∈EO,e.x.l.length=e.EU.length:=fun e he=>by rw[(h.tx.at_ e he).ups,List.length_map]
 have hlb:∀e∈EO,e.EU.length<=20000:=fun e he=>by
  have:=(hf.tx _ (hx e he)).len;rw[hlen e he]at this;omega
 have hup:∀e∈EO,∀u∈e.EU,u.1∈e.x.l:=fun e he u hu=>by rw[(h.tx.at_ e he).ups];exact List.mem_map.2 ⟨u,hu,rfl⟩
 refine⟨by omega,by omega,by omega,by omega,h6,hsm,fun e he=>⟨Nat.le_trans (hlb e he) (by decide),fun u hu=>((hf.tx _ (hx e he)).ups _ (hup e he u hu)).1⟩,fun e he=>⟨fun u hu=>?_,hlb e he,?_,?_,?_,hlen e he⟩⟩
 ·obtain⟨a1,a2,a3,a4⟩:=(hf.tx _ (hx e he)).ups _ (hup e he u hu);have:=(hf.tx _ (hx e he)).last;exact⟨a1,a2,by omega,by omega⟩
 ·have:=(hf.tx _ (hx e he)).id2;have:=hf.next.2;omega
 ·have:=(hf.tx _ (hx e he)).last;omega
 ·obtain⟨i,hi⟩:=nG (hx e he);have:=hf.ain hi;rw[h8]at this;have e1:BI e.x.l=iP e.EU:=by
   unfold BI iP;rw[(h.tx.at_ e he).ups,List.map_map];rfl
  simp only[CJ,e1]at this;omega
theorem QV(h:SV W0 A c σ S w)(hf:Fine c k b σ)(hk:k<=1000000)(hb:b+288+2048<=(c.n-1)*118):
  Calls Tryz.prog 28 #[.pointer (some ⟨A.sb,0,none⟩)] w fun e w'=>∃S',e=.returned (.tuple #[.int .i64 (σ.next:Nat),.int .i64 0])/\SV W0 A c (σ.begin_ c).2.2 S' w'/\aG S S' w w':=by
 obtain⟨vl,vo,EL,EO,K,S1,h1,rfl⟩:=h;obtain⟨a1,a2,a3,a4,a5,a6,a7,a8⟩:=h1.say hf hk;have hr:=hf.room;have hcs:=hf.cost;have hrv:=h1.resv;exact abr h1 (by omega) (by omega) (fun e he u hu=>Nat.le_trans (Nat.le_trans (Nat.le_add_left _ _) ((a7 e he).2 u hu)) (by decide)) (by omega) (by omega) (by omega) (by have:=hf.next.2;omega)
theorem aP.eat(h:aP W0 w A c σ vl vo EL EO K S1){i:Nat}{x:Tx}(hx:σ.opn[i]? = some x):∃e,EO[i]? = some e/\e.x=x:=by
 rw[h.wP,List.getElem?_map]at hx;cases he:EO[i]? with
 | none=>rw[he]at hx;cases hx
 | some e=>rw[he]at hx;exact⟨e,rfl,Option.some.inj hx⟩
theorem QW(h:SV W0 A c σ S w)(hf:Fine c k b σ)(hk:k<=1000000)(hwk:σ.p.wr<=1000000){i:Nat}{x:Tx}(hx:σ.opn[i]? = some x)(p off:Nat)(bs:List UInt8)(ab:Option Addr)(nb cb:Nat)(hv:Reads 1 w (.slice ab nb cb) nb (bs.map B))(hbn:bs.length=nb)(hpg:p<c.pg)(hoff:off+nb<=504)
  (NH:σ.busy (x.id:Int) p off nb=false) (harg:∀q,(Value.slice ab nb cb).ownBlock=some q->¬S q/\q<w.heap.size) (hb:b+(192+3*nb)+2048<=(c.n-1)*118):
  Calls Tryz.prog 31 #[.pointer (some ⟨A.sb,0,none⟩),.int .i64 (x.id:Nat),.int .i64 (p:Nat),.int .i64 (off:Nat),.slice ab nb cb] w fun er w'=>∃S',er=.returned (.int .i64 0)/\SV W0 A c (σ.write c i x p off bs).2 S' w'/\aG S S' w w':=by
 obtain⟨vl,vo,EL,EO,K,S1,h1,rfl⟩:=h;obtain⟨a1,a2,a3,a4,a5,a6,a7,a8⟩:=h1.say hf hk;obtain⟨e,he,rfl⟩:=h1.eat hx;obtain⟨b1,b2,b3,b4,b5,b6⟩:=a8 e (List.mem_of_getElem? he);have hr:=hf.room;have hcs:=hf.cost;have hrv:=h1.resv;exact abv h1 a1 (by omega) a7 i e (hf.of hx) he p off bs ab nb cb hv hbn hpg hoff NH harg (by omega) (by omega) (by omega) (by omega) (by omega) (by omega) (by omega)
theorem Vf(h:SV W0 A c σ S w)(p off n:Nat)(hpg:p<c.pg)(hoff:off+n<=504)(hwk:σ.p.wr<=1000000):
  Calls Tryz.prog 38 #[.pointer (some ⟨A.sb,0,none⟩),.int .i64 (p:Nat),.int .i64 (off:Nat),.int .i64 (n:Nat)] w fun er w'=>∃v S',er=.returned (.tuple #[v,.int .i64 0])/\w'.ownsRow w.heap.size 5 1 v n ((σ.bytes c p off n).map B)/\(σ.bytes c p off n).length=n/\(∀q,v.ownBlock=some q->¬S' q)/\
   SV W0 A c (σ.get c p).2.2 S' w'/\aG S S' w w':=by
 obtain⟨vl,vo,EL,EO,K,S1,h1,rfl⟩:=h;have:=h1.sp.2;exact abI h1 p off n hpg hoff (by omega) (by omega)
theorem Ue(h:SV W0 A c σ S w)(hf:Fine c k b σ)(hk:k<=1000000)(hwk:σ.p.wr<=1000000){i:Nat}{x:Tx}(hx:σ.opn[i]? = some x):
  Calls Tryz.prog 30 #[.pointer (some ⟨A.sb,0,none⟩),.int .i64 (x.id:Nat)] w fun er w'=>∃S',er=.returned (.int .i64 0)/\SV W0 A c (σ.rollback c i x).2 S' w'/\aG S S' w w':=by
 obtain⟨vl,vo,EL,EO,K,S1,h1,rfl⟩:=h;obtain⟨a1,a2,a3,a4,a5,a6,a7,a8⟩:=h1.say hf hk;obtain⟨e,he,rfl⟩:=h1.eat hx;obtain⟨b1,b2,b3,b4,b5,b6⟩:=a8 e (List.mem_of_getElem? he);have hr:=hf.room;have hcs:=hf.cost;have htp:=hf.top;have hrv:=h1.resv;exact TW h1 a1 i e (hf.of hx) he b1 (by omega) (by omega) (by omega) (by omega) (by omega) (by omega) (by omega) (by omega)
theorem adN(h:SV W0 A c σ S w)(hf:Fine c k b σ)(hk:k<=1000000){i:Nat}{x:Tx}(hx:σ.opn[i]? = some x):
  Calls Tryz.prog 29 #[.pointer (some ⟨A.sb,0,none⟩),.int .i64 (x.id:Nat)] w fun er w'=>∃S',er=.returned (.int .i64 0)/\SV W0 A c (St.commit c σ i x).2 S' w'/\aG S S' w w':=by
 obtain⟨vl,vo,EL,EO,K,S1,h1,rfl⟩:=h;obtain⟨a1,a2,a3,a4,a5,a6,a7,a8⟩:=h1.say hf hk;obtain⟨e,he,rfl⟩:=h1.eat hx;obtain⟨b1,b2,b3,b4,b5,b6⟩:=a8 e (List.mem_of_getElem? he);have hr:=hf.room;have hcs:=hf.cost;have htp:=hf.top;have hrv:=h1.resv;exact adL h1 a1 i e (hf.of hx) he (by omega) (by omega) (by omega) (by omega) (by omega) (by have:=hf.commits;omega)
end
end
section
open Go.RowKit
structure yK(W0:World)(A:bG)(c:Cf)(k b:Nat)(σ:St)(W:Nat->List UInt8)(S:Nat->Prop)(w:World):Prop where
 sv:SV W0 A c σ S w
 fine:Fine c k b σ
 std:fG c A.nf σ W
 ok:c.ok
structure Like(σ σ':St):Prop where
 opn:σ'.opn=σ.opn
 next:σ'.next=σ.next
 lines:σ'.lines=σ.lines
 tail:σ'.io.R.tail=σ.io.R.tail
theorem Like.refl(σ:St):Like σ σ:=⟨rfl,rfl,rfl,rfl⟩
theorem Like.trans{a b c:St}(h:Like a b)(g:Like b c):Like a c:=⟨g.opn.trans h.opn,g.next.trans h.next,g.lines.trans h.lines,g.tail.trans h.tail⟩
section
variable{W0 w w' w2:World}{A:bG}{c:Cf}{σ:St}{S X:Nat->Prop}{k b:Nat}{W:Nat->List UInt8}
theorem yK.grow(h:yK W0 A c k b σ W S w)(hg:aj X w w')(hX:dA S X)(hB:Below W0.heap.size W0 w'):yK W0 A c k b σ W S w':=⟨h.sv.grow hg hX hB,h.fine,h.std,h.ok⟩
theorem yK.below(h:yK W0 A c k b σ W S w)(hb:Below w.heap.size w w'):yK W0 A c k b σ W S w':=⟨h.sv.below hb,h.fine,h.std,h.ok⟩
theorem yK.le(h:yK W0 A c k b σ W S w){k' b':Nat}(hk:k<=k')(hb:b<=b')(ht:b'+2048<=(c.n-1)*118):yK W0 A c k' b' σ W S w:=⟨h.sv,h.fine.le hk hb ht,h.std,h.ok⟩
theorem yK.lt(h:yK W0 A c k b σ W S w):∀q,S q->W0.heap.size<=q/\q<w.heap.size:=h.sv.lt
theorem yK.bel(h:yK W0 A c k b σ W S w):Below W0.heap.size W0 w:=h.sv.bel
end
end
section
open Go.RowKit
theorem Xe(w:World)(c:Nat):Calls Tryz.prog 66 #[.slice none 0 c] w fun e w'=>e=.returned (.slice none 0 0)/\w'=w:=by
 have hnil:=fun w':World=>Ac (P:=Tryz.prog) w' 48 5 none 0 c Tryz.underlying48;go_enter Tryz.func66,Tryz.ntmps66;go_wp2_with fail;go_ret;exact⟨rfl,rfl⟩
theorem Uf(w:World)(a:Addr)(c:Nat):Calls Tryz.prog 66 #[.slice (some a) 0 c] w fun e w'=>e=.returned (.slice (some ⟨w.heap.size,0,none⟩) 0 0)/\Below w.heap.size w w'/\w.heap.size<w'.heap.size:=by
 have hnil:=fun w':World=>AY (P:=Tryz.prog) w' 48 5 a 0 c Tryz.underlying48;go_enter Tryz.func66,Tryz.ntmps66;go_wp2_with fail;go_ret;exact⟨rfl,(Below.refl _ _).alloc (Nat.le_refl _) _,by simp⟩
theorem oK(E:List Le)(i:Nat)(e:Le)(h:E[i]? = some e)(j:Nat)(v:Value)(hv:(eG e)[j]? = some v):(fA E)[i*12+j]? = some v:=by
 induction E generalizing i with
 | nil=>cases h
 | cons a r ih=>
  have hj:j<12:=by have:=(List.getElem?_eq_some_iff.1 hv).1;simpa[eG,GN]using this
  have hl:(eG a).length=12:=rfl;unfold fA;rw[List.flatMap_cons];cases i with
  | zero=>
   obtain rfl:=Option.some.inj h;rw[List.getElem?_append_left (by omega),Nat.zero_mul,Nat.zero_add];exact hv
  | succ i=>
   rw[List.getElem?_append_right (by omega),hl,show(i+1)*12+j-12=i*12+j by omega];exact ih i h
theorem Jj(l:List UInt8)(n:Nat)(hl:l.length=n)(hn2:n<=1099511627776)(v:Value)(w:World)(hv:Reads 1 w v n (l.map B)):
  Calls Tryz.prog 66 #[v] w fun e w'=>∃ao c,e=.returned (.slice ao n c)/\n<=c/\(∀m,n<=m->bH w' (fun q=>w.heap.size<=q/\q<w'.heap.size) l (.slice ao n m))/\Below w.heap.size w w':=by
 by_cases h0:n=0
 ·subst h0;have hl0:l=[]:=List.eq_nil_of_length_eq_zero hl;subst hl0;obtain⟨ao,cp,rfl,_⟩:=hv;rcases ao with _|a
  ·refine(Xe w cp).mono ?_;rintro e w' ⟨rfl,rfl⟩;exact⟨none,0,rfl,Nat.le_refl _,fun m _=>⟨⟨none,m,rfl,rfl,Nat.zero_le _,fun h=>absurd h (Nat.lt_irrefl _)⟩,fun q e=>(by cases e)⟩,Below.refl _ _⟩
  ·refine(Uf w a cp).mono ?_;rintro e w' ⟨rfl,hb,hlt⟩;exact⟨_,0,rfl,Nat.le_refl _,fun m _=>⟨⟨_,m,rfl,rfl,Nat.zero_le _,fun h=>absurd h (Nat.lt_irrefl _)⟩,fun q e=>by
    have e2:w.heap.size=q:=(by simpa[Value.ownBlock]using e)
    omega⟩,hb⟩
 ·refine(clone_any l n hl (by omega) hn2 v w hv).mono ?_;rintro e w' ⟨g,c,rfl,hr,hg,hg2,hb⟩;obtain⟨ao,c2,e2,e3,e4,e5⟩:=hr;injection e2 with e21 e22 e23;subst e21 e23;refine⟨_,c,rfl,e4,fun m hm=>⟨?_,fun q e=>?_⟩,hb⟩
  ·rw[hl];exact⟨_,m,rfl,e3,hm,e5⟩
  ·have e2:g=q:=(by simpa[Value.ownBlock]using e)
   omega
theorem Xf(w:World):Calls Tryz.prog 72 #[.slice none 0 0] w fun e w'=>e=.returned (.slice none 0 0)/\w'=w:=by
 have hnil:=fun w':World=>Ac (P:=Tryz.prog) w' 76 120 none 0 0 Tryz.underlying76;go_enter Tryz.func72,Tryz.ntmps72;go_wp2_with fail;go_ret;exact⟨rfl,rfl⟩
theorem Xg(w:World):Calls Tryz.prog 74 #[.slice none 0 0] w fun e w'=>e=.returned (.slice none 0 0)/\w'=w:=by
 have hnil:=fun w':World=>Ac (P:=Tryz.prog) w' 83 123 none 0 0 Tryz.underlying83;go_enter Tryz.func74,Tryz.ntmps74;go_wp2_with fail;go_ret;exact⟨rfl,rfl⟩
theorem ZC(w:World):Calls Tryz.prog 71 #[.slice none 0 0] w fun e w'=>e=.returned (.slice none 0 0)/\w'=w:=by
 go_enter Tryz.func71,Tryz.ntmps71;go_wp2_with fail;go_ret;exact⟨rfl,rfl⟩
theorem ZE(w:World):Calls Tryz.prog 73 #[.slice none 0 0] w fun e w'=>e=.returned (.slice none 0 0)/\w'=w:=by
 go_enter Tryz.func73,Tryz.ntmps73;go_wp2_with fail;go_ret;exact⟨rfl,rfl⟩
theorem ZF(ao:Option Addr)(n cap:Nat)(w:World)(h:n<=cap):Calls Tryz.prog 75 #[.slice ao n cap] w fun e w'=>e=.returned (.slice ao n n)/\w=w':=by
 have hb:decide (n<=cap)=true:=by simpa using h
 go_enter Tryz.func75,Tryz.ntmps75;go_wp2_with fail;go_ret;exact⟨rfl,rfl⟩
theorem Dx.aip{W0 wr w':World}{v:Value}{E:List Le}{K:Nat->Prop}(h:Dx W0 wr v E K)(hb:Below wr.heap.size wr w'):Dx W0 w' v E K:=
 h.grow (X:=fun _=>False) (aC hb) (fun _ _ h=>h) (fun _ _ h=>h)
def nV(g6 nb na G:Nat)(rr:Rc)(ab aa:Option Addr)(cb ca:Nat)(j b o:Nat):Prop:=(j=9/\b=g6/\o=6)\/(j=11/\b=g6/\o=7)
def jJ(g6 nb na G:Nat)(rr:Rc)(ab aa:Option Addr)(cb ca:Nat)(i:Nat)(VS:Nat->Value)(LO HI:Nat->Nat)(v:Value)(lo hi:Nat)(w:World):Prop:=
 match i with
 | 0=>v=.pointer (some ⟨g6,6,none⟩)
 | 1=>v=.slice ab nb cb
 | 2=>∃ao c,v=.slice ao nb c/\nb<=c/\∀m,nb<=m->bH w (fun q=>G<=q/\q<w.heap.size) rr.before (.slice ao nb m)
 | 3=>∃ao,v=.slice ao nb nb/\bH w (fun q=>G<=q/\q<w.heap.size) rr.before (.slice ao nb nb)
 | 4=>v=.pointer (some ⟨g6,7,none⟩)
 | 5=>v=.slice aa na ca
 | 6=>∃ao c,v=.slice ao na c/\na<=c/\∀m,na<=m->bH w (fun q=>G<=q/\q<w.heap.size) rr.after (.slice ao na m)
 | 7=>∃ao,v=.slice ao na na/\bH w (fun q=>G<=q/\q<w.heap.size) rr.after (.slice ao na na)
 | 8=>v=.pointer (some ⟨g6,6,none⟩)
 | 9=>g6<w.heap.size/\w.cell? ⟨g6,6,none⟩=some (VS 3)
 | 10=>v=.pointer (some ⟨g6,7,none⟩)
 | 11=>g6<w.heap.size/\w.cell? ⟨g6,7,none⟩=some (VS 7)
 | _=>True
abbrev NK:List (List Nat):=[[],[0],[0,1],[0,1,2],[],[4],[0,1,2,3,4,5],[0,1,2,3,4,5,6],[0,1,2,3,4,5],[0,1,2,3,4,5,6,7,8],[0,1,2,3,4,5,6,7,8,9],[0,1,2,3,4,5,6,7,8,9,10]]
theorem QX(g6 nb na G:Nat)(rr:Rc)(ab aa:Option Addr)(cb ca:Nat)(hgg:g6<G):∀i j,i<12->j<12->j≠i->j∉NK.getD i []->(i,j)∉([]:List (Nat×Nat))->∀VS LO HI v lo hi w w',jJ g6 nb na G rr ab aa cb ca i VS LO HI v lo hi w->aB (nV g6 nb na G rr ab aa cb ca j) w w'->jJ g6 nb na G rr ab aa cb ca i VS LO HI v lo hi w':=by
 intro i j hi hj hne hbs hx VS LO HI v lo hj2 w w' h hg
 match i,hi with
 | 0,_|1,_|4,_|5,_|8,_|10,_=>
  simp only[jJ]at h⊢;exact h
 | 2,_|6,_=>
  simp only[jJ]at h⊢;obtain⟨ao,c,h1,h2,h3⟩:=h;exact⟨ao,c,h1,h2,fun m hm=>((h3 m hm).grow (aj.aK hg (Y:=fun k=>k=g6) (fun k o hk=>by rcases hk with h|h<;>exact h.2.1)) (fun k hk e=>by omega)).mono (fun q hq=>⟨hq.1,Nat.lt_of_lt_of_le hq.2 hg.size⟩)⟩
 | 3,_|7,_=>
  simp only[jJ]at h⊢;obtain⟨ao,h1,h3⟩:=h;exact⟨ao,h1,(h3.grow (aj.aK hg (Y:=fun k=>k=g6) (fun k o hk=>by rcases hk with h|h<;>exact h.2.1)) (fun k hk e=>by omega)).mono (fun q hq=>⟨hq.1,Nat.lt_of_lt_of_le hq.2 hg.size⟩)⟩
 | 9,_|11,_=>
  simp only[jJ]at h⊢;obtain⟨h0,h1⟩:=h;exact⟨Nat.lt_of_lt_of_le h0 hg.size,(hg.cell _ _ h0 (by simp only[nV];omega)).trans h1⟩
 | (q+12),hq=>exact absurd hq (by omega)
theorem Xh(g6 nb na G:Nat)(rr:Rc)(ab aa:Option Addr)(cb ca:Nat):∀i,i<12->∀VS dZ LO eu HI eF v lz hz w,(∀j∈NK.getD i [],VS j=dZ j/\LO j=eu j/\HI j=eF j)->jJ g6 nb na G rr ab aa cb ca i VS LO HI v lz hz w->jJ g6 nb na G rr ab aa cb ca i dZ eu eF v lz hz w:=by
 intro i hi VS dZ LO eu HI eF v lz hz w he h
 match i,hi with
 | 0,_|1,_|2,_|3,_|4,_|5,_|6,_|7,_|8,_|10,_=>
  simp only[jJ]at h⊢;exact h
 | 9,_=>
  simp only[jJ]at h⊢;obtain⟨e3a,e3b,e3c⟩:=he 3 (by decide);simp only[<-e3a,<-e3b,<-e3c];exact h
 | 11,_=>
  simp only[jJ]at h⊢;obtain⟨QY,QZ,Q5⟩:=he 7 (by decide);simp only[<-QY,<-QZ,<-Q5];exact h
 | (q+12),hq=>exact absurd hq (by omega)
def qB(g6 nb na:Nat)(rr:Rc)(a3 a7:Option Addr)(j b o:Nat):Prop:=(j=9/\b=g6/\o=8)\/(j=11/\b=g6/\o=9)
def pq(g6 nb na:Nat)(rr:Rc)(a3 a7:Option Addr)(i:Nat)(v:Value)(lo hi:Nat)(w:World):Prop:=
 match i with
 | 0=>v=.pointer (some ⟨g6,8,none⟩)
 | 1=>v=.slice none 0 0
 | 2=>v=.slice none 0 0
 | 3=>v=.slice none 0 0
 | 4=>v=.pointer (some ⟨g6,9,none⟩)
 | 5=>v=.slice none 0 0
 | 6=>v=.slice none 0 0
 | 7=>v=.slice none 0 0
 | 8=>v=.pointer (some ⟨g6,8,none⟩)
 | 9=>g6<w.heap.size/\w.cell? ⟨g6,8,none⟩=some (.slice none 0 0)
 | 10=>v=.pointer (some ⟨g6,9,none⟩)
 | 11=>g6<w.heap.size/\w.cell? ⟨g6,9,none⟩=some (.slice none 0 0)
 | _=>True
theorem Q8(g6 nb na:Nat)(rr:Rc)(a3 a7:Option Addr)  : ∀i j,i<12->j<12->j≠i->j∉NK.getD i []->∀v lo hi w w',pq g6 nb na rr a3 a7 i v lo hi w->aB (qB g6 nb na rr a3 a7 j) w w'->pq g6 nb na rr a3 a7 i v lo hi w':=by
 intro i j hi hj hne hbs v lo hj2 w w' h hg
 match i,hi with
 | 0,_|1,_|2,_|3,_|4,_|5,_|6,_|7,_|8,_|10,_=>
  simp only[pq]at h⊢;exact h
 | 9,_|11,_=>
  simp only[pq]at h⊢;obtain⟨h0,h1⟩:=h;exact⟨Nat.lt_of_lt_of_le h0 hg.size,(hg.cell _ _ h0 (by simp only[qB];omega)).trans h1⟩
 | (q+12),hq=>exact absurd hq (by omega)
section
variable{W0 w w' w2:World}{A:bG}{c:Cf}{σ:St}{S:Nat->Prop}{vl vo gV:Value}{EL:List Le}{EO:List Te}{K S1:Nat->Prop}{X:Nat->Prop}
theorem ais(h:aP W0 w A c σ vl vo EL EO K S1)(hn:EL.length<=1000000):
  Calls Tryz.prog 33 #[.pointer (some ⟨A.sb,0,none⟩)] w fun e w'=>∃(v:Value)(jq:List Le)(K':Nat->Prop),e=.returned v/\Reads 12 w' v σ.lines.length (fA jq)/\(∀e∈jq,(bH w' K' e.r.before e.vb/\bH w' K' e.r.after e.va)/\e.r.small/\e.aN<=1099511627776)/\jq.map (fun e=>(e.aN,e.r))=σ.lines/\(∀q,K' q->w.heap.size<=q/\q<w'.heap.size)/\Below w.heap.size w w':=by
 have HS:=hid h;have HLI:=hid h.lZ;have hrow:=h.ln.row;obtain⟨al,cl,hvl⟩:=bF hrow;have c4:w.cell? ⟨A.sb,4,none⟩=some (.slice al EL.length cl):=by have:=h.bC.cell 4 _ rfl;rw[hvl]at this;exact this
 have bU:=h.bC.lt;have pX:=hid hvl;obtain⟨n,hnn⟩:∃n,EL.length=n:=⟨_,rfl⟩
 rw[hnn]at c4 hn;have kC:=hid hnn;clear h hrow hvl hnn;go_enter Tryz.func33,Tryz.ntmps33;go_wp2_with fail;go_loopw [3,5,6,12] (fun z3 z5 z6 i wr=>∃(k:Nat)(jq:List Le)(K':Nat->Prop),k<=n/\i=.int .i64 (k:Nat)/\Dx w wr z3 jq K'/\jq.map (fun e=>(e.aN,e.r))=(EL.take k).map (fun e=>(e.aN,e.r))/\(∀q,K' q->w.heap.size<=q/\q<wr.heap.size)/\dA K' (dS z3)/\Below w.heap.size w wr) (fun _ _ _ i _=>n-(intOf i).toNat)
 case atStart=>exact⟨0,[],fun _=>False,Nat.zero_le _,rfl,⟨⟨rfl,.inl ⟨rfl,rfl⟩⟩,fun e h=>(by cases h),fun e h=>(by cases h)⟩,rfl,fun q h=>h.elim,fun k h=>h.elim,Below.refl _ _⟩
 case round=>
  obtain⟨k,jq,K',hk,rfl,hln,hmap,hK,hdj,hbl⟩:=hrel;have qU:=hid hln;have ait:=hid hmap;have HK:=hid hK;have HDJ:=hid hdj;have HB:=hid hbl;by_cases hkn:k<n
  ·obtain⟨e,he⟩:∃e,EL[k]? = some e:=⟨_,List.getElem?_eq_getElem (by rw[kC.out];exact hkn)⟩
   have hrow:=(HS.out.below hbl).ln.row;obtain⟨g,Qi,e1,_,Lu⟩:=dV hrow (by rw[kC.out];omega);have e2:=pX.out;rw[e1]at e2;injection e2 with e3 e4 e5;subst e3;subst e5;rw[kC.out]at e1 hrow;rw[e1]at hrow;have hcl:∀j u,(eG e)[j]? = some u->wr.cell? ⟨g,k*12+j,none⟩=some u:=fun j u hu=>by
    have h1:=dh hrow (k*12+j) u (oK EL k e he j u hu);rw[Addr.add_lit,Nat.zero_add]at h1;exact h1
   have iR:=hid hcl;have eH:=(HS.out.below hbl).ln.tb e (List.mem_of_getElem? he);obtain⟨ab,cb,hvb,apY,hbc,_⟩:=eH.1.1;obtain⟨aa,ca,hva,apZ,hac,_⟩:=eH.2.1;obtain⟨nb,hnb⟩:∃x,e.r.before.length=x:=⟨_,rfl⟩
   obtain⟨na,hna⟩:∃x,e.r.after.length=x:=⟨_,rfl⟩
   have hsm:=(HS.out.ln.sm e (List.mem_of_getElem? he))
   have tK:=hid hnb;have rD:=hid hna;rw[hnb]at hvb hbc;rw[hna]at hva hac;have HE:=hid he;have Ci:=hid hsm;have aiu:=hid eH;have HVB:=hid hvb;have HVA:=hid hva;clear hln hmap hK hdj hbl hrow hcl e1 e4 Lu he eH apY apZ hsm hnb hna;have z0:=iR.out 0 _ rfl;rw[Nat.add_zero]at z0;have z1:=iR.out 1 _ rfl;have z2:=iR.out 2 _ rfl;have z3:=iR.out 3 _ rfl;have z4:=iR.out 4 _ rfl;have z5:=iR.out 5 _ rfl;have z6:=iR.out 6 _ rfl;have z7:=iR.out 7 _ rfl;have z8:=iR.out 8 _ rfl;have z9:=iR.out 9 _ rfl;have z10:=iR.out 10 _ rfl;have z11:=iR.out 11 _ rfl;rw[hvb]at z7;rw[hva]at z8;clear hvb hva;obtain⟨Gr,hGr⟩:∃x,wr.heap.size=x:=⟨_,rfl⟩
   have D7:=hid hGr;go_upto_region 6 with (fail);have bx0:=Box.new wr #[.int .i64 (e.aN:Nat),.int .i64 (e.r.kind:Nat),.int .i64 (e.r.aV:Nat),.int .i64 (e.r.prev:Nat),.int .i64 (e.r.next:Nat),.int .i64 (e.r.page:Nat),.int .i64 (e.r.off:Nat),.slice ab nb cb,.slice aa na ca,.slice none 0 0,.slice none 0 0,.int .i64 (e.r.count:Nat)] 87 rfl;have bx:=bx0.alloc (.cells #[.int .i64 (e.r.kind:Nat),.int .i64 (e.r.aV:Nat),.int .i64 (e.r.prev:Nat),.int .i64 (e.r.next:Nat),.int .i64 (e.r.page:Nat),.int .i64 (e.r.off:Nat),.slice ab nb cb,.slice aa na ca,.slice none 0 0,.slice none 0 0,.int .i64 (e.r.count:Nat)] 85);have br:=Box.new (wr.alloc (.cells #[.int .i64 (e.aN:Nat),.int .i64 (e.r.kind:Nat),.int .i64 (e.r.aV:Nat),.int .i64 (e.r.prev:Nat),.int .i64 (e.r.next:Nat),.int .i64 (e.r.page:Nat),.int .i64 (e.r.off:Nat),.slice ab nb cb,.slice aa na ca,.slice none 0 0,.slice none 0 0,.int .i64 (e.r.count:Nat)] 87)) #[.int .i64 (e.r.kind:Nat),.int .i64 (e.r.aV:Nat),.int .i64 (e.r.prev:Nat),.int .i64 (e.r.next:Nat),.int .i64 (e.r.page:Nat),.int .i64 (e.r.off:Nat),.slice ab nb cb,.slice aa na ca,.slice none 0 0,.slice none 0 0,.int .i64 (e.r.count:Nat)] 85 rfl;have hb1:=((Below.refl wr.heap.size wr).alloc (Nat.le_refl _) (.cells #[.int .i64 (e.aN:Nat),.int .i64 (e.r.kind:Nat),.int .i64 (e.r.aV:Nat),.int .i64 (e.r.prev:Nat),.int .i64 (e.r.next:Nat),.int .i64 (e.r.page:Nat),.int .i64 (e.r.off:Nat),.slice ab nb cb,.slice aa na ca,.slice none 0 0,.slice none 0 0,.int .i64 (e.r.count:Nat)] 87))
   have hb2:=hb1.alloc (by simp) (.cells #[.int .i64 (e.r.kind:Nat),.int .i64 (e.r.aV:Nat),.int .i64 (e.r.prev:Nat),.int .i64 (e.r.next:Nat),.int .i64 (e.r.page:Nat),.int .i64 (e.r.off:Nat),.slice ab nb cb,.slice aa na ca,.slice none 0 0,.slice none 0 0,.int .i64 (e.r.count:Nat)] 85);have hg5:(wr.alloc (.cells #[.int .i64 (e.aN:Nat),.int .i64 (e.r.kind:Nat),.int .i64 (e.r.aV:Nat),.int .i64 (e.r.prev:Nat),.int .i64 (e.r.next:Nat),.int .i64 (e.r.page:Nat),.int .i64 (e.r.off:Nat),.slice ab nb cb,.slice aa na ca,.slice none 0 0,.slice none 0 0,.int .i64 (e.r.count:Nat)] 87)).heap.size=Gr+1:=by rw[<-hGr];simp
   rw[hg5]at br;rw[hGr]at bx;rw[hGr]at hb2;have HB2:=hid hb2;clear bx0 hb1 hb2 hg5 z0 z1 z2 z3 z4 z5 z6 z7 z8 z9 z10 z11;generalize (wr.alloc (.cells #[.int .i64 (e.aN:Nat),.int .i64 (e.r.kind:Nat),.int .i64 (e.r.aV:Nat),.int .i64 (e.r.prev:Nat),.int .i64 (e.r.next:Nat),.int .i64 (e.r.page:Nat),.int .i64 (e.r.off:Nat),.slice ab nb cb,.slice aa na ca,.slice none 0 0,.slice none 0 0,.int .i64 (e.r.count:Nat)] 87)).alloc (.cells #[.int .i64 (e.r.kind:Nat),.int .i64 (e.r.aV:Nat),.int .i64 (e.r.prev:Nat),.int .i64 (e.r.next:Nat),.int .i64 (e.r.page:Nat),.int .i64 (e.r.off:Nat),.slice ab nb cb,.slice aa na ca,.slice none 0 0,.slice none 0 0,.int .i64 (e.r.count:Nat)] 85)=y6 at *;obtain⟨g6,Ar⟩:∃x,Gr+1=x:=⟨_,rfl⟩
   rw[Ar]at br⊢;have hB:=HB2.out;have lD:Hid (g6<y6.heap.size):=hid br.lt;have hgg:=br.lt;have hko:∀q,K q->q<Gr:=fun q hq=>by have:=(HS.out.kin q hq).2;have:=HB.out.size;have:=D7.out;omega
   have HKO:=hid hko;have fK:Hid (bH y6 (fun q=>q<Gr) e.r.before (.slice ab nb cb)):=hid (by
    have h1:=(aiu.out.1.mono hko).grow (X:=fun _=>False) (aC (D7.out▸HB2.out)) (fun _ _ h=>h);rw[HVB.out]at h1;exact h1)
   have qg:Hid (bH y6 (fun q=>q<Gr) e.r.after (.slice aa na ca)):=hid (by
    have h1:=(aiu.out.2.mono hko).grow (X:=fun _=>False) (aC (D7.out▸HB2.out)) (fun _ _ h=>h);rw[HVA.out]at h1;exact h1)
   have auG:nb<=1099511627776:=by have:=Ci.out.1.b;have:=tK.out;omega
   have auH:na<=1099511627776:=by have:=Ci.out.1.a;have:=rD.out;omega
   clear hko;obtain⟨rr,hrr⟩:∃x,e.r=x:=⟨_,rfl⟩
   rw[hrr]at br fK qg tK rD⊢;refine eP (nV g6 nb na (y6.heap.size) rr ab aa cb ca) 12 NK [some 18,some 19,some 20,some 21,some 22,some 23,some 24,some 25,some 26,none,some 27,none] [[],[0],[1],[2],[],[4],[5],[6],[],[3,8],[9],[7,9,10]] [0,1,2,3,4,5,6,7,8,9,10,11] [] (by decide) (by kernel_rfl) (by kernel_rfl) rfl (jJ g6 nb na (y6.heap.size) rr ab aa cb ca) (Xh g6 nb na (y6.heap.size) rr ab aa cb ca) (QX g6 nb na (y6.heap.size) rr ab aa cb ca lD.out) ?alN ?_
   case alN=>
    intro i hi o ho vs lo eX w' hg hp hdd;have hsz:=hg.size;replace hp:=fun j hj=>(hp j hj).2.2.2
    match i,hi with
    | 0,_|4,_|8,_|1,_|5,_|10,_=>
     cases ho;simp only[aA,jJ]at hp
     first|simp only[ak,Act.put,aA,hp]|simp only[ak,Act.put,aA]
     try have e0:=(hg.cell (g6) 6 br.lt (by rintro⟨j,_,hne,hb,hw⟩;first|(simp only[nV]at hw;rcases hw with ⟨rfl,e1,e2⟩|⟨rfl,e1,e2⟩<;>first|omega|(exact hb (by decide)))|fail)).trans (br.cell 6 _ rfl)
     try have e1:=(hg.cell (g6) 7 br.lt (by rintro⟨j,_,hne,hb,hw⟩;first|(simp only[nV]at hw;rcases hw with ⟨rfl,e1,e2⟩|⟨rfl,e1,e2⟩<;>first|omega|(exact hb (by decide)))|fail)).trans (br.cell 7 _ rfl)
     go_wp2;exact⟨_,rfl,aB.refl _,rfl⟩
    | 2,_=>
     cases ho;simp only[ak,Act.put,aA];have h1:=hp 1 (by simp);simp only[jJ]at h1;rw[h1];have hrd:=(fK.out.grow (aj.aK hg (Y:=fun k=>k=g6) (fun k o hk=>by obtain⟨j,_,_,_,hw⟩:=hk;simp only[nV]at hw;rcases hw with h|h<;>exact h.2.1)) (fun q hq e=>by omega)).1;rw[tK.out]at hrd;go_wp2_with fail;refine(Jj rr.before nb tK.out (by omega) _ w' hrd).mono ?_;rintro er wh ⟨ao,c,rfl,hc1,hc2,hbl⟩;go_wp2;exact⟨_,rfl,aB.bK ⟨hbl.os,hbl.tape,hbl.output,hbl.size,hbl.block⟩,ao,c,rfl,hc1,fun m hm=>(hc2 m hm).mono (fun q hq=>⟨by have:=hg.size;omega,hq.2⟩)⟩
    | 3,_=>
     cases ho;simp only[ak,Act.put,aA];have h2:=hp 2 (by simp);simp only[jJ]at h2;obtain⟨ao,c,h2a,h2b,h2c⟩:=h2;rw[h2a];go_wp2_with fail;refine(vW ao nb c w' h2b).mono ?_;rintro er wh ⟨rfl,rfl⟩;go_wp2;exact⟨_,rfl,aB.refl _,ao,rfl,h2c _ (Nat.le_refl _)⟩
    | 6,_=>
     cases ho;simp only[ak,Act.put,aA];have h5:=hp 5 (by simp);simp only[jJ]at h5;rw[h5];have hrd:=(qg.out.grow (aj.aK hg (Y:=fun k=>k=g6) (fun k o hk=>by obtain⟨j,_,_,_,hw⟩:=hk;simp only[nV]at hw;rcases hw with h|h<;>exact h.2.1)) (fun q hq e=>by omega)).1;rw[rD.out]at hrd;go_wp2_with fail;refine(Jj rr.after na rD.out (by omega) _ w' hrd).mono ?_;rintro er wh ⟨ao,c,rfl,hc1,hc2,hbl⟩;go_wp2;exact⟨_,rfl,aB.bK ⟨hbl.os,hbl.tape,hbl.output,hbl.size,hbl.block⟩,ao,c,rfl,hc1,fun m hm=>(hc2 m hm).mono (fun q hq=>⟨by have:=hg.size;omega,hq.2⟩)⟩
    | 7,_=>
     cases ho;simp only[ak,Act.put,aA];have h6:=hp 6 (by simp);simp only[jJ]at h6;obtain⟨ao,c,Zh,Qa,Qb⟩:=h6;rw[Zh];go_wp2_with fail;refine(vW ao na c w' Qa).mono ?_;rintro er wh ⟨rfl,rfl⟩;go_wp2;exact⟨_,rfl,aB.refl _,ao,rfl,Qb _ (Nat.le_refl _)⟩
    | 9,_=>
     cases ho;simp only[ak,Act.put,aA];have h3:=hp 3 (by simp);have h8:=hp 8 (by simp);simp only[jJ]at h3 h8;rw[h8];obtain⟨ao,h3a,_⟩:=h3;rw[h3a];have o0:=(hg.cell (g6) 6 br.lt (by rintro⟨j,_,hne,hb,hw⟩;simp only[nV]at hw;rcases hw with ⟨rfl,e1,e2⟩|⟨rfl,e1,e2⟩<;>first|omega|(exact hb (by decide)))).trans (br.cell 6 _ rfl);have fz:∀o,w'.frozen? ⟨g6,o,none⟩=false:=fun o=>(hg.frozen _ o br.lt).trans (br.free o);have hlt:g6<w'.heap.size:=by have:=br.lt;omega
     go_wp2;exact⟨.bool true,rfl,((aB.refl _).setCell (by unfold nV;omega) hlt _),by simpa[World.setCell]using hlt,by rw[h3a];exact World.cell?_setCell_same _ _ _ o0⟩
    | 11,_=>
     cases ho;simp only[ak,Act.put,aA];have h7:=hp 7 (by simp);have h9:=hp 9 (by simp);have h10:=hp 10 (by simp);simp only[jJ]at h7 h9 h10;rw[h10];obtain⟨ao,h7a,_⟩:=h7;rw[h7a];have o0:=(hg.cell (g6) 7 br.lt (by rintro⟨j,_,hne,hb,hw⟩;simp only[nV]at hw;rcases hw with ⟨rfl,e1,e2⟩|⟨rfl,e1,e2⟩<;>first|omega|(exact hb (by decide)))).trans (br.cell 7 _ rfl);have fz:∀o,w'.frozen? ⟨g6,o,none⟩=false:=fun o=>(hg.frozen _ o br.lt).trans (br.free o);have hlt:g6<w'.heap.size:=by have:=br.lt;omega
     go_wp2;exact⟨.bool true,rfl,((aB.refl _).setCell (by unfold nV;omega) hlt _),by simpa[World.setCell]using hlt,by rw[h7a];exact World.cell?_setCell_same _ _ _ o0⟩
    | (q+12),hq=>exact absurd hq (by omega)
   intro vS lo hi z6 hg hp hd;have hP:=fun j hj=>(hp j hj).2.2.2;have h0:=hP 0 (by decide) (by decide);have h1:=hP 1 (by decide) (by decide);have h2:=hP 2 (by decide) (by decide);have h3:=hP 3 (by decide) (by decide);have h4:=hP 4 (by decide) (by decide);have h5:=hP 5 (by decide) (by decide);have h6:=hP 6 (by decide) (by decide);have h7:=hP 7 (by decide) (by decide);have h8:=hP 8 (by decide) (by decide);have h9:=hP 9 (by decide) (by decide);have h10:=hP 10 (by decide) (by decide);have h11:=hP 11 (by decide) (by decide);clear hP;simp only[jJ]at h0 h1 h2 h3 h4 h5 h6 h7 h8 h9 h10 h11;clear hp hd;have hsz:=hg.size;replace br:Box z6 (g6) [.int .i64 (rr.kind:Nat),.int .i64 (rr.aV:Nat),.int .i64 (rr.prev:Nat),.int .i64 (rr.next:Nat),.int .i64 (rr.page:Nat),.int .i64 (rr.off:Nat),vS 3,vS 7,.slice none 0 0,.slice none 0 0,.int .i64 (rr.count:Nat)]:=br.upd hg (by
    intro i v hi
    match i,hi with
    | 0,hi|1,hi|2,hi|3,hi|4,hi|5,hi|8,hi|9,hi|10,hi=>exact .inr ⟨(by rintro⟨j,_,hw⟩;simp only[nV]at hw;omega),hi⟩
    | 6,hi=>exact .inl (by obtain rfl:=Option.some.inj hi;exact h9.2)
    | 7,hi=>exact .inl (by obtain rfl:=Option.some.inj hi;exact h11.2)
    | (q+11),hi=>cases hi)
   replace hB:=hB.trans (hg.below (fun k hk=>⟨by omega,fun o=>by rintro⟨j,_,hw⟩;simp only[nV]at hw;omega⟩));have hr:List.range 12=[0,1,2,3,4,5,6,7,8,9,10,11]:=rfl;rw[hr];clear hr;simp only[List.drop_succ_cons,List.drop_zero,List.drop_nil,ak,Act.put,aA,h0,h1,h4,h5,h8,h10];clear h0 h1 h4 h5 h8 h10;obtain⟨a3,e3,s3⟩:=h3;obtain⟨a7,e7,s7⟩:=h7;rw[e3,e7]at br;have Ai:=hid hB;have hz6:Gr<=z6.heap.size:=by have:=br.lt;omega
   have Aw:=hid s3;have Cc:=hid s7;have HGZ:Hid (y6.heap.size<=z6.heap.size):=hid hsz;have bx6:=bx.aH (aj.aK hg (Y:=fun k=>k=g6) (fun k o hk=>by obtain⟨j,_,hw⟩:=hk;simp only[nV]at hw;rcases hw with h|h<;>exact h.2.1)) (fun e=>by omega);clear hB hg h9 h11 s3 s7 e3 e7 hgg bx;go_upto_region 7 with (fail);have hB:=Below.refl Gr z6;have hgg:=br.lt;refine aQ (qB g6 nb na rr a3 a7) 12 [[],[0],[0,1],[0,1,2],[],[4],[0,1,2,3,4,5],[0,1,2,3,4,5,6],[0,1,2,3,4,5],[0,1,2,3,4,5,6,7,8],[0,1,2,3,4,5,6,7,8,9],[0,1,2,3,4,5,6,7,8,9,10]] [some 28,some 29,some 30,some 31,some 32,some 33,some 34,some 35,some 36,none,some 37,none] (by kernel_rfl) (by kernel_rfl) rfl (pq g6 nb na rr a3 a7) (Q8 g6 nb na rr a3 a7) ?alO ?_
   case alO=>
    intro i hi o ho vs lo eX w' hg hp;have hsz:=hg.size;replace hp:=fun j hj=>(hp j hj).2.2.2
    match i,hi with
    | 0,_|4,_|8,_|1,_|5,_|10,_=>
     cases ho;simp only[aA,pq]at hp
     first|simp only[ak,Act.put,aA,hp]|simp only[ak,Act.put,aA]
     try have e0:=(hg.cell (g6) 8 br.lt (by rintro⟨j,_,hne,hb,hw⟩;first|(simp only[qB]at hw;rcases hw with ⟨rfl,e1,e2⟩|⟨rfl,e1,e2⟩<;>first|omega|(exact hb (by decide)))|fail)).trans (br.cell 8 _ rfl)
     try have e1:=(hg.cell (g6) 9 br.lt (by rintro⟨j,_,hne,hb,hw⟩;first|(simp only[qB]at hw;rcases hw with ⟨rfl,e1,e2⟩|⟨rfl,e1,e2⟩<;>first|omega|(exact hb (by decide)))|fail)).trans (br.cell 9 _ rfl)
     go_wp2;exact⟨_,rfl,aB.refl _,rfl⟩
    | 2,_=>
     cases ho;simp only[ak,Act.put,aA];have h1:=hp 1 (by simp);simp only[pq]at h1;rw[h1];go_wp2_with fail;refine(Xf w').mono ?_;rintro er wh ⟨rfl,rfl⟩;go_wp2;exact⟨_,rfl,aB.refl _,rfl⟩
    | 3,_=>
     cases ho;simp only[ak,Act.put,aA];have h2:=hp 2 (by simp);simp only[pq]at h2;rw[h2];go_wp2_with fail;refine(ZC w').mono ?_;rintro er wh ⟨rfl,rfl⟩;go_wp2;exact⟨_,rfl,aB.refl _,rfl⟩
    | 6,_=>
     cases ho;simp only[ak,Act.put,aA];have h5:=hp 5 (by simp);simp only[pq]at h5;rw[h5];go_wp2_with fail;refine(Xg w').mono ?_;rintro er wh ⟨rfl,rfl⟩;go_wp2;exact⟨_,rfl,aB.refl _,rfl⟩
    | 7,_=>
     cases ho;simp only[ak,Act.put,aA];have h6:=hp 6 (by simp);simp only[pq]at h6;rw[h6];go_wp2_with fail;refine(ZE w').mono ?_;rintro er wh ⟨rfl,rfl⟩;go_wp2;exact⟨_,rfl,aB.refl _,rfl⟩
    | 9,_=>
     cases ho;simp only[ak,Act.put,aA];have h3:=hp 3 (by simp);have h8:=hp 8 (by simp);simp only[pq]at h3 h8;rw[h3,h8];have o0:=(hg.cell (g6) 8 br.lt (by rintro⟨j,_,hne,hb,hw⟩;simp only[qB]at hw;omega)).trans (br.cell 8 _ rfl);have fz:∀o,w'.frozen? ⟨g6,o,none⟩=false:=fun o=>(hg.frozen _ o br.lt).trans (br.free o);have hlt:g6<w'.heap.size:=by have:=br.lt;omega
     go_wp2;exact⟨.bool true,rfl,((aB.refl _).setCell (by unfold qB;omega) hlt _),by simpa[World.setCell]using hlt,World.cell?_setCell_same _ _ _ o0⟩
    | 11,_=>
     cases ho;simp only[ak,Act.put,aA];have h7:=hp 7 (by simp);have h9:=hp 9 (by simp);have h10:=hp 10 (by simp);simp only[pq]at h7 h9 h10;rw[h7,h10];have o0:=(hg.cell (g6) 9 br.lt (by rintro⟨j,_,hne,hb,hw⟩;simp only[qB]at hw;omega)).trans (br.cell 9 _ rfl);have fz:∀o,w'.frozen? ⟨g6,o,none⟩=false:=fun o=>(hg.frozen _ o br.lt).trans (br.free o);have hlt:g6<w'.heap.size:=by have:=br.lt;omega
     go_wp2;exact⟨.bool true,rfl,((aB.refl _).setCell (by unfold qB;omega) hlt _),by simpa[World.setCell]using hlt,World.cell?_setCell_same _ _ _ o0⟩
    | (q+12),hq=>exact absurd hq (by omega)
   intro vS lo hi z7 hg hp hd;have hP:=fun j hj=>(hp j hj).2.2.2;have h0:=hP 0 (by decide);have h1:=hP 1 (by decide);have h2:=hP 2 (by decide);have h3:=hP 3 (by decide);have h4:=hP 4 (by decide);have h5:=hP 5 (by decide);have h6:=hP 6 (by decide);have h7:=hP 7 (by decide);have h8:=hP 8 (by decide);have h9:=hP 9 (by decide);have h10:=hP 10 (by decide);have h11:=hP 11 (by decide);clear hP;simp only[pq]at h0 h1 h2 h3 h4 h5 h6 h7 h8 h9 h10 h11;clear hp hd;have hsz:=hg.size;replace br:Box z7 (g6) [.int .i64 (rr.kind:Nat),.int .i64 (rr.aV:Nat),.int .i64 (rr.prev:Nat),.int .i64 (rr.next:Nat),.int .i64 (rr.page:Nat),.int .i64 (rr.off:Nat),.slice a3 nb nb,.slice a7 na na,.slice none 0 0,.slice none 0 0,.int .i64 (rr.count:Nat)]:=br.upd hg (by
    intro i v hi
    match i,hi with
    | 0,hi|1,hi|2,hi|3,hi|4,hi|5,hi|6,hi|7,hi|10,hi=>exact .inr ⟨(by rintro⟨j,_,hw⟩;simp only[qB]at hw;omega),hi⟩
    | 8,hi=>exact .inl (by obtain rfl:=Option.some.inj hi;exact h9.2)
    | 9,hi=>exact .inl (by obtain rfl:=Option.some.inj hi;exact h11.2)
    | (q+11),hi=>cases hi)
   replace hB:=hB.trans (hg.below (fun k hk=>⟨by omega,fun o=>by rintro⟨j,_,hw⟩;simp only[qB]at hw;omega⟩));have hr:List.range 12=[0,1,2,3,4,5,6,7,8,9,10,11]:=rfl;rw[hr];clear hr;simp only[List.drop_succ_cons,List.drop_zero,List.drop_nil,ak,Act.put,aA,h0,h1,h2,h3,h4,h5,h6,h7,h8,h10];clear h0 h1 h2 h3 h4 h5 h6 h7 h8 h9 h10 h11;clear hB;have wQ:=hid (aj.aK hg (Y:=fun k=>k=g6) (fun k o hk=>by obtain⟨j,_,hw⟩:=hk;simp only[qB]at hw;rcases hw with h|h<;>exact h.2.1));have jo:Hid (Below Gr wr z7):=hid (Ai.out.trans (wQ.out.below (fun k hk=>⟨by omega,fun e=>by omega⟩)));have bx7:=bx6.aH wQ.out (fun e=>by omega);have x0:=bx7.cell 0 _ rfl;have xl:=bx7.lt;have yc0:=br.cell 0 _ rfl;have yc1:=br.cell 1 _ rfl;have yc2:=br.cell 2 _ rfl;have yc3:=br.cell 3 _ rfl;have yc4:=br.cell 4 _ rfl;have yc5:=br.cell 5 _ rfl;have yc6:=br.cell 6 _ rfl;have yc7:=br.cell 7 _ rfl;have yc8:=br.cell 8 _ rfl;have yc9:=br.cell 9 _ rfl;have auI:=br.cell 10 _ rfl;have ycl:=br.lt;have ap0:=hid (Aw.out.grow wQ.out (fun q hq e=>by have:=br.lt;have:=lD.out;omega));have ap1:=hid (Cc.out.grow wQ.out (fun q hq e=>by have:=br.lt;have:=lD.out;omega));have HZ7:Hid (z6.heap.size<=z7.heap.size):=hid wQ.out.size;have hlen:=ait.out;have hln:jq.length=k:=by
    have h1:=congrArg List.length hlen;rw[List.length_map,List.length_map,List.length_take,kC.out]at h1;omega
   have EY:=(qU.out.aip (D7.out▸jo.out)).row;clear hlen Aw Cc bx6 hsz;obtain⟨aN,hls⟩:∃x,e.aN=x:=⟨_,rfl⟩
   rw[hls]at x0;have HLS:=hid hls;have hwz:w.heap.size<=z7.heap.size:=by have:=HB.out.size;have:=jo.out.size;have:=D7.out;omega
   rw[hln]at EY;have gZ:=hid EY;have ap2:=hid hln;clear EY hln hls;go_wp2_with (at_builtin;refine bI JO (.tmp 38) (.tmp 43) rfl rfl rfl (gZ.out.alloc _) rfl (Reads.lit rfl rfl (Nat.le_refl _) rfl) (by intro u hu;simp at hu;rcases hu with rfl|rfl|rfl|rfl|rfl|rfl|rfl|rfl|rfl|rfl|rfl|rfl<;>rfl) (by omega) (by omega) (by simp;omega) ?_;intro ob cq wq ho2 hg2 hn2);have rP:=hid ho2;have HG2:=hid hg2;have FC:=hid hn2;clear ho2 hg2 hn2;go_wp2_with fail;go_roundw
   ·have hal:=(Below.refl z7.heap.size z7).alloc (Nat.le_refl _) (.cells #[.int .i64 (aN:Nat),.int .i64 (rr.kind:Nat),.int .i64 (rr.aV:Nat),.int .i64 (rr.prev:Nat),.int .i64 (rr.next:Nat),.int .i64 (rr.page:Nat),.int .i64 (rr.off:Nat),.slice a3 nb nb,.slice a7 na na,.slice none 0 0,.slice none 0 0,.int .i64 (rr.count:Nat)] 87);have hul:∀q,u3.ownBlock=some q->w.heap.size<=q/\q<Gr:=fun q hq=>by have:=qU.out.row.lt q hq;have:=D7.out;omega
    have hz:=lD.out;have hz2:=HGZ.out;have hz3:=HZ7.out;have hz4:Gr<=y6.heap.size:=by have:=HB2.out.size;have:=D7.out;omega
    have hq1:z7.heap.size<=wq.heap.size:=by have h1:=HG2.out.size;simp at h1;omega
    have hKo:∀q,K' q->w.heap.size<=q/\q<Gr:=fun q hq=>by have:=HK.out q hq;have:=D7.out;omega
    have aiw:∀(l:List UInt8)(v:Value),bH wr K' l v->bH wq (fun q=>K' q\/(Gr<=q/\q<z7.heap.size)) l v:=fun l v hs=>
     ((((hs.grow (X:=fun _=>False) (aC (D7.out▸jo.out)) (fun _ _ h=>h)).grow (X:=fun _=>False) (aC hal) (fun _ _ h=>h)).grow HG2.out (fun q hq e=>HDJ.out q hq e)).mono (fun q hq=>.inl hq))
    have newS:∀(l:List UInt8)(v:Value),bH z7 (fun q=>y6.heap.size<=q/\q<z6.heap.size) l v->bH wq (fun q=>K' q\/(Gr<=q/\q<z7.heap.size)) l v:=fun l v hs=>
     (((hs.grow (X:=fun _=>False) (aC hal) (fun _ _ h=>h)).grow HG2.out (fun q hq e=>by have:=hul q e;omega)).mono (fun q hq=>.inr ⟨by omega,by omega⟩))
    refine⟨k+1,jq++[⟨aN,rr,.slice a3 nb nb,.slice a7 na na⟩],fun q=>K' q\/(Gr<=q/\q<z7.heap.size),by omega,by go_num,⟨?_,?_,?_⟩,?_,?_,?_,?_⟩
    ·rw[List.length_append,ap2.out,wF];exact rP.out
    ·intro x hx;rcases List.mem_append.1 hx with hx|hx
     ·exact⟨aiw _ _ (qU.out.tb x hx).1,aiw _ _ (qU.out.tb x hx).2⟩
     ·rw[List.mem_singleton.1 hx];exact⟨newS _ _ ap0.out,newS _ _ ap1.out⟩
    ·intro x hx;rcases List.mem_append.1 hx with hx|hx
     ·exact qU.out.sm x hx
     ·rw[List.mem_singleton.1 hx,<-HLS.out,<-hrr];exact Ci.out
    ·rw[List.map_append,ait.out,List.take_add_one,HE.out,List.map_append,<-HLS.out,<-hrr];rfl
    ·rintro q (hq|hq)
     ·have:=hKo q hq;omega
     ·have:=HB.out.size;have:=D7.out;omega
    ·rintro q (hq|hq) hs
     ·rcases FC.out q hs with h|h
      ·exact HDJ.out q hq h
      ·have:=hKo q hq;simp at h;omega
     ·rcases FC.out q hs with h|h
      ·have:=hul q h;omega
      ·simp at h;omega
    ·have h1:Below w.heap.size w z7:=HB.out.trans (jo.out.mono (by have:=HB.out.size;have:=D7.out;omega));have h2:=h1.trans (hal.mono hwz);exact h2.trans (HG2.out.below (fun q hq=>⟨by simp;omega,fun e=>by have:=hul q e;omega⟩))
   ·simp[intOf];omega
  ·obtain rfl:k=n:=by omega
   have hlk:jq.length=k:=by
    have h1:=congrArg List.length hmap;rw[List.length_map,List.length_map,List.length_take,kC.out]at h1;omega
   have hrow:=hln.row;rw[hlk]at hrow;obtain⟨ob,cq,rfl⟩:=bF hrow;have hrd:=Reads.aY hrow;have hcq:k<=cq:=by
    obtain⟨_,_,e1,_,e3,_⟩:=hrd;injection e1 with _ _ e4;omega
   have hml:jq.map (fun e=>(e.aN,e.r))=σ.lines:=by rw[hmap,<-kC.out,List.take_length,HLI.out]
   have qU:=hid hln;have HML:=hid hml;have jD:=hid (zC hrd (Nat.le_refl k));have Og:=hid hlk;have HK:=hid hK;have HB:=hid hbl;clear hln hmap hK hdj hbl hrow hrd hml hlk;go_wp2_with fail;refine(ZF ob k cq wr hcq).mono ?_;rintro er y ⟨rfl,rfl⟩;go_wp2_with fail;go_ret;refine⟨_,jq,K',rfl,?_,fun x hx=>⟨qU.out.tb x hx,qU.out.sm x hx⟩,HML.out,HK.out,HB.out⟩;have h1:σ.lines.length=k:=by rw[<-HML.out,List.length_map,Og.out]
   rw[h1];exact jD.out
end
end
section
open Go.RowKit
section
variable{W0 w w':World}{A:bG}{c:Cf}{σ:St}{S:Nat->Prop}{vl vo:Value}{EL:List Le}{EO:List Te}{K S1:Nat->Prop}{X:Nat->Prop}
theorem aP.addLine(h:aP W0 w A c σ vl vo EL EO K S1){z:World}(hx:aj (fun b=>vl.ownBlock=some b) w z)(aN:Nat)(r:Rc)(vb va:Value)(hsm:r.small/\aN<=1099511627776)(ol:Option Addr)(cl k:Nat)(hk:EL.length=k)
  (ho:z.ownsRow W0.heap.size 87 12 (.slice ol (k+1) cl) (k+1) (fA EL++eG ⟨aN,r,vb,va⟩)) (hn:∀q,(Value.slice ol (k+1) cl).ownBlock=some q->vl.ownBlock=some q\/w.heap.size<=q) (Kn:Nat->Prop) (q1:bH w Kn r.before vb) (q2:bH w Kn r.after va)
  (kr:∀q,Kn q->W0.heap.size<=q/\q<w.heap.size) (k1:dA Kn S1) (k2:dA Kn (dS vl)) (k3:dA Kn (bZ vo EO)):
  ∃aT,aP W0 (z.setCell ⟨A.sb,4,none⟩ (.slice ol (k+1) cl)) A c { σ with lines:=σ.lines++[(aN,r)] } (.slice ol (k+1) cl) vo (EL++[⟨aN,r,vb,va⟩]) EO (fun q=>K q\/Kn q) aT/\
   aj (fun q=>S1 q\/dS vl q) w (z.setCell ⟨A.sb,4,none⟩ (.slice ol (k+1) cl))/\(∀q,aT q->S1 q\/w.heap.size<=q)/\(∀q,dS (.slice ol (k+1) cl) q->dS vl q\/w.heap.size<=q):=by
 have La:Below W0.heap.size W0 z:=h.bel.trans (hx.below fun k hk=>⟨Nat.lt_of_lt_of_le hk h.bel.size,fun e=>by have:=(h.ln.row.lt k e).1;omega⟩);obtain⟨S9,z1,z2⟩:=(h.sp.grow hx (fun k a b=>h.d1 k a b) La).Bf 4 (by decide) (.slice ol (k+1) cl);have g3:=aF z A.sb 4 (.slice ol (k+1) cl);have hsb:S1 A.sb:=h.pG;have hall:aj (fun k=>S1 k\/dS vl k) w (z.setCell ⟨A.sb,4,none⟩ (.slice ol (k+1) cl)):=(hx.mono (fun k hk=>.inr hk)).trans (g3.mono (fun k hk=>.inl (hk▸hsb)));have hns:vl.ownBlock≠some A.sb:=fun hk=>h.d1 _ h.pG hk;have hSS:∀k,S9 k->S1 k\/w.heap.size<=k:=fun k hk=>(z2.new k hk).elim .inl (fun hk=>by have:=hx.size;omega);have hVV:∀q,dS (.slice ol (k+1) cl) q->dS vl q\/w.heap.size<=q:=fun q hq=>hn q hq;have hnk:∀q,dS (.slice ol (k+1) cl) q->q≠A.sb:=fun q hq e=>(hn q hq).elim (fun h=>hns (e▸h)) (fun h2=>by have:=h.bC.lt;omega);have hxs:=hx.size;have hks:=g3.size;have hrl:=ho.lt;have f1:∀k,K k->¬(S1 k\/dS vl k):=fun k hk h2=>h2.elim (h.k1 k hk) (h.k2 k hk);have f2:∀k,Kn k->¬(S1 k\/dS vl k):=fun k hk h2=>h2.elim (k1 k hk) (k2 k hk);refine⟨S9,⟨z1,⟨?_,?_,?_⟩,by rw[List.map_append,<-h.lZ];rfl,(((h.tx.grow hx (fun k a b=>h.d3 k b a) (fun k a b=>h.k2 k a b)).grow g3 (fun k hk e=>h.d2 k (by subst e;exact h.pG) hk) (fun k hk e=>h.k1 k hk (by subst e;exact h.pG))).mono (fun _ h=>.inl h)),h.wP,?_,?_,?_,?_,?_,?_,?_⟩,hall,hSS,hVV⟩
 ·rw[wF,List.length_append,hk];have e1:fA [⟨aN,r,vb,va⟩]=eG ⟨aN,r,vb,va⟩:=by simp[fA]
  rw[e1];exact aI ho g3 hnk
 ·intro e he;rcases List.mem_append.1 he with he|he
  ·obtain⟨t1,t2⟩:=h.ln.tb e he;exact⟨(t1.grow hall f1).mono (fun _ h=>.inl h),(t2.grow hall f1).mono (fun _ h=>.inl h)⟩
  ·obtain rfl:=List.mem_singleton.1 he;exact⟨(q1.grow hall f2).mono (fun _ h=>.inr h),(q2.grow hall f2).mono (fun _ h=>.inr h)⟩
 ·intro e he;rcases List.mem_append.1 he with he|he
  ·exact h.ln.sm e he
  ·obtain rfl:=List.mem_singleton.1 he;exact hsm
 ·rintro q (hk|hk)
  ·exact⟨(h.kin q hk).1,by have:=(h.kin q hk).2;omega⟩
  ·exact⟨(kr q hk).1,Nat.lt_of_lt_of_le (kr q hk).2 hall.size⟩
 ·intro q h1 h2;rcases z2.new q h1 with h3|h3
  ·rcases hn q h2 with h4|h4
   ·exact h.d1 q h3 h4
   ·have:=(h.sp.lt q h3).2;omega
  ·have:=(hrl q h2).2;omega
 ·intro q h1 h2;rcases z2.new q h1 with h3|h3
  ·exact h.d2 q h3 h2
  ·have:=(h.tx.lt q h2).2;omega
 ·intro q h1 h2;rcases hn q h1 with h4|h4
  ·exact h.d3 q h4 h2
  ·have:=(h.tx.lt q h2).2;omega
 ·rintro q (h1|h1) h2
  ·rcases hSS q h2 with h3|h3
   ·exact h.k1 q h1 h3
   ·have:=(h.kin q h1).2;omega
  ·rcases hSS q h2 with h3|h3
   ·exact k1 q h1 h3
   ·have:=(kr q h1).2;omega
 ·rintro q (h1|h1) h2
  ·rcases hn q h2 with h3|h3
   ·exact h.k2 q h1 h3
   ·have:=(h.kin q h1).2;omega
  ·rcases hn q h2 with h3|h3
   ·exact k2 q h1 h3
   ·have:=(kr q h1).2;omega
 ·rintro q (h1|h1) h2
  ·exact h.k3 q h1 h2
  ·exact k3 q h1 h2
end
end
end Go.Proofs.YtpajagkhmodbnaaGreat

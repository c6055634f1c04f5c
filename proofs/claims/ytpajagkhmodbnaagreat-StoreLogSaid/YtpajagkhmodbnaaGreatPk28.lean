/- Pk: texts of the store seat laid together by program: StFine SvSay SvSto. Conditions: each theorem names its own. -/
import Derived.Test.YtpajagkhmodbnaaGreatPk27
import Derived.Test.YtpajagkhmodbnaaGreatPk24
namespace Go.Proofs.YtpajagkhmodbnaaGreat
set_option linter.unusedSimpArgs false
set_option linter.unusedVariables false
section
theorem overB_get(b x:List UInt8)(off:Nat)(h:off+x.length≤b.length)(i:Nat):(overB b off x)[i]? = if i<off then b[i]? else if i<off+x.length then x[i-off]? else b[i]? := by
  unfold overB
  have e1:x.take (b.length-off)=x:=List.take_of_length_le (by omega)
  have e2:(b.take off).length=off:=by rw[List.length_take];omega
  rw[e1,List.append_assoc]
  by_cases h1:i<off
  · rw[if_pos h1,List.getElem?_append_left (by omega),List.getElem?_take,if_pos h1]
  · rw[if_neg h1,List.getElem?_append_right (by omega),e2]
    by_cases h2:i<off+x.length
    · rw[if_pos h2,List.getElem?_append_left (by omega)]
    · rw[if_neg h2,List.getElem?_append_right (by omega),List.getElem?_drop]
      congr 1;omega
theorem overB_drop8(b x bs:List UInt8)(off:Nat)(hb:b.length=512)(hx:x.length=8)(ho:off+bs.length≤504):(overB (overB b 0 x) (8+off) bs).drop 8=overB (b.drop 8) off bs:=by
  have e0:(overB b 0 x).length=512:=by rw[overB_length _ _ _ (Nat.zero_le _),hb]
  apply List.ext_getElem?
  intro i
  rw[List.getElem?_drop,overB_get (overB b 0 x) bs (8+off) (by rw[e0];omega),overB_get (b.drop 8) bs off (by rw[List.length_drop,hb];omega),overB_get b x 0 (by omega),List.getElem?_drop]
  by_cases h1:i<off
  · rw[if_pos (by omega),if_neg (by omega),if_neg (by omega),if_pos h1]
  · rw[if_neg (by omega),if_neg h1]
    by_cases h2:i<off+bs.length
    · rw[if_pos (by omega),if_pos h2]
      congr 1;omega
    · rw[if_neg (by omega),if_neg h2,if_neg (by omega),if_neg (by omega)]
theorem overB_same(b:List UInt8)(off n:Nat)(h:off+n≤b.length):overB b off ((b.drop off).take n)=b:=by
  have hl:((b.drop off).take n).length=n:=by rw[List.length_take,List.length_drop];omega
  apply List.ext_getElem?
  intro i
  rw[overB_get _ _ _ (by rw[hl];exact h),hl]
  split
  · rfl
  · split
    · rw[List.getElem?_take,if_pos (by omega),List.getElem?_drop];congr 1;omega
    · rfl
theorem overB_back(b x y:List UInt8)(off:Nat)(h:off+x.length≤b.length)(hy:y=(b.drop off).take x.length):overB (overB b off x) off y=b:=by
  subst hy
  have hl:((b.drop off).take x.length).length=x.length:=by rw[List.length_take,List.length_drop];omega
  apply List.ext_getElem?
  intro i
  rw[overB_get _ _ _ (by rw[overB_length _ _ _ (by omega),hl];exact h),overB_get _ _ _ h,hl]
  split
  · rfl
  · split
    · rw[List.getElem?_take,if_pos (by omega),List.getElem?_drop];congr 1;omega
    · rfl
def StD(c:Cf)(nf:Nat)(σ:St)(W:Nat→List UInt8):Prop:=∃V,StV c nf σ V∧∀q,q<c.pg→W q=(V q).drop 8
section
variable{c:Cf}{nf:Nat}{σ σ':St}{W:Nat→List UInt8}
theorem StD.congr(h:StD c nf σ W)(hp:σ'.p=σ.p)(hD:σ'.io.D=σ.io.D):StD c nf σ' W:=by
  obtain⟨V,h1,h2⟩:=h
  exact⟨V,h1.congr hp hD,h2⟩
theorem StD.flush(hc:c.ok)(h:StD c nf σ W)(hp:σ'.p=σ.p)(hio:σ'.io={ D:=(σ.io.R.flush c.n σ.io.D).2,R:=(σ.io.R.flush c.n σ.io.D).1 }):StD c nf σ' W:=by
  obtain⟨V,h1,h2⟩:=h
  exact⟨V,h1.flush hc hp hio,h2⟩
theorem StD.len(h:StD c nf σ W){q:Nat}(hq:q<c.pg):(W q).length=504:=by
  obtain⟨V,h1,h2⟩:=h
  rw[h2 q hq,List.length_drop,h1.inv.len q hq]
theorem StD.read(hc:c.ok)(h:StD c nf σ W){q:Nat}(hq:q<c.pg)(off n:Nat):σ.bytes c q off n=((W q).drop off).take n∧StD c nf (σ.get c q).2.2 W:=by
  obtain⟨V,h1,h2⟩:=h
  obtain⟨_,e,h3⟩:=h1.get hc hq
  refine⟨?_,V,h3,h2⟩
  unfold St.bytes
  rw[e,h2 q hq,List.drop_drop]
theorem StD.over(hc:c.ok){V:Nat→List UInt8}(h1:StV c nf σ V)(h2:∀q,q<c.pg→W q=(V q).drop 8){q:Nat}(hq:q<c.pg)(l:Nat)(hl:1≤l)(off:Nat)(bs:List UInt8)(ho:off+bs.length≤504):
    (σ.put c q (overB (overB (V q) 0 (be8 l)) (8+off) bs) l).1=0∧StD c nf (σ.put c q (overB (overB (V q) 0 (be8 l)) (8+off) bs) l).2 (updV W q (overB (W q) off bs)):=by
  have hlen:=h1.inv.len q hq
  have e1:(overB (V q) 0 (be8 l)).length=512:=by rw[overB_length _ _ _ (Nat.zero_le _),hlen]
  obtain⟨a1,a2⟩:=h1.put hc hq (overB (overB (V q) 0 (be8 l)) (8+off) bs) (by rw[overB_length _ _ _ (by omega),e1]) l hl
  refine⟨a1,_,a2,fun r hr=>?_⟩
  unfold updV
  split
  · next e=>subst e;rw[overB_drop8 _ _ _ _ hlen (be8_len _) ho,h2 _ hr]
  · exact h2 r hr
theorem StD.apply(hc:c.ok)(h:StD c nf σ W)(r:Rc)(hp:r.page<c.pg)(ho:r.off+r.after.length≤504)(l:Nat)(hl:1≤l):(σ.apply c r l).1=0∧StD c nf (σ.apply c r l).2 (updV W r.page (overB (W r.page) r.off r.after)):=by
  obtain⟨V,h1,h2⟩:=h
  obtain⟨_,e,h3⟩:=h1.get hc hp
  rw[St.apply_eq σ c r l hp,e]
  exact StD.over hc h3 h2 hp l hl r.off r.after ho
def wrRc(id last p off:Nat)(bef bs:List UInt8):Rc:={ Rc.zero with kind:=2,txn:=id,prev:=last,page:=p,off:=off,before:=bef,after:=bs }
theorem StD.write (hc:c.ok) (h:StD c nf σ W) (i:Nat) (x:Tx) (p off:Nat) (bs:List UInt8) (hp:p<c.pg) (ho:off+bs.length≤504) (hsz:96+2*bs.length≤σ.io.R.room c.n):
    (σ.write c i x p off bs).1=0∧StD c nf (σ.write c i x p off bs).2 (updV W p (overB (W p) off bs))∧
    ((((W p).drop off).take bs.length=bs∧SSame σ (σ.write c i x p off bs).2 1)∨
     (((W p).drop off).take bs.length≠bs∧SSame { σ with io:={ σ.io with R:=σ.io.R.app (wrRc x.id x.last p off (((W p).drop off).take bs.length) bs).enc },lines:=σ.lines++[(σ.io.R.tail+1,wrRc x.id x.last p off (((W p).drop off).take bs.length) bs)],opn:=σ.opn.set i { x with l:=x.l++[⟨σ.io.R.tail+1,x.last,p,off,((W p).drop off).take bs.length⟩],last:=σ.io.R.tail+1 } } (σ.write c i x p off bs).2 2)):=by
  have hw:=h.len hp
  obtain⟨V,h1,h2⟩:=h
  obtain⟨g1,e,h3⟩:=h1.get hc hp
  have hlen:=h1.inv.len p hp
  have hbef:((σ.get c p).2.1.drop (8+off)).take bs.length=((W p).drop off).take bs.length:=by rw[e,h2 p hp,List.drop_drop]
  have hs:=(σ.get_ok c p hp).2
  by_cases hne:((W p).drop off).take bs.length=bs
  · have e1:σ.write c i x p off bs=(0,(σ.get c p).2.2):=by
      unfold St.write
      simp only[]
      rw[if_neg (by rw[g1];simp),hbef,if_pos hne]
    rw[e1]
    refine⟨rfl,?_,.inl ⟨hne,hs⟩⟩
    have e2:overB (W p) off bs=W p:=by
      have:=overB_same (W p) off bs.length (by omega)
      rw[hne]at this;exact this
    rw[e2,updV_self]
    exact⟨V,h3,h2⟩
  · have hbl:(((W p).drop off).take bs.length).length=bs.length:=by rw[List.length_take,List.length_drop];omega
    have e1:=write_eq σ c i x p off bs hp _ hbef hne (by rw[hs.R.room c.n];simp only[Rc.size,Rc.zero,hbl,List.length_nil];omega)
    rw[e1,e]
    have h4:StV c nf { (σ.get c p).2.2 with
        io:={ (σ.get c p).2.2.io with R:=(σ.get c p).2.2.io.R.app (Rc.enc { Rc.zero with kind:=2,txn:=x.id,prev:=x.last,page:=p,off:=off,before:=((W p).drop off).take bs.length,after:=bs }) },
        lines:=(σ.get c p).2.2.lines++[((σ.get c p).2.2.io.R.tail+1,{ Rc.zero with kind:=2,txn:=x.id,prev:=x.last,page:=p,off:=off,before:=((W p).drop off).take bs.length,after:=bs })],
        opn:=(σ.get c p).2.2.opn.set i { x with l:=x.l++[⟨(σ.get c p).2.2.io.R.tail+1,x.last,p,off,((W p).drop off).take bs.length⟩],last:=(σ.get c p).2.2.io.R.tail+1 } } V:=h3.congr rfl rfl
    obtain⟨a1,a2⟩:=StD.over hc h4 h2 hp ((σ.get c p).2.2.io.R.tail+1) (by omega) off bs ho
    refine⟨a1,a2,.inr ⟨hne,?_⟩⟩
    have hlo:(overB (overB (V p) 0 (be8 ((σ.get c p).2.2.io.R.tail+1))) (8+off) bs).length=512:=by
      have e2:(overB (V p) 0 (be8 ((σ.get c p).2.2.io.R.tail+1))).length=512:=by rw[overB_length _ _ _ (Nat.zero_le _),hlen]
      rw[overB_length _ _ _ (by omega),e2]
    obtain⟨_,s2⟩:=St.put_ok { (σ.get c p).2.2 with
        io:={ (σ.get c p).2.2.io with R:=(σ.get c p).2.2.io.R.app (Rc.enc { Rc.zero with kind:=2,txn:=x.id,prev:=x.last,page:=p,off:=off,before:=((W p).drop off).take bs.length,after:=bs }) },
        lines:=(σ.get c p).2.2.lines++[((σ.get c p).2.2.io.R.tail+1,{ Rc.zero with kind:=2,txn:=x.id,prev:=x.last,page:=p,off:=off,before:=((W p).drop off).take bs.length,after:=bs })],
        opn:=(σ.get c p).2.2.opn.set i { x with l:=x.l++[⟨(σ.get c p).2.2.io.R.tail+1,x.last,p,off,((W p).drop off).take bs.length⟩],last:=(σ.get c p).2.2.io.R.tail+1 } } c p hp _ hlo _ (show 1≤(σ.get c p).2.2.io.R.tail+1 by omega)
    have ht:(σ.get c p).2.2.io.R.tail=σ.io.R.tail:=hs.R.tail
    obtain⟨r1,r2,r3⟩:=hs.R
    refine⟨?_,?_,?_,?_,?_,?_,?_,?_,?_⟩
    · have q1:=s2.wr
      have q2:=hs.wr
      simp only at q1⊢
      omega
    · refine RSame.trans ?_ s2.R
      rw[ht]
      refine⟨r1,?_,r3⟩
      show(σ.get c p).2.2.io.R.bytes++_=σ.io.R.bytes++_
      rw[r2];rfl
    · rw[s2.lines]
      show(σ.get c p).2.2.lines++_=σ.lines++_
      rw[hs.lines,ht];rfl
    · rw[s2.opn]
      show(σ.get c p).2.2.opn.set i _=σ.opn.set i _
      rw[hs.opn,ht]
    · rw[s2.master];exact hs.master
    · rw[s2.next];exact hs.next
    · rw[s2.commits];exact hs.commits
    · rw[s2.redone];exact hs.redone
    · rw[s2.undone];exact hs.undone
end
structure TxFine(c:Cf)(T N:Nat)(x:Tx):Prop where
  id1:1≤x.id
  id2:x.id<N
  first:1≤x.first∧x.first≤x.last
  last:x.last≤T
  len:96*x.l.length≤T
  ups:∀u∈x.l,u.off+u.before.length≤504∧u.page<c.pg∧u.lsn≤x.last∧u.prev≤T
theorem TxFine.mono{c:Cf}{T T' N N':Nat}{x:Tx}(h:TxFine c T N x)(hT:T≤T')(hN:N≤N'):TxFine c T' N' x:=
  ⟨h.id1,Nat.lt_of_lt_of_le h.id2 hN,h.first,Nat.le_trans h.last hT,Nat.le_trans h.len hT,fun u hu=>by obtain⟨a,b,d,e⟩:=h.ups u hu;exact⟨a,b,d,Nat.le_trans e hT⟩⟩
structure Fine(c:Cf)(k b:Nat)(σ:St):Prop where
  start:σ.io.R.start=0
  base:σ.io.R.base=0
  wr:σ.p.wr≤k
  lines:96*σ.lines.length≤σ.io.R.tail
  next:1≤σ.next∧σ.next≤k+1
  commits:σ.commits≤k
  opn:σ.opn.length≤k
  tx:∀x∈σ.opn,TxFine c σ.io.R.tail σ.next x
  nd:(σ.opn.map (·.id)).Nodup
  cost:σ.io.R.tail+σ.reserved≤b
  top:b+2048≤(c.n-1)*118
def upsC(l:List Up):Nat:=(l.map fun u=>96+u.before.length).sum
def txC(x:Tx):Nat:=192+upsC x.l
theorem res_eq(σ:St):σ.reserved=(σ.opn.map txC).sum:=rfl
theorem sum_set{l:List Nat}{i a b:Nat}(h:l[i]? = some a):(l.set i b).sum+a=l.sum+b:=by
  induction l generalizing i with
  | nil=>cases h
  | cons x r ih=>
    cases i with
    | zero=>
      obtain rfl:=Option.some.inj h
      simp only[List.set_cons_zero,List.sum_cons];omega
    | succ i=>
      have:=ih (i:=i) h
      simp only[List.set_cons_succ,List.sum_cons];omega
theorem sum_erase{l:List Nat}{i a:Nat}(h:l[i]? = some a):(l.eraseIdx i).sum+a=l.sum:=by
  induction l generalizing i with
  | nil=>cases h
  | cons x r ih=>
    cases i with
    | zero=>
      obtain rfl:=Option.some.inj h
      simp only[List.eraseIdx_cons_zero,List.sum_cons];omega
    | succ i=>
      have:=ih (i:=i) h
      simp only[List.eraseIdx_cons_succ,List.sum_cons];omega
theorem set_self{α:Type}{l:List α}{i:Nat}{x:α}(h:l[i]? = some x):l.set i x=l:=by
  obtain⟨hi,rfl⟩:=List.getElem?_eq_some_iff.1 h
  exact List.set_getElem_self hi
theorem drop_last{α:Type}{l:List α}{u:α}(h:l.getLast? = some u):l.dropLast++[u]=l:=by
  obtain⟨ys,rfl⟩:=List.getLast?_eq_some_iff.1 h
  rw[List.dropLast_concat]
theorem upsC_append(l:List Up)(u:Up):upsC (l++[u])=upsC l+(96+u.before.length):=by simp[upsC]
theorem nd_set{L:List Tx}{i:Nat}{x y:Tx}(hx:L[i]? = some x)(e:y.id=x.id):((L.set i y).map (·.id))=L.map (·.id):=by
  rw[List.map_set,e]
  apply List.ext_getElem?
  intro j
  rw[List.getElem?_set]
  split
  · next e2=>
    subst e2
    rw[List.getElem?_map,hx]
    have:=(List.getElem?_eq_some_iff.1 hx).1
    simp[this]
  · rfl
section
variable{c:Cf}{k b:Nat}{σ σ':St}
theorem Fine.room(h:Fine c k b σ):σ.io.R.room c.n=(c.n-1)*118-σ.io.R.tail:=by
  unfold Rg.room
  rw[h.start,Nat.zero_div,Nat.zero_add]
theorem Fine.le(h:Fine c k b σ){k' b':Nat}(hk:k≤k')(hb:b≤b')(ht:b'+2048≤(c.n-1)*118):Fine c k' b' σ:=
  ⟨h.start,h.base,Nat.le_trans h.wr hk,h.lines,⟨h.next.1,by have:=h.next.2;omega⟩,Nat.le_trans h.commits hk,Nat.le_trans h.opn hk,h.tx,h.nd,Nat.le_trans h.cost hb,ht⟩
theorem Fine.more(h:Fine c k b σ)(k':Nat)(hk:k≤k'):Fine c k' b σ:=h.le hk (Nat.le_refl _) h.top
theorem Fine.same{j:Nat}(h:Fine c k b σ)(hs:SSame σ σ' j):Fine c (k+j) b σ':=by
  have ht:=hs.R.tail
  refine⟨by rw[hs.R.2.2];exact h.start,by rw[hs.R.1];exact h.base,by have:=hs.wr;have:=h.wr;omega,by rw[hs.lines,ht];exact h.lines,by rw[hs.next];exact⟨h.next.1,by have:=h.next.2;omega⟩,
    by rw[hs.commits];exact Nat.le_trans h.commits (by omega),by rw[hs.opn];exact Nat.le_trans h.opn (by omega),by rw[hs.opn,ht,hs.next];exact h.tx,by rw[hs.opn];exact h.nd,?_,h.top⟩
  rw[ht,res_eq,hs.opn];exact h.cost
theorem Fine.app(h:Fine c k b σ)(r:Rc)(ht:r.txns=[])(hd:r.dirty=[])(O:List Tx)(N cm j d:Nat)(hN:σ.next≤N)(hN2:N≤k+j+1)(hcm:cm≤k+j)(hO:O.length≤k+j)(hx:∀x∈O,TxFine c (σ.io.R.tail+r.size) N x)(hnd:(O.map (·.id)).Nodup)
    (hc:r.size+(O.map txC).sum≤σ.reserved+d) (hb:b+d+2048≤(c.n-1)*118):
    Fine c (k+j) (b+d) { σ with io:={ σ.io with R:=σ.io.R.app r.enc },lines:=σ.lines++[(σ.io.R.tail+1,r)],opn:=O,next:=N,commits:=cm }:=by
  have e1:(σ.io.R.app r.enc).tail=σ.io.R.tail+r.size:=by rw[app_tail,enc_len r ht hd]
  have e2:96≤r.size:=by unfold Rc.size;omega
  refine⟨h.start,h.base,Nat.le_trans h.wr (by omega),?_,⟨by have:=h.next.1;show 1≤N;omega,hN2⟩,hcm,hO,?_,hnd,?_,hb⟩
  · show 96*(σ.lines++_).length≤(σ.io.R.app r.enc).tail
    rw[e1,List.length_append,List.length_singleton]
    have:=h.lines
    omega
  · show ∀x∈O,TxFine c (σ.io.R.app r.enc).tail N x
    rw[e1];exact hx
  · show(σ.io.R.app r.enc).tail+(O.map txC).sum≤_
    rw[e1]
    have:=h.cost
    omega
theorem Fine.begin(h:Fine c k b σ)(hb:b+288+2048≤(c.n-1)*118):Fine c (k+1) (b+288) (σ.begin_ c).2.2:=by
  have hr:=h.room
  have hcs:=h.cost
  rw[begin_eq σ c (by omega)]
  have hs:Rc.size { Rc.zero with kind:=1,txn:=σ.next }=96:=rfl
  refine h.app { Rc.zero with kind:=1,txn:=σ.next } rfl rfl (σ.opn++[⟨σ.next,σ.io.R.tail+1,σ.io.R.tail+1,[]⟩]) (σ.next+1) σ.commits 1 288 (by omega) (by have:=h.next.2;omega) (Nat.le_trans h.commits (by omega)) (by rw[List.length_append];have:=h.opn;simp;omega) (fun x hx=>?_) ?_ ?_ hb
  · rw[hs]
    rcases List.mem_append.1 hx with hx|hx
    · exact(h.tx x hx).mono (by omega) (by omega)
    · rw[List.mem_singleton.1 hx]
      exact⟨h.next.1,by simp,⟨by simp,Nat.le_refl _⟩,by show σ.io.R.tail+1≤_;omega,by simp,fun u hu=>by cases hu⟩
  · rw[List.map_append,List.nodup_append]
    refine⟨h.nd,by simp,fun a ha b hb=>?_⟩
    obtain⟨x,hx,rfl⟩:=List.mem_map.1 ha
    simp at hb
    subst hb
    have:=(h.tx x hx).id2
    omega
  · rw[hs,List.map_append,List.sum_append,res_eq]
    simp[txC,upsC]
    omega
theorem Fine.tx_at(h:Fine c k b σ){i:Nat}{x:Tx}(hx:σ.opn[i]? = some x):TxFine c σ.io.R.tail σ.next x:=h.tx x (List.mem_of_getElem? hx)
theorem Fine.of(h:Fine c k b σ){i:Nat}{x:Tx}(hx:σ.opn[i]? = some x):σ.of (x.id:Int)=some i:=by
  obtain⟨hi,he⟩:=List.getElem?_eq_some_iff.1 hx
  refine List.findIdx?_eq_some_iff_getElem.2 ⟨hi,by simp[he],fun j hj=>?_⟩
  have h2:=(List.pairwise_iff_getElem.1 h.nd) j i (by rw[List.length_map];omega) (by rw[List.length_map];exact hi) hj
  simp only[List.getElem_map,he]at h2
  simp
  omega
theorem Fine.set_le(h:Fine c k b σ){i:Nat}{x y:Tx}(hx:σ.opn[i]? = some x):((σ.opn.set i y).map txC).sum+txC x=σ.reserved+txC y:=by
  rw[List.map_set,res_eq]
  exact sum_set (by rw[List.getElem?_map,hx];rfl)
theorem Fine.res_ge(h:Fine c k b σ){i:Nat}{x:Tx}(hx:σ.opn[i]? = some x):txC x≤σ.reserved:=by
  have h1:=sum_erase (l:=σ.opn.map txC) (i:=i) (a:=txC x) (by rw[List.getElem?_map,hx];rfl)
  rw[res_eq]
  omega
theorem Fine.setT (h:Fine c k b σ) (r:Rc) (ht:r.txns=[]) (hd:r.dirty=[]) {i:Nat} {x:Tx} (hx:σ.opn[i]? = some x) (l:List Up) (d cm:Nat) (hcm:cm≤k+1) (hl:l.length≤x.l.length+1) (hu:∀u∈l,u∈x.l∨(u.off+u.before.length≤504∧u.page<c.pg∧u.lsn≤σ.io.R.tail+1∧u.prev≤σ.io.R.tail))
    (hc:r.size+upsC l≤upsC x.l+d) (hb:b+d+2048≤(c.n-1)*118):
    Fine c (k+1) (b+d) { σ with io:={ σ.io with R:=σ.io.R.app r.enc },lines:=σ.lines++[(σ.io.R.tail+1,r)],opn:=σ.opn.set i { x with last:=σ.io.R.tail+1,l:=l },commits:=cm }:=by
  have hxf:=h.tx_at hx
  have e2:96≤r.size:=by unfold Rc.size;omega
  refine h.app r ht hd (σ.opn.set i { x with last:=σ.io.R.tail+1,l:=l }) σ.next cm 1 d (Nat.le_refl _) (by have:=h.next.2;omega) hcm (by rw[List.length_set];have:=h.opn;omega) (fun y hy=>?_) ?_ ?_ hb
  · rcases List.mem_or_eq_of_mem_set hy with hy|rfl
    · exact(h.tx y hy).mono (by omega) (Nat.le_refl _)
    · refine⟨hxf.id1,hxf.id2,⟨hxf.first.1,by have:=hxf.first.2;have:=hxf.last;show x.first≤σ.io.R.tail+1;omega⟩,by show σ.io.R.tail+1≤_;omega,?_,fun u hu'=>?_⟩
      · show 96*l.length≤_
        have:=hxf.len
        omega
      · show _∧_∧u.lsn≤σ.io.R.tail+1∧_
        rcases hu u hu' with h1|⟨h1,h2,h3,h4⟩
        · obtain⟨a1,a2,a3,a4⟩:=hxf.ups u h1
          exact⟨a1,a2,by have:=hxf.last;omega,by omega⟩
        · exact⟨h1,h2,h3,by omega⟩
  · rw[nd_set (y:={ x with last:=σ.io.R.tail+1,l:=l }) hx rfl];exact h.nd
  · have h1:=h.set_le (y:={ x with last:=σ.io.R.tail+1,l:=l }) hx
    simp only[txC]at h1⊢
    omega
end
section
variable{c:Cf}{nf k b:Nat}{σ σ':St}{W:Nat→List UInt8}
theorem Fine.write (hc:c.ok) (hf:Fine c k b σ) (h:StD c nf σ W) {i:Nat} {x:Tx} (hx:σ.opn[i]? = some x) (p off:Nat) (bs:List UInt8) (hp:p<c.pg) (ho:off+bs.length≤504) (hb:b+(192+3*bs.length)+2048≤(c.n-1)*118):
    (σ.write c i x p off bs).1=0∧Fine c (k+3) (b+(192+3*bs.length)) (σ.write c i x p off bs).2∧StD c nf (σ.write c i x p off bs).2 (updV W p (overB (W p) off bs))∧
    ((((W p).drop off).take bs.length=bs∧(σ.write c i x p off bs).2.opn=σ.opn∧(σ.write c i x p off bs).2.lines=σ.lines∧(σ.write c i x p off bs).2.io.R.tail=σ.io.R.tail)∨
     (((W p).drop off).take bs.length≠bs∧(σ.write c i x p off bs).2.opn=σ.opn.set i { x with last:=σ.io.R.tail+1,l:=x.l++[⟨σ.io.R.tail+1,x.last,p,off,((W p).drop off).take bs.length⟩] }∧
      (σ.write c i x p off bs).2.lines=σ.lines++[(σ.io.R.tail+1,wrRc x.id x.last p off (((W p).drop off).take bs.length) bs)]∧(σ.write c i x p off bs).2.io.R.tail=σ.io.R.tail+(96+2*bs.length)))∧(σ.write c i x p off bs).2.next=σ.next:=by
  have hr:=hf.room
  have hcs:=hf.cost
  have hw:=h.len hp
  have hbl:(((W p).drop off).take bs.length).length=bs.length:=by rw[List.length_take,List.length_drop];omega
  obtain⟨a1,a2,a3⟩:=h.write hc i x p off bs hp ho (by omega)
  refine⟨a1,?_,a2,?_,?_⟩
  · rcases a3 with ⟨_,hs⟩|⟨_,hs⟩
    · exact(hf.same hs).le (by omega) (by omega) hb
    · have hsz:(wrRc x.id x.last p off (((W p).drop off).take bs.length) bs).size=96+2*bs.length:=by simp only[wrRc,Rc.size,Rc.zero,hbl,List.length_nil];omega
      have h1:=hf.setT (wrRc x.id x.last p off (((W p).drop off).take bs.length) bs) rfl rfl hx (x.l++[⟨σ.io.R.tail+1,x.last,p,off,((W p).drop off).take bs.length⟩]) (192+3*bs.length) σ.commits (by have:=hf.commits;omega) (by simp) (fun u hu=>by
        rcases List.mem_append.1 hu with hu|hu
        · exact .inl hu
        · rw[List.mem_singleton.1 hu]
          exact .inr ⟨by show off+_≤504;rw[hbl];exact ho,hp,Nat.le_refl _,(hf.tx_at hx).last⟩) (by rw[hsz,upsC_append];simp only[hbl];omega) hb
      have h2:=h1.same hs
      exact h2
  · rcases a3 with ⟨e,hs⟩|⟨e,hs⟩
    · exact .inl ⟨e,hs.opn,hs.lines,hs.R.tail⟩
    · refine .inr ⟨e,hs.opn,hs.lines,?_⟩
      rw[hs.R.tail]
      show(σ.io.R.app _).tail=_
      rw[app_tail,enc_len _ rfl rfl]
      simp only[wrRc,Rc.size,Rc.zero,hbl,List.length_nil];omega
  · rcases a3 with ⟨e,hs⟩|⟨e,hs⟩
    · exact hs.next
    · exact hs.next
theorem Fine.read(hc:c.ok)(hf:Fine c k b σ)(h:StD c nf σ W){q:Nat}(hq:q<c.pg)(off n:Nat):σ.bytes c q off n=((W q).drop off).take n∧StD c nf (σ.get c q).2.2 W∧Fine c (k+1) b (σ.get c q).2.2∧(σ.get c q).2.2.opn=σ.opn∧(σ.get c q).2.2.lines=σ.lines∧(σ.get c q).2.2.next=σ.next∧(σ.get c q).2.2.io.R.tail=σ.io.R.tail:=by
  obtain⟨h1,h2⟩:=h.read hc hq off n
  have hs:=(σ.get_ok c q hq).2
  exact⟨h1,h2,hf.same hs,hs.opn,hs.lines,hs.next,hs.R.tail⟩
def popU (mark:Nat):Nat→List Up→(Nat→List UInt8)→List Up×(Nat→List UInt8)
  | 0,l,W=>(l,W)
  | m+1,l,W=>match l.getLast? with
    | none=>(l,W)
    | some u=>if u.lsn≤mark then(l,W)else popU mark m l.dropLast (updV W u.page (overB (W u.page) u.off u.before))
theorem undo_fine (hc:c.ok) (i mark:Nat):∀(m k:Nat)(σ:St)(x:Tx)(W:Nat→List UInt8),Fine c k b σ→StD c nf σ W→σ.opn[i]? = some x→x.l.length≤m→
    ∃ x',(St.undo c i mark (m+1) σ).1=0∧Fine c (k+3*m) b (St.undo c i mark (m+1) σ).2∧(St.undo c i mark (m+1) σ).2.opn=σ.opn.set i x'∧x'.id=x.id∧x'.first=x.first∧x.last≤x'.last∧x'.l=(popU mark (m+1) x.l W).1∧
      StD c nf (St.undo c i mark (m+1) σ).2 (popU mark (m+1) x.l W).2∧(St.undo c i mark (m+1) σ).2.next=σ.next∧(St.undo c i mark (m+1) σ).2.commits=σ.commits∧(∀y∈σ.lines,y∈(St.undo c i mark (m+1) σ).2.lines):=by
  intro m
  induction m with
  | zero=>
    intro k σ x W hf hd hx hl
    have hx0:x.l=[]:=List.eq_nil_of_length_eq_zero (by omega)
    rw[undo_stop c i mark 0 σ x hx (.inl (by rw[hx0];rfl))]
    have e:popU mark (0+1) x.l W=(x.l,W):=by rw[hx0];rfl
    rw[e]
    exact⟨x,rfl,hf.more _ (by omega),(set_self hx).symm,rfl,rfl,Nat.le_refl _,rfl,hd,rfl,rfl,fun y hy=>hy⟩
  | succ m ih=>
    intro k σ x W hf hd hx hl
    cases hg:x.l.getLast? with
    | none=>
      rw[undo_stop c i mark (m+1) σ x hx (.inl hg)]
      have e:popU mark (m+1+1) x.l W=(x.l,W):=by rw[popU,hg]
      rw[e]
      exact⟨x,rfl,hf.more _ (by omega),(set_self hx).symm,rfl,rfl,Nat.le_refl _,rfl,hd,rfl,rfl,fun y hy=>hy⟩
    | some u=>
      by_cases hlt:u.lsn≤mark
      · rw[undo_stop c i mark (m+1) σ x hx (.inr ⟨u,hg,hlt⟩)]
        have e:popU mark (m+1+1) x.l W=(x.l,W):=by rw[popU,hg];simp only[];rw[if_pos hlt]
        rw[e]
        exact⟨x,rfl,hf.more _ (by omega),(set_self hx).symm,rfl,rfl,Nat.le_refl _,rfl,hd,rfl,rfl,fun y hy=>hy⟩
      · have hum:u∈x.l:=List.mem_of_getLast? hg
        obtain⟨u1,u2,u3,u4⟩:=(hf.tx_at hx).ups u hum
        have hxl:x.l=x.l.dropLast++[u]:=(drop_last hg).symm
        have hsz:(clrR x u).size=96+u.before.length:=by simp only[clrR,Rc.size,Rc.zero,List.length_nil];omega
        have hup:upsC x.l=upsC x.l.dropLast+(96+u.before.length):=by rw[←upsC_append,←hxl]
        have hrs:=hf.res_ge hx
        have hcs:=hf.cost
        have htp:=hf.top
        have hrm:=hf.room
        have hf1:=hf.setT (clrR x u) rfl rfl hx x.l.dropLast 0 σ.commits (by have:=hf.commits;omega) (by rw[List.length_dropLast];omega) (fun y hy=>.inl (List.dropLast_subset _ hy)) (by rw[hsz,hup];omega) (by omega)
        have hd1:StD c nf { σ with io:={ σ.io with R:=σ.io.R.app (clrR x u).enc },lines:=σ.lines++[(σ.io.R.tail+1,clrR x u)],opn:=σ.opn.set i { x with last:=σ.io.R.tail+1,l:=x.l.dropLast } } W:=hd.congr rfl rfl
        obtain⟨p1,p2⟩:=hd1.apply hc (clrR x u) u2 u1 (σ.io.R.tail+1) (by omega)
        rw[undo_step c i mark (m+1) σ x u hx hg hlt (by rw[hsz,hrm];simp only[txC]at hrs;omega) p1]
        have hs:SSame { σ with io:={ σ.io with R:=σ.io.R.app (clrR x u).enc },lines:=σ.lines++[(σ.io.R.tail+1,clrR x u)],opn:=σ.opn.set i { x with last:=σ.io.R.tail+1,l:=x.l.dropLast } } (undoS c σ i x u) 2:=by
          obtain⟨V,v1,v2⟩:=hd1
          obtain⟨_,ge,v3⟩:=v1.get hc u2
          have q1:=(St.get_ok { σ with io:={ σ.io with R:=σ.io.R.app (clrR x u).enc },lines:=σ.lines++[(σ.io.R.tail+1,clrR x u)],opn:=σ.opn.set i { x with last:=σ.io.R.tail+1,l:=x.l.dropLast } } c u.page u2).2
          have hlen:=v1.inv.len u.page u2
          have e1:(overB (V u.page) 0 (be8 (σ.io.R.tail+1))).length=512:=by rw[overB_length _ _ _ (Nat.zero_le _),hlen]
          unfold undoS
          rw[St.apply_eq _ c (clrR x u) _ u2]
          refine q1.trans (Go.Proofs.YtpajagkhmodbnaaGreat.St.put_ok (c:=c) (q:=u.page) (hq:=u2) (hb:=?_) (hl:=by omega) ..).2
          have e2:(St.get c _ (clrR x u).page).2.1=V u.page:=ge
          rw[e2,overB_length _ _ _ (by rw[e1];show 8+u.off≤512;omega),e1]
        have hf2:=hf1.same hs
        have hx2:(undoS c σ i x u).opn[i]? = some { x with last:=σ.io.R.tail+1,l:=x.l.dropLast }:=by
          rw[hs.opn];exact List.getElem?_set_self (List.getElem?_eq_some_iff.1 hx).1
        obtain⟨x',r1,r2,r3,r4,r5,r6,r7,r8,r9,r10,r11⟩:=ih (k+1+2) _ _ _ hf2 p2 hx2 (by show x.l.dropLast.length≤m;rw[List.length_dropLast];omega)
        have e:popU mark (m+1+1) x.l W=popU mark (m+1) x.l.dropLast (updV W u.page (overB (W u.page) u.off u.before)):=by rw[popU,hg];simp only[];rw[if_neg hlt]
        rw[e]
        refine⟨x',r1,r2.more _ (by omega),?_,r4,r5,?_,r7,r8,r9.trans hs.next,r10.trans hs.commits,fun y hy=>r11 y ?_⟩
        · rw[r3,hs.opn,List.set_set]
        · have:=(hf.tx_at hx).last
          have h6:σ.io.R.tail+1≤x'.last:=r6
          omega
        · rw[hs.lines];exact List.mem_append_left _ hy
end
end
section
open Go.RowKit
section
variable{W0 w w' w2:World}{A:Adr}{c:Cf}{σ:St}{S:Nat→Prop}{vl vo vo':Value}{EL:List Le}{EO:List Te}{K S1:Nat→Prop}{X:Nat→Prop}{k b:Nat}
theorem SvAt.rok(h:SvAt W0 w A c σ vl vo EL EO K S1):σ.io.R.ok c.n:=by
 obtain⟨S5,h1,_⟩:=h.sp.putRg
 exact h1.ok
theorem SvAt.hok(h:SvAt W0 w A c σ vl vo EL EO K S1):Hok A.nf σ.p:=⟨h.sp.1.ok.len,h.sp.1.ok.n1,h.sp.1.ok.hand⟩
theorem SvAt.ioJ(h:SvAt W0 w A c σ vl vo EL EO K S1):IoJ c σ.io:=by
 obtain⟨S2,h1,_⟩:=h.sp.1.putIo h.sp.io
 obtain⟨S3,h2,_⟩:=h1
 exact⟨h2.rg.good,h2.fit⟩
theorem SvAt.say(h:SvAt W0 w A c σ vl vo EL EO K S1)(hf:Fine c k b σ)(hk:k≤1000000):
  EO.length≤1000000∧EL.length≤100000∧resA EO≤1000000∧σ.io.R.tail≤1000000∧c.n≤8192∧c.pg≤8192∧TxB EO∧(∀e∈EO,TxP c.pg e.EU∧e.EU.length≤20000∧e.x.id≤1000001∧e.x.last≤1000000∧upsA e.EU+192≤resA EO∧e.x.l.length=e.EU.length):=by
 have h1:=h.olen
 have h2:=hf.opn
 have h3:=hf.lines
 have h4:=hf.cost
 have h5:=hf.top
 have h6:=h.rok.n3
 have h7:EL.length=σ.lines.length:=by rw[h.lis,List.length_map]
 have h8:=h.resv
 have hsm:=h.sp.2
 have hx:∀e∈EO,e.x∈σ.opn:=fun e he=>by rw[h.ois];exact List.mem_map.2 ⟨e,he,rfl⟩
 have hlen:∀e∈EO,e.x.l.length=e.EU.length:=fun e he=>by rw[(h.tx.at_ e he).ups,List.length_map]
 have hlb:∀e∈EO,e.EU.length≤20000:=fun e he=>by
  have:=(hf.tx _ (hx e he)).len
  rw[hlen e he]at this
  omega
 have hup:∀e∈EO,∀u∈e.EU,u.1∈e.x.l:=fun e he u hu=>by rw[(h.tx.at_ e he).ups];exact List.mem_map.2 ⟨u,hu,rfl⟩
 refine⟨by omega,by omega,by omega,by omega,h6,hsm,fun e he=>⟨Nat.le_trans (hlb e he) (by decide),fun u hu=>((hf.tx _ (hx e he)).ups _ (hup e he u hu)).1⟩,fun e he=>⟨fun u hu=>?_,hlb e he,?_,?_,?_,hlen e he⟩⟩
 ·obtain⟨a1,a2,a3,a4⟩:=(hf.tx _ (hx e he)).ups _ (hup e he u hu)
  have:=(hf.tx _ (hx e he)).last
  exact⟨a1,a2,by omega,by omega⟩
 ·have:=(hf.tx _ (hx e he)).id2
  have:=hf.next.2
  omega
 ·have:=(hf.tx _ (hx e he)).last
  omega
 ·obtain⟨i,hi⟩:=mem_at (hx e he)
  have:=hf.res_ge hi
  rw[h8]at this
  have e1:upsC e.x.l=upsA e.EU:=by
   unfold upsC upsA
   rw[(h.tx.at_ e he).ups,List.map_map];rfl
  simp only[txC,e1]at this
  omega
theorem begin_sv(h:SV W0 A c σ S w)(hf:Fine c k b σ)(hk:k≤1000000)(hb:b+288+2048≤(c.n-1)*118):
  Calls Tryz.prog 28 #[.pointer (some ⟨A.sb,0,none⟩)] w fun e w'=>∃S',e=.returned (.tuple #[.int .i64 (σ.next:Nat),.int .i64 0])∧SV W0 A c (σ.begin_ c).2.2 S' w'∧Foot S S' w w':=by
 obtain⟨vl,vo,EL,EO,K,S1,h1,rfl⟩:=h
 obtain⟨a1,a2,a3,a4,a5,a6,a7,a8⟩:=h1.say hf hk
 have hr:=hf.room
 have hcs:=hf.cost
 have hrv:=h1.resv
 exact begin_at h1 (by omega) (by omega) (fun e he u hu=>Nat.le_trans (Nat.le_trans (Nat.le_add_left _ _) ((a7 e he).2 u hu)) (by decide)) (by omega) (by omega) (by omega) (by have:=hf.next.2;omega)
theorem SvAt.eat(h:SvAt W0 w A c σ vl vo EL EO K S1){i:Nat}{x:Tx}(hx:σ.opn[i]? = some x):∃e,EO[i]? = some e∧e.x=x:=by
 rw[h.ois,List.getElem?_map]at hx
 cases he:EO[i]? with
 | none=>rw[he]at hx;cases hx
 | some e=>rw[he]at hx;exact⟨e,rfl,Option.some.inj hx⟩
theorem write_sv(h:SV W0 A c σ S w)(hf:Fine c k b σ)(hk:k≤1000000)(hwk:σ.p.wr≤1000000){i:Nat}{x:Tx}(hx:σ.opn[i]? = some x)(p off:Nat)(bs:List UInt8)(ab:Option Addr)(nb cb:Nat)(hv:Reads 1 w (.slice ab nb cb) nb (bs.map B))(hbn:bs.length=nb)(hpg:p<c.pg)(hoff:off+nb≤504)
  (hbusy:σ.busy (x.id:Int) p off nb=false) (harg:∀q,(Value.slice ab nb cb).ownBlock=some q→¬S q∧q<w.heap.size) (hb:b+(192+3*nb)+2048≤(c.n-1)*118):
  Calls Tryz.prog 31 #[.pointer (some ⟨A.sb,0,none⟩),.int .i64 (x.id:Nat),.int .i64 (p:Nat),.int .i64 (off:Nat),.slice ab nb cb] w fun er w'=>∃S',er=.returned (.int .i64 0)∧SV W0 A c (σ.write c i x p off bs).2 S' w'∧Foot S S' w w':=by
 obtain⟨vl,vo,EL,EO,K,S1,h1,rfl⟩:=h
 obtain⟨a1,a2,a3,a4,a5,a6,a7,a8⟩:=h1.say hf hk
 obtain⟨e,he,rfl⟩:=h1.eat hx
 obtain⟨b1,b2,b3,b4,b5,b6⟩:=a8 e (List.mem_of_getElem? he)
 have hr:=hf.room
 have hcs:=hf.cost
 have hrv:=h1.resv
 exact write_at h1 a1 (by omega) a7 i e (hf.of hx) he p off bs ab nb cb hv hbn hpg hoff hbusy harg (by omega) (by omega) (by omega) (by omega) (by omega) (by omega) (by omega)
theorem read_sv(h:SV W0 A c σ S w)(p off n:Nat)(hpg:p<c.pg)(hoff:off+n≤504)(hwk:σ.p.wr≤1000000):
  Calls Tryz.prog 38 #[.pointer (some ⟨A.sb,0,none⟩),.int .i64 (p:Nat),.int .i64 (off:Nat),.int .i64 (n:Nat)] w fun er w'=>∃v S',er=.returned (.tuple #[v,.int .i64 0])∧w'.ownsRow w.heap.size 5 1 v n ((σ.bytes c p off n).map B)∧(σ.bytes c p off n).length=n∧(∀q,v.ownBlock=some q→¬S' q)∧
   SV W0 A c (σ.get c p).2.2 S' w'∧Foot S S' w w':=by
 obtain⟨vl,vo,EL,EO,K,S1,h1,rfl⟩:=h
 have:=h1.sp.2
 exact sread_at h1 p off n hpg hoff (by omega) (by omega)
theorem rollback_sv(h:SV W0 A c σ S w)(hf:Fine c k b σ)(hk:k≤1000000)(hwk:σ.p.wr≤1000000){i:Nat}{x:Tx}(hx:σ.opn[i]? = some x):
  Calls Tryz.prog 30 #[.pointer (some ⟨A.sb,0,none⟩),.int .i64 (x.id:Nat)] w fun er w'=>∃S',er=.returned (.int .i64 0)∧SV W0 A c (σ.rollback c i x).2 S' w'∧Foot S S' w w':=by
 obtain⟨vl,vo,EL,EO,K,S1,h1,rfl⟩:=h
 obtain⟨a1,a2,a3,a4,a5,a6,a7,a8⟩:=h1.say hf hk
 obtain⟨e,he,rfl⟩:=h1.eat hx
 obtain⟨b1,b2,b3,b4,b5,b6⟩:=a8 e (List.mem_of_getElem? he)
 have hr:=hf.room
 have hcs:=hf.cost
 have htp:=hf.top
 have hrv:=h1.resv
 exact rollback_at h1 a1 i e (hf.of hx) he b1 (by omega) (by omega) (by omega) (by omega) (by omega) (by omega) (by omega) (by omega)
theorem commit_sv(h:SV W0 A c σ S w)(hf:Fine c k b σ)(hk:k≤1000000){i:Nat}{x:Tx}(hx:σ.opn[i]? = some x):
  Calls Tryz.prog 29 #[.pointer (some ⟨A.sb,0,none⟩),.int .i64 (x.id:Nat)] w fun er w'=>∃S',er=.returned (.int .i64 0)∧SV W0 A c (St.commit c σ i x).2 S' w'∧Foot S S' w w':=by
 obtain⟨vl,vo,EL,EO,K,S1,h1,rfl⟩:=h
 obtain⟨a1,a2,a3,a4,a5,a6,a7,a8⟩:=h1.say hf hk
 obtain⟨e,he,rfl⟩:=h1.eat hx
 obtain⟨b1,b2,b3,b4,b5,b6⟩:=a8 e (List.mem_of_getElem? he)
 have hr:=hf.room
 have hcs:=hf.cost
 have htp:=hf.top
 have hrv:=h1.resv
 exact commit_at h1 a1 i e (hf.of hx) he (by omega) (by omega) (by omega) (by omega) (by omega) (by have:=hf.commits;omega)
end
end
section
open Go.RowKit
structure Sto(W0:World)(A:Adr)(c:Cf)(k b:Nat)(σ:St)(W:Nat→List UInt8)(S:Nat→Prop)(w:World):Prop where
  sv:SV W0 A c σ S w
  fine:Fine c k b σ
  std:StD c A.nf σ W
  ok:c.ok
structure Like(σ σ':St):Prop where
  opn:σ'.opn=σ.opn
  next:σ'.next=σ.next
  lines:σ'.lines=σ.lines
  tail:σ'.io.R.tail=σ.io.R.tail
theorem Like.refl(σ:St):Like σ σ:=⟨rfl,rfl,rfl,rfl⟩
theorem Like.trans{a b c:St}(h:Like a b)(g:Like b c):Like a c:=⟨g.opn.trans h.opn,g.next.trans h.next,g.lines.trans h.lines,g.tail.trans h.tail⟩
section
variable{W0 w w' w2:World}{A:Adr}{c:Cf}{σ:St}{S X:Nat→Prop}{k b:Nat}{W:Nat→List UInt8}
theorem Sto.grow(h:Sto W0 A c k b σ W S w)(hg:GrowX X w w')(hX:Disj S X)(hB:Below W0.heap.size W0 w'):Sto W0 A c k b σ W S w':=⟨h.sv.grow hg hX hB,h.fine,h.std,h.ok⟩
theorem Sto.below(h:Sto W0 A c k b σ W S w)(hb:Below w.heap.size w w'):Sto W0 A c k b σ W S w':=⟨h.sv.below hb,h.fine,h.std,h.ok⟩
theorem Sto.more(h:Sto W0 A c k b σ W S w)(k':Nat)(hk:k≤k'):Sto W0 A c k' b σ W S w:=⟨h.sv,h.fine.more k' hk,h.std,h.ok⟩
theorem Sto.le(h:Sto W0 A c k b σ W S w){k' b':Nat}(hk:k≤k')(hb:b≤b')(ht:b'+2048≤(c.n-1)*118):Sto W0 A c k' b' σ W S w:=⟨h.sv,h.fine.le hk hb ht,h.std,h.ok⟩
theorem Sto.lt(h:Sto W0 A c k b σ W S w):∀q,S q→W0.heap.size≤q∧q<w.heap.size:=h.sv.lt
theorem Sto.bel(h:Sto W0 A c k b σ W S w):Below W0.heap.size W0 w:=h.sv.bel
theorem pages_st(h:Sto W0 A c k b σ W S w):Calls Tryz.prog 22 #[.pointer (some ⟨A.sb,0,none⟩)] w fun e w'=>e=.returned (.int .i64 (c.pg:Nat))∧w'=w:=by
  obtain⟨vl,vo,EL,EO,K,S1,h1,rfl⟩:=h.sv
  exact(spages_at h1).mono fun e w' hh=>hh
theorem begin_st(h:Sto W0 A c k b σ W S w)(hk:k≤900000)(hb:b+288+2048≤(c.n-1)*118):
    Calls Tryz.prog 28 #[.pointer (some ⟨A.sb,0,none⟩)] w fun e w'=>∃σ' S',e=.returned (.tuple #[.int .i64 (σ.next:Nat),.int .i64 0])∧Sto W0 A c (k+1) (b+288) σ' W S' w'∧Foot S S' w w'∧
      σ'.opn=σ.opn++[⟨σ.next,σ.io.R.tail+1,σ.io.R.tail+1,[]⟩]∧σ'.next=σ.next+1∧σ'.lines=σ.lines++[(σ.io.R.tail+1,{ Rc.zero with kind:=1,txn:=σ.next })]∧σ'.io.R.tail=σ.io.R.tail+96:=by
  have hr:=h.fine.room
  have hcs:=h.fine.cost
  have e1:=begin_eq σ c (by omega)
  refine(begin_sv h.sv h.fine (by omega) hb).mono ?_
  rintro e w' ⟨S',rfl,h2,h3⟩
  refine⟨_,S',rfl,⟨h2,h.fine.begin hb,?_,h.ok⟩,h3,?_,?_,?_,?_⟩
  · rw[e1];exact h.std.congr rfl rfl
  · rw[e1]
  · rw[e1]
  · rw[e1]
  · rw[e1]
    show(σ.io.R.app _).tail=_
    rw[app_tail,enc_len _ rfl rfl];rfl
theorem read_st(h:Sto W0 A c k b σ W S w)(p off n:Nat)(hpg:p<c.pg)(hoff:off+n≤504)(hk:k≤900000):
    Calls Tryz.prog 38 #[.pointer (some ⟨A.sb,0,none⟩),.int .i64 (p:Nat),.int .i64 (off:Nat),.int .i64 (n:Nat)] w fun er w'=>∃v σ' S',er=.returned (.tuple #[v,.int .i64 0])∧w'.ownsRow w.heap.size 5 1 v n ((((W p).drop off).take n).map B)∧(((W p).drop off).take n).length=n∧(∀q,v.ownBlock=some q→¬S' q)∧
      Sto W0 A c (k+1) b σ' W S' w'∧Foot S S' w w'∧Like σ σ':=by
  have hwr:=h.fine.wr
  obtain⟨r1,r2,r3,r4,r5,r6,r7⟩:=h.fine.read h.ok h.std hpg off n
  refine(read_sv h.sv p off n hpg hoff (by omega)).mono ?_
  rintro e w' ⟨v,S',rfl,h1,h2,h3,h4,h5⟩
  rw[r1]at h1 h2
  exact⟨v,_,S',rfl,h1,h2,h3,⟨h4,r3,r2,h.ok⟩,h5,⟨r4,r6,r5,r7⟩⟩
theorem write_st(h:Sto W0 A c k b σ W S w)(hk:k≤900000){i:Nat}{x:Tx}(hx:σ.opn[i]? = some x)(p off:Nat)(bs:List UInt8)(ab:Option Addr)(nb cb:Nat)(hv:Reads 1 w (.slice ab nb cb) nb (bs.map B))(hbn:bs.length=nb)(hpg:p<c.pg)(hoff:off+nb≤504)
    (hbusy:σ.busy (x.id:Int) p off nb=false) (harg:∀q,(Value.slice ab nb cb).ownBlock=some q→¬S q∧q<w.heap.size) (hb:b+(192+3*nb)+2048≤(c.n-1)*118):
    Calls Tryz.prog 31 #[.pointer (some ⟨A.sb,0,none⟩),.int .i64 (x.id:Nat),.int .i64 (p:Nat),.int .i64 (off:Nat),.slice ab nb cb] w fun er w'=>∃σ' S',er=.returned (.int .i64 0)∧Sto W0 A c (k+3) (b+(192+3*nb)) σ' (updV W p (overB (W p) off bs)) S' w'∧Foot S S' w w'∧σ'.next=σ.next∧
      ((((W p).drop off).take nb=bs∧σ'.opn=σ.opn∧σ'.lines=σ.lines∧σ'.io.R.tail=σ.io.R.tail)∨
       (((W p).drop off).take nb≠bs∧σ'.opn=σ.opn.set i { x with last:=σ.io.R.tail+1,l:=x.l++[⟨σ.io.R.tail+1,x.last,p,off,((W p).drop off).take nb⟩] }∧σ'.lines=σ.lines++[(σ.io.R.tail+1,wrRc x.id x.last p off (((W p).drop off).take nb) bs)]∧σ'.io.R.tail=σ.io.R.tail+(96+2*nb))):=by
  have hwr:=h.fine.wr
  obtain⟨a1,a2,a3,a4,a5⟩:=h.fine.write h.ok h.std hx p off bs hpg (by omega) (by rw[hbn];exact hb)
  rw[hbn]at a2 a4
  refine(write_sv h.sv h.fine (by omega) (by omega) hx p off bs ab nb cb hv hbn hpg hoff hbusy harg hb).mono ?_
  rintro e w' ⟨S',rfl,h2,h3⟩
  exact⟨_,S',rfl,⟨h2,a2,a3,h.ok⟩,h3,a5,a4⟩
theorem busy_st(h:Sto W0 A c k b σ W S w)(hk:k≤900000){i:Nat}{x:Tx}(hx:σ.opn[i]? = some x)(p off:Nat)(ab:Option Addr)(nb cb:Nat)(hpg:p<c.pg)(hoff:off+nb≤504)(hbusy:σ.busy (x.id:Int) p off nb=true):
    Calls Tryz.prog 31 #[.pointer (some ⟨A.sb,0,none⟩),.int .i64 (x.id:Nat),.int .i64 (p:Nat),.int .i64 (off:Nat),.slice ab nb cb] w fun er w'=>er=.returned (.int .i64 62)∧Sto W0 A c k b σ W S w'∧Below w.heap.size w w':=by
  obtain⟨vl,vo,EL,EO,K,S1,h1,rfl⟩:=h.sv
  obtain⟨a1,a2,a3,a4,a5,a6,a7,a8⟩:=h1.say h.fine (by omega)
  obtain⟨e,he,rfl⟩:=h1.eat hx
  refine(write_busy h1 a1 a7 i e (h.fine.of hx) he p off ab nb cb hpg hoff hbusy).mono ?_
  rintro er w' ⟨rfl,hb⟩
  exact⟨rfl,h.below hb,hb⟩
theorem none_st(h:Sto W0 A c k b σ W S w)(hk:k≤900000)(t p off:Int)(v:Value)(hof:σ.of t=none):
    Calls Tryz.prog 31 #[.pointer (some ⟨A.sb,0,none⟩),.int .i64 t,.int .i64 p,.int .i64 off,v] w fun er w'=>er=.returned (.int .i64 61)∧w'=w:=by
  obtain⟨vl,vo,EL,EO,K,S1,h1,rfl⟩:=h.sv
  obtain⟨a1,_⟩:=h1.say h.fine (by omega)
  exact write_none h1 a1 t p off v hof
end
end
end Go.Proofs.YtpajagkhmodbnaaGreat

/- Pk: texts of the store seat laid together by program: SlPlain SlLink SlSto. Conditions: each theorem names its own. -/
import Derived.Test.YtpajagkhmodbnaaGreatPk36
import Derived.Test.YtpajagkhmodbnaaGreatPk37
import Derived.Test.YtpajagkhmodbnaaGreatPk30
namespace Go.Proofs.YtpajagkhmodbnaaGreat
set_option linter.unusedSimpArgs false
set_option linter.unusedVariables false
section
open Go.RowKit
def lastOf(L:List (Nat×Rc))(t:Nat):Nat:=L.foldl (fun a y=>if y.2.txn=t then y.1 else a) 0
theorem lastOf_snoc(L:List (Nat×Rc))(y:Nat×Rc)(t:Nat):lastOf (L++[y]) t=if y.2.txn=t then y.1 else lastOf L t:=by unfold lastOf;rw[List.foldl_append];rfl
theorem lastOf_none(L:List (Nat×Rc))(t:Nat)(h:∀y∈L,y.2.txn≠t):lastOf L t=0:=by
 have key:∀(L:List (Nat×Rc))(a:Nat),(∀y∈L,y.2.txn≠t)→L.foldl (fun a y=>if y.2.txn=t then y.1 else a) a=a:=by
  intro L
  induction L with
  | nil=>intro a _;rfl
  | cons y r ih=>intro a h;rw[List.foldl_cons,if_neg (h y (by simp))];exact ih a (fun z hz=>h z (by simp[hz]))
 exact key L 0 h
inductive Lk:List (Nat×Rc)→Nat→Prop where
 | nil:Lk [] 1
 | snoc (L:List (Nat×Rc)) (T:Nat) (r:Rc) (h:Lk L T) (hp:r.prev=lastOf L r.txn) (ht:r.txns=[]∧r.dirty=[]):Lk (L++[(T,r)]) (T+r.size)
theorem Lk.at{L:List (Nat×Rc)}{T:Nat}(h:Lk L T):(∀(i:Nat)(y z:Nat×Rc),L[i]? = some y→L[i+1]? = some z→z.1=y.1+y.2.size)∧(∀(i:Nat)(z:Nat×Rc),L[i]? = some z→z.2.prev=lastOf (L.take i) z.2.txn∧z.2.txns=[]∧z.2.dirty=[])∧(∀y,L.getLast? = some y→T=y.1+y.2.size):=by
 induction h with
 | nil=>exact⟨fun i y z h=>by simp at h,fun i z h=>by simp at h,fun y h=>by simp at h⟩
 | snoc L T r h hp ht ih=>
  obtain⟨i1,i2,i3⟩:=ih
  refine⟨fun i y z hy hz=>?_,fun i z hz=>?_,fun y hy=>?_⟩
  ·by_cases hl:i+1<L.length
   ·rw[List.getElem?_append_left (by omega)]at hy
    rw[List.getElem?_append_left hl]at hz
    exact i1 i y z hy hz
   ·have hi:=(List.getElem?_eq_some_iff.1 hz).1
    rw[List.length_append,List.length_singleton]at hi
    have e:i+1=L.length:=by omega
    rw[e,List.getElem?_concat_length]at hz
    obtain rfl:=Option.some.inj hz
    rw[List.getElem?_append_left (by omega)]at hy
    refine i3 y ?_
    rw[List.getLast?_eq_getElem?,←hy]
    congr 1
    omega
  ·by_cases hl:i<L.length
   ·rw[List.getElem?_append_left hl]at hz
    rw[List.take_append_of_le_length (by omega)]
    exact i2 i z hz
   ·have hi:=(List.getElem?_eq_some_iff.1 hz).1
    rw[List.length_append,List.length_singleton]at hi
    have e:i=L.length:=by omega
    subst e
    rw[List.getElem?_concat_length]at hz
    obtain rfl:=Option.some.inj hz
    rw[List.take_left]
    exact⟨hp,ht⟩
  ·rw[List.getLast?_concat]at hy
   obtain rfl:=Option.some.inj hy
   rfl
structure LkS(σ:St):Prop where
 lk:Lk σ.lines (σ.io.R.tail+1)
 last:∀x∈σ.opn,lastOf σ.lines x.id=x.last
 old:∀y∈σ.lines,y.2.txn<σ.next
 nd:(σ.opn.map (·.id)).Nodup
 lt:∀x∈σ.opn,x.id<σ.next
section
variable{σ σ':St}{c:Cf}{k b i:Nat}{x:Tx}
theorem LkS.like(h:LkS σ)(h1:σ'.opn=σ.opn)(h2:σ'.lines=σ.lines)(h3:σ'.io.R.tail=σ.io.R.tail)(h4:σ'.next=σ.next):LkS σ':=
 ⟨by rw[h2,h3];exact h.lk,by rw[h1,h2];exact h.last,by rw[h2,h4];exact h.old,by rw[h1];exact h.nd,by rw[h1,h4];exact h.lt⟩
theorem LkS.begin(h:LkS σ)(h1:σ'.opn=σ.opn++[⟨σ.next,σ.io.R.tail+1,σ.io.R.tail+1,[]⟩])(h2:σ'.next=σ.next+1)(h3:σ'.lines=σ.lines++[(σ.io.R.tail+1,{ Rc.zero with kind:=1,txn:=σ.next })])(h4:σ'.io.R.tail=σ.io.R.tail+96):LkS σ':=by
 have hn:lastOf σ.lines σ.next=0:=lastOf_none _ _ (fun y hy e=>by have:=h.old y hy;omega)
 refine⟨?_,fun x hx=>?_,fun y hy=>?_,?_,fun x hx=>?_⟩
 ·rw[h3,h4]
  have:=h.lk.snoc _ _ { Rc.zero with kind:=1,txn:=σ.next } hn.symm ⟨rfl,rfl⟩
  rw[show σ.io.R.tail+96+1=σ.io.R.tail+1+Rc.size { Rc.zero with kind:=1,txn:=σ.next } by show _=_+96;omega]
  exact this
 ·rw[h1]at hx
  rw[h3,lastOf_snoc]
  rcases List.mem_append.1 hx with hx|hx
  ·rw[if_neg (by show ¬σ.next=x.id;have:=h.lt x hx;omega)]
   exact h.last x hx
  ·rw[List.mem_singleton.1 hx,if_pos rfl]
 ·rw[h3]at hy
  rw[h2]
  rcases List.mem_append.1 hy with hy|hy
  ·have:=h.old y hy;omega
  ·rw[List.mem_singleton.1 hy];show σ.next<_;omega
 ·rw[h1,List.map_append,List.nodup_append]
  refine⟨h.nd,by simp,fun a ha b hb=>?_⟩
  obtain⟨x,hx,rfl⟩:=List.mem_map.1 ha
  simp at hb
  subst hb
  have:=h.lt x hx
  omega
 ·rw[h1]at hx
  rw[h2]
  rcases List.mem_append.1 hx with hx|hx
  ·have:=h.lt x hx;omega
  ·rw[List.mem_singleton.1 hx];show σ.next<_;omega
theorem nd_other{L:List Tx}{x y:Tx}(hn:(L.map (·.id)).Nodup)(hx:L[i]? = some x){j:Nat}(hy:L[j]? = some y)(hij:¬i=j):¬x.id=y.id:=by
 obtain⟨h1,e1⟩:=List.getElem?_eq_some_iff.1 hx
 obtain⟨h2,e2⟩:=List.getElem?_eq_some_iff.1 hy
 have hp:=List.pairwise_iff_getElem.1 (List.nodup_iff_pairwise_ne.1 hn)
 rcases Nat.lt_or_gt_of_ne hij with h|h
 ·have:=hp i j (by rw[List.length_map];exact h1) (by rw[List.length_map];exact h2) h
  simpa[e1,e2]using this
 ·have:=hp j i (by rw[List.length_map];exact h2) (by rw[List.length_map];exact h1) h
  simp only[List.getElem_map,e1,e2]at this
  exact fun e=>this e.symm
theorem LkS.lay(h:LkS σ)(hx:σ.opn[i]? = some x)(r:Rc)(hr:r.txn=x.id)(hp:r.prev=x.last)(ht:r.txns=[]∧r.dirty=[])(x':Tx)(hx':x'.id=x.id)(hl:x'.last=σ.io.R.tail+1)
  (h1:σ'.opn=σ.opn.set i x') (h2:σ'.next=σ.next) (h3:σ'.lines=σ.lines++[(σ.io.R.tail+1,r)]) (h4:σ'.io.R.tail=σ.io.R.tail+r.size):LkS σ':=by
 have hm:=List.mem_of_getElem? hx
 refine⟨?_,fun y hy=>?_,fun y hy=>?_,?_,fun y hy=>?_⟩
 ·rw[h3,h4,show σ.io.R.tail+r.size+1=σ.io.R.tail+1+r.size by omega]
  exact h.lk.snoc _ _ r (by rw[hr,hp];exact(h.last x hm).symm) ht
 ·rw[h1]at hy
  rw[h3,lastOf_snoc]
  show(if r.txn=y.id then _ else _)=_
  obtain⟨j,hj⟩:=List.mem_iff_getElem?.1 hy
  rw[List.getElem?_set]at hj
  split at hj
  ·split at hj
   ·obtain rfl:=Option.some.inj hj
    rw[if_pos (by rw[hr,hx'])]
    exact hl.symm
   ·cases hj
  ·next hij=>
   rw[if_neg (by rw[hr];exact nd_other h.nd hx hj hij)]
   exact h.last y (List.mem_of_getElem? hj)
 ·rw[h3]at hy
  rw[h2]
  rcases List.mem_append.1 hy with hy|hy
  ·exact h.old y hy
  ·rw[List.mem_singleton.1 hy];show r.txn<_;rw[hr];exact h.lt x hm
 ·rw[h1,nd_set hx hx'];exact h.nd
 ·rw[h1]at hy
  rw[h2]
  rcases List.mem_or_eq_of_mem_set hy with hy|rfl
  ·exact h.lt y hy
  ·rw[hx'];exact h.lt x hm
theorem LkS.end_(h:LkS σ)(hx:σ.opn[i]? = some x)(h1:σ'.opn=σ.opn.eraseIdx i)(h2:σ'.next=σ.next)(h3:σ'.lines=σ.lines++[(σ.io.R.tail+1,{ Rc.zero with kind:=6,txn:=x.id,prev:=x.last })])(h4:σ'.io.R.tail=σ.io.R.tail+96):LkS σ':=by
 have hm:=List.mem_of_getElem? hx
 refine⟨?_,fun y hy=>?_,fun y hy=>?_,?_,fun y hy=>?_⟩
 ·rw[h3,h4]
  have:=h.lk.snoc _ _ { Rc.zero with kind:=6,txn:=x.id,prev:=x.last } (h.last x hm).symm ⟨rfl,rfl⟩
  rw[show σ.io.R.tail+96+1=σ.io.R.tail+1+Rc.size { Rc.zero with kind:=6,txn:=x.id,prev:=x.last } by show _=_+96;omega]
  exact this
 ·rw[h1]at hy
  rw[h3,lastOf_snoc]
  show(if x.id=y.id then _ else _)=_
  rw[List.eraseIdx_eq_take_drop_succ]at hy
  have hne:¬x.id=y.id:=by
   rcases List.mem_append.1 hy with hy|hy
   ·obtain⟨j,hj⟩:=List.mem_iff_getElem?.1 hy
    rw[List.getElem?_take]at hj
    split at hj
    ·exact nd_other h.nd hx hj (by omega)
    ·cases hj
   ·obtain⟨j,hj⟩:=List.mem_iff_getElem?.1 hy
    rw[List.getElem?_drop]at hj
    exact nd_other h.nd hx hj (by omega)
  rw[if_neg hne]
  refine h.last y ?_
  rcases List.mem_append.1 hy with hy|hy
  ·exact List.mem_of_mem_take hy
  ·exact List.mem_of_mem_drop hy
 ·rw[h3]at hy
  rw[h2]
  rcases List.mem_append.1 hy with hy|hy
  ·exact h.old y hy
  ·rw[List.mem_singleton.1 hy];exact h.lt x hm
 ·rw[h1,map_erase];exact List.Nodup.sublist (List.eraseIdx_sublist _ _) h.nd
 ·rw[h1]at hy
  rw[h2]
  exact h.lt y (List.mem_of_mem_eraseIdx hy)
end
section
variable{c:Cf}{nf k b:Nat}{σ σ':St}{W:Nat→List UInt8}
theorem LkS.same{j:Nat}(h:LkS σ)(hs:SSame σ σ' j):LkS σ':=h.like hs.opn hs.lines hs.R.tail hs.next
theorem undo_lk(hc:c.ok)(i mark:Nat):∀(m k:Nat)(σ:St)(x:Tx)(W:Nat→List UInt8),Fine c k b σ→StD c nf σ W→σ.opn[i]? = some x→x.l.length≤m→LkS σ→LkS (St.undo c i mark (m+1) σ).2:=by
 intro m
 induction m with
 | zero=>
  intro k σ x W hf hd hx hl hk
  have hx0:x.l=[]:=List.eq_nil_of_length_eq_zero (by omega)
  rw[undo_stop c i mark 0 σ x hx (.inl (by rw[hx0];rfl))]
  exact hk
 | succ m ih=>
  intro k σ x W hf hd hx hl hk
  cases hg:x.l.getLast? with
  | none=>rw[undo_stop c i mark (m+1) σ x hx (.inl hg)];exact hk
  | some u=>
   by_cases hlt:u.lsn≤mark
   ·rw[undo_stop c i mark (m+1) σ x hx (.inr ⟨u,hg,hlt⟩)];exact hk
   ·have hum:u∈x.l:=List.mem_of_getLast? hg
    obtain⟨u1,u2,u3,u4⟩:=(hf.tx_at hx).ups u hum
    have hxl:x.l=x.l.dropLast++[u]:=(drop_last hg).symm
    have hsz:(clrR x u).size=96+u.before.length:=by simp only[clrR,Rc.size,Rc.zero,List.length_nil];omega
    have hup:upsC x.l=upsC x.l.dropLast+(96+u.before.length):=by rw[←upsC_append,←hxl]
    have hrs:=hf.res_ge hx
    have hcs:=hf.cost
    have htp:=hf.top
    have hrm:=hf.room
    have hf1:=hf.setT (clrR x u) rfl rfl hx x.l.dropLast 0 σ.commits (by have:=hf.commits;omega) (by rw[List.length_dropLast];omega) (fun y hy=>.inl (List.dropLast_subset _ hy)) (by rw[hsz,hup];omega) (by omega)
    have hd1:StD c nf { σ with io:={ σ.io with R:=σ.io.R.app (clrR x u).enc },lines:=σ.lines++[(σ.io.R.tail+1,clrR x u)],opn:=σ.opn.set i { x with last:=σ.io.R.tail+1,l:=x.l.dropLast } } W:=hd.congr rfl rfl
    have hk1:LkS { σ with io:={ σ.io with R:=σ.io.R.app (clrR x u).enc },lines:=σ.lines++[(σ.io.R.tail+1,clrR x u)],opn:=σ.opn.set i { x with last:=σ.io.R.tail+1,l:=x.l.dropLast } }:=
     hk.lay hx (clrR x u) rfl rfl ⟨rfl,rfl⟩ { x with last:=σ.io.R.tail+1,l:=x.l.dropLast } rfl rfl rfl rfl rfl (by show(σ.io.R.app _).tail=_;rw[app_tail,enc_len _ rfl rfl])
    obtain⟨p1,p2⟩:=hd1.apply hc (clrR x u) u2 u1 (σ.io.R.tail+1) (by omega)
    rw[undo_step c i mark (m+1) σ x u hx hg hlt (by rw[hsz,hrm];simp only[txC]at hrs;omega) p1]
    have hs:SSame { σ with io:={ σ.io with R:=σ.io.R.app (clrR x u).enc },lines:=σ.lines++[(σ.io.R.tail+1,clrR x u)],opn:=σ.opn.set i { x with last:=σ.io.R.tail+1,l:=x.l.dropLast } } (undoS c σ i x u) 2:=by
     obtain⟨V,v1,v2⟩:=hd1
     obtain⟨_,ge,v3⟩:=v1.get hc u2
     have q1:=(St.get_ok { σ with io:={ σ.io with R:=σ.io.R.app (clrR x u).enc },lines:=σ.lines++[(σ.io.R.tail+1,clrR x u)],opn:=σ.opn.set i { x with last:=σ.io.R.tail+1,l:=x.l.dropLast } } c u.page u2).2
     have hlen:=v1.inv.len u.page u2
     have e1:(overB (V u.page) 0 (be8 (σ.io.R.tail+1))).length=512:=by rw[overB_length _ _ _ (Nat.zero_le _),hlen]
     unfold undoS
     rw[St.apply_eq _ c (clrR x u) _ u2]
     refine q1.trans (Go.Proofs.YtpajagkhmodbnaaGreat.St.put_ok (c:=c) (q:=u.page) (hq:=u2) (hb:=?_) (hl:=by omega) ..).2
     have e2:(St.get c _ (clrR x u).page).2.1=V u.page:=ge
     rw[e2,overB_length _ _ _ (by rw[e1];show 8+u.off≤512;omega),e1]
    have hx2:(undoS c σ i x u).opn[i]? = some { x with last:=σ.io.R.tail+1,l:=x.l.dropLast }:=by
     rw[hs.opn];exact List.getElem?_set_self (List.getElem?_eq_some_iff.1 hx).1
    exact ih (k+1+2) _ _ _ (hf1.same hs) p2 hx2 (by show x.l.dropLast.length≤m;rw[List.length_dropLast];omega) (hk1.same hs)
theorem step_lk(hf:Fine c k b σ)(h:StD c nf σ W){i:Nat}{x:Tx}(hx:σ.opn[i]? = some x)(kd:Nat)(hb:b+96+2048≤(c.n-1)*118)(hk:LkS σ):LkS (σ.step c i x { Rc.zero with kind:=kd }).2:=by
 obtain⟨a1,a2,a3,a4,a5,a6,a7⟩:=step_fine hf h hx kd hb
 generalize (σ.step c i x { Rc.zero with kind:=kd }).2=s2 at *
 exact hk.lay hx { Rc.zero with kind:=kd,txn:=x.id,prev:=x.last } rfl rfl ⟨rfl,rfl⟩ { x with last:=σ.io.R.tail+1 } rfl rfl a4 a5 a6 a7
theorem rollback_lk(hc:c.ok)(hf:Fine c k b σ)(h:StD c nf σ W){i:Nat}{x:Tx}(hx:σ.opn[i]? = some x)(hb:b+96+2048≤(c.n-1)*118)(hk:LkS σ):LkS (σ.rollback c i x).2:=by
 obtain⟨a1,a2,a3,a4,a5,_,_⟩:=step_fine hf h hx 5 hb
 have k1:=step_lk hf h hx 5 hb hk
 have hi:=(List.getElem?_eq_some_iff.1 hx).1
 obtain⟨s,hs⟩:∃s,σ.step c i x { Rc.zero with kind:=5 }=(0,s):=⟨_,Prod.ext a1 rfl⟩
 rw[hs]at a2 a3 a4 a5 k1
 simp only at a2 a3 a4 a5 k1
 have hx2:s.opn[i]? = some { x with last:=σ.io.R.tail+1 }:=by rw[a4];exact List.getElem?_set_self hi
 obtain⟨x',r1,r2,r3,r4,r5,r6,r7,r8,r9,r10,r11⟩:=undo_fine hc i 0 x.l.length (k+1) s _ W a2 a3 hx2 (Nat.le_refl _)
 have k2:=undo_lk hc i 0 x.l.length (k+1) s _ W a2 a3 hx2 (Nat.le_refl _) k1
 obtain⟨s2,hs2⟩:∃s2,St.undo c i 0 (x.l.length+1) s=(0,s2):=⟨_,Prod.ext r1 rfl⟩
 rw[hs2]at r2 r3 r8 r9 k2
 simp only at r2 r3 r8 r9 k2
 have hx3:s2.opn[i]? = some x':=by
  rw[r3];exact List.getElem?_set_self (by rw[a4,List.length_set];exact hi)
 obtain⟨e1,e2,e3,e4,e5,e6,e7⟩:=end_fine r2 r8 hx3
 have e:σ.rollback c i x=s2.end_ c i x':=by
  unfold St.rollback
  rw[hs]
  simp only[ne_eq,not_true_eq_false,if_false]
  rw[hs2]
  simp only[ne_eq,not_true_eq_false,if_false]
  rw[hx3]
 rw[e]
 exact k2.end_ hx3 e4 e5 e6 e7
theorem commit_lk(hc:c.ok)(hf:Fine c k b σ)(h:StD c nf σ W){i:Nat}{x:Tx}(hx:σ.opn[i]? = some x)(hb:b+96+2048≤(c.n-1)*118)(hk:LkS σ):LkS (St.commit c σ i x).2:=by
 obtain⟨a1,a2,a3,a4,a5,a6,a7⟩:=step_fine hf h hx 4 hb
 have k1:=step_lk hf h hx 4 hb hk
 have hi:=(List.getElem?_eq_some_iff.1 hx).1
 obtain⟨s,hs⟩:∃s,(σ.step c i x { Rc.zero with kind:=4 }).2=s:=⟨_,rfl⟩
 rw[hs]at a2 a3 a4 a5 k1
 have hx2:s.opn[i]? = some { x with last:=σ.io.R.tail+1 }:=by rw[a4];exact List.getElem?_set_self hi
 have hsame:=flush_same c.n s.io.R s.io.D
 have ht:=hsame.tail
 have k2:LkS ({ s with commits:=s.commits+1,io:={ D:=(s.io.R.flush c.n s.io.D).2,R:=(s.io.R.flush c.n s.io.D).1 } }:St):=k1.like rfl rfl ht rfl
 have hr:=a2.room
 have hcs:=a2.cost
 have htp:=a2.top
 have hrs:=a2.res_ge hx2
 have e0:=St.end_eq ({ s with commits:=s.commits+1,io:={ D:=(s.io.R.flush c.n s.io.D).2,R:=(s.io.R.flush c.n s.io.D).1 } }:St) c i { x with last:=σ.io.R.tail+1 } (by
  show 96≤(s.io.R.flush c.n s.io.D).1.room c.n
  unfold Rg.room at hr⊢
  rw[ht,hsame.2.2]
  simp only[txC]at hrs
  omega)
 have e:St.commit c σ i x=St.end_ c ({ s with commits:=s.commits+1,io:={ D:=(s.io.R.flush c.n s.io.D).2,R:=(s.io.R.flush c.n s.io.D).1 } }:St) i { x with last:=σ.io.R.tail+1 }:=by
  unfold St.commit
  simp only[]
  rw[if_neg (by rw[a1];simp),hs]
  rw[hx2]
 rw[e,e0]
 refine k2.end_ hx2 rfl rfl rfl ?_
 show(Rg.app _ _).tail=_
 rw[app_tail,enc_len _ rfl rfl]
 rfl
end
section
variable{W0 w w' w2:World}{A:Adr}{c:Cf}{σ:St}{S X:Nat→Prop}{k b:Nat}{W:Nat→List UInt8}
theorem rollback_sl(h:Sto W0 A c k b σ W S w)(hl:LkS σ)(hk:k≤900000){i:Nat}{x:Tx}(hx:σ.opn[i]? = some x)(hb:b+96+2048≤(c.n-1)*118):
  Calls Tryz.prog 30 #[.pointer (some ⟨A.sb,0,none⟩),.int .i64 (x.id:Nat)] w fun er w'=>∃σ' S' W',er=.returned (.int .i64 0)∧Sto W0 A c (k+3*x.l.length+2) (b+96) σ' W' S' w'∧Foot S S' w w'∧σ'.opn=σ.opn.eraseIdx i∧LkS σ':=by
 obtain⟨r1,r2,r3,r4⟩:=rollback_fine h.ok h.fine h.std hx hb
 refine(rollback_sv h.sv h.fine (by omega) (by have:=h.fine.wr;omega) hx).mono ?_
 rintro er w' ⟨S',rfl,g1,g2⟩
 exact⟨_,S',_,rfl,⟨g1,r1,r2,h.ok⟩,g2,r3,rollback_lk h.ok h.fine h.std hx hb hl⟩
theorem commit_sl(h:Sto W0 A c k b σ W S w)(hl:LkS σ)(hk:k≤900000){i:Nat}{x:Tx}(hx:σ.opn[i]? = some x)(hb:b+96+2048≤(c.n-1)*118):
  Calls Tryz.prog 29 #[.pointer (some ⟨A.sb,0,none⟩),.int .i64 (x.id:Nat)] w fun er w'=>∃σ' S',er=.returned (.int .i64 0)∧Sto W0 A c (k+3) (b+96) σ' W S' w'∧Foot S S' w w'∧σ'.opn=σ.opn.eraseIdx i∧LkS σ':=by
 obtain⟨r1,r2,r3,r4⟩:=commit_fine h.ok h.fine h.std hx hb
 refine(commit_sv h.sv h.fine (by omega) hx).mono ?_
 rintro er w' ⟨S',rfl,g1,g2⟩
 exact⟨_,S',rfl,⟨g1,r1,r2,h.ok⟩,g2,r3,commit_lk h.ok h.fine h.std hx hb hl⟩
end
end
section
open Go.RowKit
def WSLk4(bb oo cap p n l0 l1 sz nb na cb ca:Nat)(ab aa:Option Addr)(r0:Rc)(j b o:Nat):Prop:=False
def PSLk4(bb oo cap p n l0 l1 sz nb na cb ca:Nat)(ab aa:Option Addr)(r0:Rc)(i:Nat)(v:Value)(lo hi:Nat)(w:World):Prop:=
 match i with
 | 0=>v=.int .i64 ((p+1:Nat):Int)
 | 1=>v=.bool true
 | 2=>v=.bool true
 | 3=>v=.slice (some ⟨bb,oo,none⟩) n cap
 | 4=>v=.int .i64 ((p+1:Nat):Int)
 | 5=>v=.pointer (some ⟨bb,oo+(p+1)*12,none⟩)
 | 6=>v=.pointer (some ⟨bb,oo+(p+1)*12,none⟩)
 | 7=>v=.int .i64 ((l1:Nat):Int)
 | 8=>v=.slice (some ⟨bb,oo,none⟩) n cap
 | 9=>v=.int .i64 ((p+1:Nat):Int)
 | 10=>v=.int .i64 ((p:Nat):Int)
 | 11=>v=.pointer (some ⟨bb,oo+p*12,none⟩)
 | 12=>v=.pointer (some ⟨bb,oo+p*12,none⟩)
 | 13=>v=.int .i64 ((l0:Nat):Int)
 | 14=>v=.slice (some ⟨bb,oo,none⟩) n cap
 | 15=>v=.int .i64 ((p+1:Nat):Int)
 | 16=>v=.int .i64 ((p:Nat):Int)
 | 17=>v=.pointer (some ⟨bb,oo+p*12,none⟩)
 | 18=>v=.pointer (some ⟨bb,oo+p*12+1,none⟩)
 | 19=>v=.agg (recC r0 ab aa nb cb na ca)
 | 20=>∃(ao:Option Addr)(c:Nat),v=.slice ao sz c
 | 21=>v=.int .i64 ((sz:Nat):Int)
 | 22=>v=.int .i64 ((l1:Nat):Int)
 | 23=>v=.bool false
 | 24=>v=.bool false
 | _=>True
theorem PSLk4_stable(bb oo cap p n l0 l1 sz nb na cb ca:Nat)(ab aa:Option Addr)(r0:Rc)  : ∀i j,i<25→j<25→j≠i→j∉([[],[0],[0,1],[0,1,2],[0,1,2],[0,1,2,3,4],[0,1,2,3,4,5],[0,1,2,3,4,5,6],[0,1,2],[0,1,2],[0,1,2,9],[0,1,2,8,9,10],[0,1,2,8,9,10,11],[0,1,2,8,9,10,11,12],[0,1,2],[0,1,2],[0,1,2,15],[0,1,2,14,15,16],[0,1,2,14,15,16,17],[0,1,2,14,15,16,17,18],[0,1,2,14,15,16,17,18,19],[0,1,2,14,15,16,17,18,19,20],[0,1,2,8,9,10,11,12,13,14,15,16,17,18,19,20,21],[0,1,2,3,4,5,6,7,8,9,10,11,12,13,14,15,16,17,18,19,20,21,22],[0,1,2,3,4,5,6,7,8,9,10,11,12,13,14,15,16,17,18,19,20,21,22,23]]:List (List Nat)).getD i []→∀v lo hi w w',PSLk4 bb oo cap p n l0 l1 sz nb na cb ca ab aa r0 i v lo hi w→GrowC (WSLk4 bb oo cap p n l0 l1 sz nb na cb ca ab aa r0 j) w w'→PSLk4 bb oo cap p n l0 l1 sz nb na cb ca ab aa r0 i v lo hi w':=by
 intro i j hi hj hne hbs v lo hj2 w w' h hg
 match i,hi with
 | 0,_|1,_|2,_|3,_|4,_|5,_|6,_|7,_|8,_|9,_|10,_|11,_|12,_|13,_|14,_|15,_|16,_|17,_|18,_|19,_|20,_|21,_|22,_|23,_|24,_=>
  simp only[PSLk4]at h⊢
  exact h
 | (q+25),hq=>exact absurd hq (by omega)
structure LnR(w:World)(E:List Le):Prop where
 sm:∀e∈E,e.r.small∧e.lsn≤1099511627776
 rd:∀e∈E,Reads 1 w e.vb e.r.before.length (e.r.before.map B)∧Reads 1 w e.va e.r.after.length (e.r.after.map B)
set_option maxRecDepth 100000 in
set_option maxHeartbeats 12800000 in
theorem linked_any{w:World}(EL:List Le)(v:Value)(n T:Nat)(hn:EL.length=n)(hn2:n≤1000000)(hr:Reads 12 w v n (lcells EL))(hl:LnR w EL)(hk:Lk (EL.map fun e=>(e.lsn,e.r)) T):
  Calls Tryz.prog 32 #[v] w fun e w'=>e=.returned (.bool true)∧Below w.heap.size w w':=by
 obtain⟨av,cap,rfl⟩:=hr.shape
 obtain⟨k1,k2,_⟩:=hk.at
 have HK1:=Lib.hid (fun(i:Nat) (y z:Le) (hy:EL[i]? = some y) (hz:EL[i+1]? = some z)=>k1 i (y.lsn,y.r) (z.lsn,z.r) (by rw[List.getElem?_map,hy];rfl) (by rw[List.getElem?_map,hz];rfl))
 have HK2:=Lib.hid (fun(i:Nat) (z:Le) (hz:EL[i]? = some z)=>(k2 i (z.lsn,z.r) (by rw[List.getElem?_map,hz];rfl)).1)
 have HR:=Lib.hid hr
 have HL:=Lib.hid hl
 have HN:=Lib.hid hn
 clear hr hl hn hk k1 k2
 have HCE:=Lib.hid (fun(wx:World) (hb:Below w.heap.size w wx) (i:Nat) (e:Le) (he:EL[i]? = some e)=>(by
  obtain⟨ao,c,hv,hll,hc,hcell⟩:=HR.out.below hb (Nat.le_refl _)
  have hi:=(List.getElem?_eq_some_iff.1 he).1
  rw[HN.out]at hi
  obtain⟨b,o,hao,hbl,hx⟩:=hcell (by omega)
  subst hao
  injection hv with e1 e2 e3
  exact⟨b,o,e1,hbl,e3▸hc,fun j u hu=>by have h1:=hx (i*12+j) u (lcells_at EL i e he j u hu);rw[←Nat.add_assoc]at h1;exact h1⟩:
  ∃b o,av=some ⟨b,o,none⟩∧b<wx.heap.size∧n≤cap∧∀j u,(lcell e)[j]? = some u→wx.cell? ⟨b,o+i*12+j,none⟩=some u))
 go_enter Tryz.func32,Tryz.ntmps32
 go_wp2_with fail
 go_loopw [3,4,5] (fun z3 z4 z5 wr=>∃i:Nat,i≤n∧z3=.int .i64 (i:Nat)∧Below w.heap.size w wr) (fun z3 _ _ _=>n-(intOf z3).toNat)
 case atStart=>exact⟨0,Nat.zero_le _,rfl,Below.refl _ _⟩
 case round=>
  obtain⟨i,hi,rfl,hbel⟩:=hrel
  have HB:=Lib.hid hbel
  clear hbel
  by_cases hin:i<n
  ·have hib:decide ((i:Int)<(n:Int))=true:=by simpa using hin
   have hibn:decide (i<n)=true:=by simpa using hin
   obtain⟨z,hz⟩:∃z,EL[i]? = some z:=⟨_,List.getElem?_eq_getElem (by rw[HN.out];exact hin)⟩
   obtain⟨bb,oo,hav,hbb,hcp,hcl⟩:=HCE.out wr HB.out i z hz
   subst hav
   have HZ:=Lib.hid hz
   have HPV:=Lib.hid (HK2.out i z hz)
   clear hz
   go_upto_region 4 with (fail)
   go_cut [36] (fun z36 wx=>z36=.bool false∧Below w.heap.size w wx)
   case first=>
    by_cases hi0:i=0
    ·subst hi0
     go_quiet (fail)
     have hq2:=below_dn (Below.refl wr.heap.size wr) nq
     have HQ2:=Lib.hid (HB.out.trans (hq2.mono HB.out.size))
     clear hq2 hcl
     go_wp2
     go_meet
     exact⟨rfl,HQ2.out⟩
    ·obtain⟨p,rfl⟩:∃p,i=p+1:=⟨i-1,by omega⟩
     obtain⟨y,hy⟩:∃y,EL[p]? = some y:=⟨_,List.getElem?_eq_getElem (by rw[HN.out];omega)⟩
     have hlsn:=HK1.out p y z hy HZ.out
     have hym:=List.mem_of_getElem? hy
     obtain⟨hsm,hly⟩:=HL.out.sm y hym
     obtain⟨hrb,hra⟩:=HL.out.rd y hym
     obtain⟨b2,o2,hav2,hbb2,_,hcy⟩:=HCE.out wr HB.out p y hy
     injection hav2 with e4
     injection e4 with e5 e6
     subst e5 e6
     obtain⟨ly,r0,vb,va⟩:=y
     obtain⟨lz,r1,vb1,va1⟩:=z
     simp only at hsm hly hrb hra hlsn
     obtain⟨ab,cb,rfl⟩:=hrb.shape
     obtain⟨aa,ca,rfl⟩:=hra.shape
     have hpn:p<n:=by omega
     obtain⟨nb,hnb⟩:∃x,r0.before.length=x:=⟨_,rfl⟩
     obtain⟨na,hna⟩:∃x,r0.after.length=x:=⟨_,rfl⟩
     rw[hnb]at hrb hcy
     rw[hna]at hra hcy
     have q12:=hcl 0 _ rfl
     have q11:=hcy 0 _ rfl
     have q0:=hcy 1 _ rfl
     have q1:=hcy 2 _ rfl
     have q2:=hcy 3 _ rfl
     have q3:=hcy 4 _ rfl
     have q4:=hcy 5 _ rfl
     have q5:=hcy 6 _ rfl
     have q6:=hcy 7 _ rfl
     have q7:=hcy 8 _ rfl
     have q8:=hcy 9 _ rfl
     have q9:=hcy 10 _ rfl
     have q10:=hcy 11 _ rfl
     simp only[Nat.add_zero]at q12 q11
     have kbb:=hbb
     have HENC:=Lib.hid (fun(wx:World) (hb:Below wr.heap.size wr wx)=>rfenc_any (w:=wx) r0 ab aa nb cb na ca hsm hnb hna (hrb.below (HB.out.trans (hb.mono HB.out.size)) (Nat.le_refl _)) (hra.below (HB.out.trans (hb.mono HB.out.size)) (Nat.le_refl _)))
     obtain⟨sz,hsz0⟩:∃x,r0.size=x:=⟨_,rfl⟩
     have hszb:sz≤2097248:=by
      have h1:=hsm.b
      have h2:=hsm.a
      have h3:r0.size=96+r0.before.length+r0.after.length:=by unfold Rc.size;rw[hsm.t,hsm.d];rfl
      omega
     rw[hsz0]at HENC hlsn
     have hB:Below wr.heap.size wr wr:=Below.refl _ _
     clear hcl hcy hrb hra hsm hym hy hbb2
     refine wp_region_partsDC (WSLk4 bb oo cap p n ly lz sz nb na cb ca ab aa r0) 25 [[],[0],[0,1],[0,1,2],[0,1,2],[0,1,2,3,4],[0,1,2,3,4,5],[0,1,2,3,4,5,6],[0,1,2],[0,1,2],[0,1,2,9],[0,1,2,8,9,10],[0,1,2,8,9,10,11],[0,1,2,8,9,10,11,12],[0,1,2],[0,1,2],[0,1,2,15],[0,1,2,14,15,16],[0,1,2,14,15,16,17],[0,1,2,14,15,16,17,18],[0,1,2,14,15,16,17,18,19],[0,1,2,14,15,16,17,18,19,20],[0,1,2,8,9,10,11,12,13,14,15,16,17,18,19,20,21],[0,1,2,3,4,5,6,7,8,9,10,11,12,13,14,15,16,17,18,19,20,21,22],[0,1,2,3,4,5,6,7,8,9,10,11,12,13,14,15,16,17,18,19,20,21,22,23]] [some 12,some 13,some 14,some 15,some 16,some 17,some 18,some 19,some 20,some 21,some 22,some 23,some 24,some 25,some 26,some 27,some 28,some 29,some 30,some 31,some 32,some 33,some 34,some 35,some 36] (by kernel_rfl) (by kernel_rfl) rfl (PSLk4 bb oo cap p n ly lz sz nb na cb ca ab aa r0) (PSLk4_stable bb oo cap p n ly lz sz nb na cb ca ab aa r0) ?pSLk4 ?_
     case pSLk4=>
      intro i hi o ho vs lo hx_ w' hg hp
      match i,hi with
      | 0,_=>
       obtain rfl:=Option.some.inj ho
       clear ho
       simp only[actsD,Act.put,actL]
       have hsz:=hg.size
       go_wp2
       exact⟨_,rfl,GrowC.refl _,rfl⟩
      | 1,_=>
       obtain rfl:=Option.some.inj ho
       clear ho
       simp only[actsD,Act.put,actL]
       obtain⟨_,_,_,h0⟩:=hp 0 (by simp)
       simp only[PSLk4]at h0
       have hsz:=hg.size
       rw[h0]
       go_wp2
       exact⟨_,rfl,GrowC.refl _,by simp only[PSLk4]<;>first|rfl|omega|(congr 1<;>omega)|simp⟩
      | 2,_=>
       obtain rfl:=Option.some.inj ho
       clear ho
       simp only[actsD,Act.put,actL]
       obtain⟨_,_,_,h1⟩:=hp 1 (by simp)
       simp only[PSLk4]at h1
       have hsz:=hg.size
       rw[h1]
       go_wp2
       exact⟨_,rfl,GrowC.refl _,rfl⟩
      | 3,_|4,_|8,_|9,_|14,_|15,_=>
       obtain rfl:=Option.some.inj ho
       clear ho
       simp only[actsD,Act.put,actL]
       obtain⟨_,_,_,h2⟩:=hp 2 (by simp)
       simp only[PSLk4]at h2
       have hsz:=hg.size
       rw[h2]
       go_wp2
       exact⟨_,rfl,GrowC.refl _,rfl⟩
      | 5,_=>
       obtain rfl:=Option.some.inj ho
       clear ho
       simp only[actsD,Act.put,actL]
       obtain⟨_,_,_,h2⟩:=hp 2 (by simp)
       simp only[PSLk4]at h2
       obtain⟨_,_,_,h3⟩:=hp 3 (by simp)
       simp only[PSLk4]at h3
       obtain⟨_,_,_,h4⟩:=hp 4 (by simp)
       simp only[PSLk4]at h4
       have hsz:=hg.size
       rw[h2,h3,h4]
       go_wp2
       exact⟨_,rfl,GrowC.refl _,rfl⟩
      | 6,_=>
       obtain rfl:=Option.some.inj ho
       clear ho
       simp only[actsD,Act.put,actL]
       obtain⟨_,_,_,h2⟩:=hp 2 (by simp)
       simp only[PSLk4]at h2
       obtain⟨_,_,_,h5⟩:=hp 5 (by simp)
       simp only[PSLk4]at h5
       have hsz:=hg.size
       rw[h2,h5]
       go_wp2
       exact⟨_,rfl,GrowC.refl _,rfl⟩
      | 7,_=>
       obtain rfl:=Option.some.inj ho
       clear ho
       simp only[actsD,Act.put,actL]
       obtain⟨_,_,_,h2⟩:=hp 2 (by simp)
       simp only[PSLk4]at h2
       obtain⟨_,_,_,h6⟩:=hp 6 (by simp)
       simp only[PSLk4]at h6
       have hsz:=hg.size
       rw[h2,h6]
       have e0:=(hg.cell _ _ kbb (by rintro⟨j,_,hne,hb,hw⟩;exact hw)).trans q12
       go_wp2
       exact⟨_,rfl,GrowC.refl _,rfl⟩
      | 10,_=>
       obtain rfl:=Option.some.inj ho
       clear ho
       simp only[actsD,Act.put,actL]
       obtain⟨_,_,_,h2⟩:=hp 2 (by simp)
       simp only[PSLk4]at h2
       obtain⟨_,_,_,h9⟩:=hp 9 (by simp)
       simp only[PSLk4]at h9
       have hsz:=hg.size
       rw[h2,h9]
       go_wp2
       exact⟨_,rfl,GrowC.refl _,by simp only[PSLk4]<;>first|rfl|omega|(congr 1<;>omega)|simp⟩
      | 11,_=>
       obtain rfl:=Option.some.inj ho
       clear ho
       simp only[actsD,Act.put,actL]
       obtain⟨_,_,_,h2⟩:=hp 2 (by simp)
       simp only[PSLk4]at h2
       obtain⟨_,_,_,h8⟩:=hp 8 (by simp)
       simp only[PSLk4]at h8
       obtain⟨_,_,_,h10⟩:=hp 10 (by simp)
       simp only[PSLk4]at h10
       have hsz:=hg.size
       rw[h2,h8,h10]
       go_wp2
       exact⟨_,rfl,GrowC.refl _,rfl⟩
      | 12,_=>
       obtain rfl:=Option.some.inj ho
       clear ho
       simp only[actsD,Act.put,actL]
       obtain⟨_,_,_,h2⟩:=hp 2 (by simp)
       simp only[PSLk4]at h2
       obtain⟨_,_,_,h11⟩:=hp 11 (by simp)
       simp only[PSLk4]at h11
       have hsz:=hg.size
       rw[h2,h11]
       go_wp2
       exact⟨_,rfl,GrowC.refl _,rfl⟩
      | 13,_=>
       obtain rfl:=Option.some.inj ho
       clear ho
       simp only[actsD,Act.put,actL]
       obtain⟨_,_,_,h2⟩:=hp 2 (by simp)
       simp only[PSLk4]at h2
       obtain⟨_,_,_,h12⟩:=hp 12 (by simp)
       simp only[PSLk4]at h12
       have hsz:=hg.size
       rw[h2,h12]
       have e0:=(hg.cell _ _ kbb (by rintro⟨j,_,hne,hb,hw⟩;exact hw)).trans q11
       go_wp2
       exact⟨_,rfl,GrowC.refl _,rfl⟩
      | 16,_=>
       obtain rfl:=Option.some.inj ho
       clear ho
       simp only[actsD,Act.put,actL]
       obtain⟨_,_,_,h2⟩:=hp 2 (by simp)
       simp only[PSLk4]at h2
       obtain⟨_,_,_,h15⟩:=hp 15 (by simp)
       simp only[PSLk4]at h15
       have hsz:=hg.size
       rw[h2,h15]
       go_wp2
       exact⟨_,rfl,GrowC.refl _,by simp only[PSLk4]<;>first|rfl|omega|(congr 1<;>omega)|simp⟩
      | 17,_=>
       obtain rfl:=Option.some.inj ho
       clear ho
       simp only[actsD,Act.put,actL]
       obtain⟨_,_,_,h2⟩:=hp 2 (by simp)
       simp only[PSLk4]at h2
       obtain⟨_,_,_,h14⟩:=hp 14 (by simp)
       simp only[PSLk4]at h14
       obtain⟨_,_,_,h16⟩:=hp 16 (by simp)
       simp only[PSLk4]at h16
       have hsz:=hg.size
       rw[h2,h14,h16]
       go_wp2
       exact⟨_,rfl,GrowC.refl _,rfl⟩
      | 18,_=>
       obtain rfl:=Option.some.inj ho
       clear ho
       simp only[actsD,Act.put,actL]
       obtain⟨_,_,_,h2⟩:=hp 2 (by simp)
       simp only[PSLk4]at h2
       obtain⟨_,_,_,h17⟩:=hp 17 (by simp)
       simp only[PSLk4]at h17
       have hsz:=hg.size
       rw[h2,h17]
       go_wp2
       exact⟨_,rfl,GrowC.refl _,rfl⟩
      | 19,_=>
       obtain rfl:=Option.some.inj ho
       clear ho
       simp only[actsD,Act.put,actL]
       obtain⟨_,_,_,h2⟩:=hp 2 (by simp)
       simp only[PSLk4]at h2
       obtain⟨_,_,_,h18⟩:=hp 18 (by simp)
       simp only[PSLk4]at h18
       have hsz:=hg.size
       rw[h2,h18]
       have e0:=(hg.cell _ _ kbb (by rintro⟨j,_,hne,hb,hw⟩;exact hw)).trans q0
       have e1:=(hg.cell _ _ kbb (by rintro⟨j,_,hne,hb,hw⟩;exact hw)).trans q1
       have e2:=(hg.cell _ _ kbb (by rintro⟨j,_,hne,hb,hw⟩;exact hw)).trans q2
       have e3:=(hg.cell _ _ kbb (by rintro⟨j,_,hne,hb,hw⟩;exact hw)).trans q3
       have e4:=(hg.cell _ _ kbb (by rintro⟨j,_,hne,hb,hw⟩;exact hw)).trans q4
       have e5:=(hg.cell _ _ kbb (by rintro⟨j,_,hne,hb,hw⟩;exact hw)).trans q5
       have e6:=(hg.cell _ _ kbb (by rintro⟨j,_,hne,hb,hw⟩;exact hw)).trans q6
       have e7:=(hg.cell _ _ kbb (by rintro⟨j,_,hne,hb,hw⟩;exact hw)).trans q7
       have e8:=(hg.cell _ _ kbb (by rintro⟨j,_,hne,hb,hw⟩;exact hw)).trans q8
       have e9:=(hg.cell _ _ kbb (by rintro⟨j,_,hne,hb,hw⟩;exact hw)).trans q9
       have e10:=(hg.cell _ _ kbb (by rintro⟨j,_,hne,hb,hw⟩;exact hw)).trans q10
       go_wp2
       exact⟨_,rfl,GrowC.refl _,rfl⟩
      | 20,_=>
       obtain rfl:=Option.some.inj ho
       clear ho
       simp only[actsD,Act.put,actL]
       obtain⟨_,_,_,h2⟩:=hp 2 (by simp)
       simp only[PSLk4]at h2
       obtain⟨_,_,_,h19⟩:=hp 19 (by simp)
       simp only[PSLk4]at h19
       have hsz:=hg.size
       rw[h2,h19]
       have hgB:Below wr.heap.size wr w':=hg.below (fun k hk=>⟨hk,fun o=>by rintro⟨j,_,_,_,hw⟩;exact False.elim hw⟩)
       have HE:=Lib.hid (HENC.out w' hgB)
       go_wp2_with fail
       refine HE.out.mono ?_
       rintro e wh ⟨ao,c,rfl,hbl⟩
       go_wp2
       exact⟨_,rfl,GrowC.of_grow ⟨hbl.os,hbl.tape,hbl.output,hbl.size,hbl.block⟩,ao,c,rfl⟩
      | 21,_=>
       obtain rfl:=Option.some.inj ho
       clear ho
       simp only[actsD,Act.put,actL]
       obtain⟨_,_,_,h2⟩:=hp 2 (by simp)
       simp only[PSLk4]at h2
       obtain⟨_,_,_,h20⟩:=hp 20 (by simp)
       simp only[PSLk4]at h20
       have hsz:=hg.size
       obtain⟨ao,c,h20⟩:=h20
       rw[h20]
       rw[h2]
       go_wp2
       exact⟨_,rfl,GrowC.refl _,rfl⟩
      | 22,_=>
       obtain rfl:=Option.some.inj ho
       clear ho
       simp only[actsD,Act.put,actL]
       obtain⟨_,_,_,h2⟩:=hp 2 (by simp)
       simp only[PSLk4]at h2
       obtain⟨_,_,_,h13⟩:=hp 13 (by simp)
       simp only[PSLk4]at h13
       obtain⟨_,_,_,h21⟩:=hp 21 (by simp)
       simp only[PSLk4]at h21
       have hsz:=hg.size
       rw[h2,h13,h21]
       go_wp2
       exact⟨_,rfl,GrowC.refl _,by simp only[PSLk4]<;>first|rfl|omega|(congr 1<;>omega)|simp⟩
      | 23,_=>
       obtain rfl:=Option.some.inj ho
       clear ho
       simp only[actsD,Act.put,actL]
       obtain⟨_,_,_,h2⟩:=hp 2 (by simp)
       simp only[PSLk4]at h2
       obtain⟨_,_,_,h7⟩:=hp 7 (by simp)
       simp only[PSLk4]at h7
       obtain⟨_,_,_,h22⟩:=hp 22 (by simp)
       simp only[PSLk4]at h22
       have hsz:=hg.size
       rw[h2,h7,h22]
       go_wp2
       exact⟨_,rfl,GrowC.refl _,by simp only[PSLk4]<;>first|rfl|omega|(congr 1<;>omega)|simp⟩
      | 24,_=>
       obtain rfl:=Option.some.inj ho
       clear ho
       simp only[actsD,Act.put,actL]
       obtain⟨_,_,_,h2⟩:=hp 2 (by simp)
       simp only[PSLk4]at h2
       obtain⟨_,_,_,h23⟩:=hp 23 (by simp)
       simp only[PSLk4]at h23
       have hsz:=hg.size
       rw[h2,h23]
       go_wp2
       exact⟨_,rfl,GrowC.refl _,rfl⟩
      | (q+25),hq=>exact absurd hq (by omega)
     intro vS lo hi z4 hg hp hd
     obtain⟨_,_,_,h0⟩:=hp 0 (by decide)
     obtain⟨_,_,_,h1⟩:=hp 1 (by decide)
     obtain⟨_,_,_,h2⟩:=hp 2 (by decide)
     obtain⟨_,_,_,h3⟩:=hp 3 (by decide)
     obtain⟨_,_,_,h4⟩:=hp 4 (by decide)
     obtain⟨_,_,_,h5⟩:=hp 5 (by decide)
     obtain⟨_,_,_,h6⟩:=hp 6 (by decide)
     obtain⟨_,_,_,h7⟩:=hp 7 (by decide)
     obtain⟨_,_,_,h8⟩:=hp 8 (by decide)
     obtain⟨_,_,_,h9⟩:=hp 9 (by decide)
     obtain⟨_,_,_,h10⟩:=hp 10 (by decide)
     obtain⟨_,_,_,h11⟩:=hp 11 (by decide)
     obtain⟨_,_,_,h12⟩:=hp 12 (by decide)
     obtain⟨_,_,_,h13⟩:=hp 13 (by decide)
     obtain⟨_,_,_,h14⟩:=hp 14 (by decide)
     obtain⟨_,_,_,h15⟩:=hp 15 (by decide)
     obtain⟨_,_,_,h16⟩:=hp 16 (by decide)
     obtain⟨_,_,_,h17⟩:=hp 17 (by decide)
     obtain⟨_,_,_,h18⟩:=hp 18 (by decide)
     obtain⟨_,_,_,h19⟩:=hp 19 (by decide)
     obtain⟨_,_,_,h20⟩:=hp 20 (by decide)
     obtain⟨_,_,_,h21⟩:=hp 21 (by decide)
     obtain⟨_,_,_,h22⟩:=hp 22 (by decide)
     obtain⟨_,_,_,h23⟩:=hp 23 (by decide)
     obtain⟨_,_,_,h24⟩:=hp 24 (by decide)
     simp only[PSLk4]at h0 h1 h2 h3 h4 h5 h6 h7 h8 h9 h10 h11 h12 h13 h14 h15 h16 h17 h18 h19 h20 h21 h22 h23 h24
     clear hp hd
     have hsz:=hg.size
     replace hB:=hB.trans (hg.below (fun k hk=>⟨by omega,fun o=>by rintro⟨j,_,hw⟩;exact False.elim hw⟩))
     have hr:List.range 25=[0,1,2,3,4,5,6,7,8,9,10,11,12,13,14,15,16,17,18,19,20,21,22,23,24]:=rfl
     rw[hr]
     clear hr
     simp only[List.drop_succ_cons,List.drop_zero,List.drop_nil,actsD,Act.put,actL,h0,h1,h2,h3,h4,h5,h6,h7,h8,h9,h10,h11,h12,h13,h14,h15,h16,h17,h18,h19,h21,h22,h23,h24]
     clear h0 h1 h2 h3 h4 h5 h6 h7 h8 h9 h10 h11 h12 h13 h14 h15 h16 h17 h18 h19 h21 h22 h23 h24
     have HQ2:=Lib.hid (HB.out.trans (hB.mono HB.out.size))
     clear h20 hB
     go_wp2
     go_meet
     exact⟨rfl,HQ2.out⟩
   case rest=>
    obtain⟨rfl,hbel⟩:=hcut
    have HB2:=Lib.hid hbel
    clear hbel hcl
    go_wp2_with fail
    go_loopw [4,5] (fun z4 z5 wq=>∃j:Nat,j≤i∧z5=.int .i64 (j:Nat)∧z4=.int .i64 (lastOf ((EL.take j).map fun e=>(e.lsn,e.r)) z.r.txn:Nat)∧Below w.heap.size w wq) (fun _ z5 _=>i-(intOf z5).toNat)
    case atStart=>exact⟨0,Nat.zero_le _,rfl,rfl,HB2.out⟩
    case round=>
     obtain⟨j,hj,rfl,rfl,hbel⟩:=hrel
     have HBJ:=Lib.hid hbel
     clear hbel
     by_cases hji:j<i
     ·have hjb:decide ((j:Int)<(i:Int))=true:=by simpa using hji
      have hjbn:decide (j<i)=true:=by simpa using hji
      have hjn:j<n:=by omega
      obtain⟨y,hy⟩:∃y,EL[j]? = some y:=⟨_,List.getElem?_eq_getElem (by rw[HN.out];exact hjn)⟩
      have HLS:Hid (lastOf ((EL.take (j+1)).map fun e=>(e.lsn,e.r)) z.r.txn=if y.r.txn=z.r.txn then y.lsn else lastOf ((EL.take j).map fun e=>(e.lsn,e.r)) z.r.txn):=Lib.hid (by rw[List.take_add_one,hy];show lastOf (List.map _ (_++[y])) _=_;rw[List.map_append];exact lastOf_snoc _ _ _)
      obtain⟨b2,o2,hav2,_,_,hcy⟩:=HCE.out wr HBJ.out j y hy
      injection hav2 with e4
      injection e4 with e5 e6
      subst e5 e6
      obtain⟨b3,o3,hav3,_,_,hcz⟩:=HCE.out wr HBJ.out i z HZ.out
      injection hav3 with e4
      injection e4 with e5 e6
      subst e5 e6
      have q0:=hcy 0 _ rfl
      have q2:=hcy 2 _ rfl
      have q3:=hcz 2 _ rfl
      simp only[Nat.add_zero]at q0
      generalize lastOf ((EL.take j).map fun e=>(e.lsn,e.r)) z.r.txn=la at *
      obtain⟨ly,r0,vb,va⟩:=y
      obtain⟨lz,r1,vb1,va1⟩:=z
      simp only at q0 q2 q3 HLS
      clear hcy hcz hy
      by_cases ht:r0.txn=r1.txn
      ·rw[ht]at q2
       have HL2:=Lib.hid (HLS.out.trans (if_pos ht))
       clear ht HLS
       go_wp2_with fail
       go_quiet (fail)
       have hq2:=below_dn (Below.refl wr.heap.size wr) nq
       have HQ2:=Lib.hid (HBJ.out.trans (hq2.mono HBJ.out.size))
       clear hq2
       go_wp2_with fail
       go_roundw
       ·exact⟨j+1,by omega,by go_num,by rw[HL2.out],HQ2.out⟩
       ·simp[intOf];omega
      ·have d1:decide ((r0.txn:Int)=(r1.txn:Int))=false:=by simp;omega
       have d2:decide (r0.txn=r1.txn)=false:=by simpa using ht
       have d3:((r0.txn:Int)==(r1.txn:Int))=false:=by simp;omega
       have HL2:=Lib.hid (HLS.out.trans (if_neg ht))
       clear ht HLS
       go_wp2_with fail
       go_quiet (fail)
       have hq2:=below_dn (Below.refl wr.heap.size wr) nq
       have HQ2:=Lib.hid (HBJ.out.trans (hq2.mono HBJ.out.size))
       clear hq2 q0 q2 q3
       go_wp2_with fail
       go_roundw
       ·exact⟨j+1,by omega,by go_num,by rw[HL2.out],HQ2.out⟩
       ·simp[intOf];omega
     ·obtain rfl:j=i:=by omega
      have hjb:decide ((j:Int)<(j:Int))=false:=by simp
      obtain⟨b3,o3,hav3,_,_,hcz⟩:=HCE.out wr HBJ.out j z HZ.out
      injection hav3 with e4
      injection e4 with e5 e6
      subst e5 e6
      have hpv:=HPV.out
      rw[←List.map_take]at hpv
      rw[←hpv]
      have q1:=hcz 1 _ rfl
      have q2:=hcz 2 _ rfl
      have q3:=hcz 3 _ rfl
      obtain⟨lz,r1,vb1,va1⟩:=z
      simp only at q1 q2 q3
      clear hcz hpv
      by_cases ht:r1.txn=0
      ·rw[ht]at q2
       have d1:decide (((0:Nat):Int)>0)=false:=by decide
       go_wp2_with fail
       go_roundw
       ·exact⟨j+1,by omega,by go_num,HBJ.out⟩
       ·simp[intOf];omega
      ·have d1:decide ((r1.txn:Int)>0)=true:=by simp;omega
       have d2:decide (0<(r1.txn:Int))=true:=by simp;omega
       have d3:decide (0<r1.txn)=true:=by simp;omega
       go_wp2_with fail
       go_roundw
       ·exact⟨j+1,by omega,by go_num,HBJ.out⟩
       ·simp[intOf];omega
  ·obtain rfl:i=n:=by omega
   have hib:decide ((i:Int)<(i:Int))=false:=by simp
   go_wp2_with fail
   go_ret
   exact⟨rfl,HB.out⟩
end
section
open Go.RowKit
def ids(σ:St):List Nat:=σ.opn.map (·.id)
def upM(σ:St)(m:Nat):Prop:=∀x∈σ.opn,x.l.length≤m
section
variable{W0 w w' w2:World}{A:Adr}{c:Cf}{σ:St}{S X:Nat→Prop}{k b m:Nat}{W:Nat→List UInt8}
theorem begin_sl(h:Sto W0 A c k b σ W S w)(hl:LkS σ)(hu:upM σ m)(hk:k≤900000)(hb:b+288+2048≤(c.n-1)*118):
  Calls Tryz.prog 28 #[.pointer (some ⟨A.sb,0,none⟩)] w fun e w'=>∃σ' S' t,e=.returned (.tuple #[.int .i64 (t:Nat),.int .i64 0])∧Sto W0 A c (k+1) (b+288) σ' W S' w'∧Foot S S' w w'∧LkS σ'∧ids σ'=ids σ++[t]∧upM σ' m:=by
 refine(begin_st h hk hb).mono ?_
 rintro e w' ⟨σ',S',rfl,h1,h2,h3,h4,h5,h6⟩
 refine⟨σ',S',σ.next,rfl,h1,h2,hl.begin h3 h4 h5 h6,by unfold ids;rw[h3,List.map_append];rfl,fun x hx=>?_⟩
 rw[h3]at hx
 rcases List.mem_append.1 hx with hx|hx
 ·exact hu x hx
 ·rw[List.mem_singleton.1 hx];exact Nat.zero_le _
theorem upM.erase{σ':St}{i:Nat}(h:upM σ m)(he:σ'.opn=σ.opn.eraseIdx i):upM σ' m:=fun x hx=>h x (by rw[he]at hx;exact List.mem_of_mem_eraseIdx hx)
theorem ids_erase{σ':St}{i:Nat}(he:σ'.opn=σ.opn.eraseIdx i):ids σ'=(ids σ).eraseIdx i:=by unfold ids;rw[he,map_erase]
theorem ids_at{i t:Nat}(h:(ids σ)[i]? = some t):∃x,σ.opn[i]? = some x∧x.id=t:=by
 unfold ids at h
 rw[List.getElem?_map]at h
 cases hx:σ.opn[i]? with
 | none=>rw[hx]at h;cases h
 | some x=>rw[hx]at h;exact⟨x,rfl,Option.some.inj h⟩
theorem write_sl(h:Sto W0 A c k b σ W S w)(hl:LkS σ)(hu:upM σ m)(hk:k≤900000){i t:Nat}(hx:(ids σ)[i]? = some t)(p off:Nat)(bs:List UInt8)(v:Value)(hv:Reads 1 W0 v bs.length (bs.map B))(hpg:p<c.pg)(hoff:off+bs.length≤504)
  (hb:b+(192+3*bs.length)+2048≤(c.n-1)*118):
  Calls Tryz.prog 31 #[.pointer (some ⟨A.sb,0,none⟩),.int .i64 (t:Nat),.int .i64 (p:Nat),.int .i64 (off:Nat),v] w fun er w'=>∃r σ' S' W',er=.returned (.int .i64 r)∧Sto W0 A c (k+3) (b+(192+3*bs.length)) σ' W' S' w'∧Foot S S' w w'∧LkS σ'∧ids σ'=ids σ∧upM σ' (m+1):=by
 obtain⟨x,hxo,rfl⟩:=ids_at hx
 obtain⟨ao,cp,rfl,hlv,hc,hcell⟩:=hv
 have hu1:upM σ (m+1):=fun y hy=>Nat.le_succ_of_le (hu y hy)
 rcases Nat.eq_zero_or_pos bs.length with h0|h0
 ·rw[h0]
  refine(write0_st h hk hxo p off ao cp hpg (by omega)).mono ?_
  rintro er w' ⟨σ',S',rfl,h1,h2,h3⟩
  exact⟨0,σ',S',_,rfl,h1.le (Nat.le_refl _) (by omega) (by rw[h0]at hb;exact hb),h2,hl.like h3.opn h3.lines h3.tail h3.next,by unfold ids;rw[h3.opn],fun y hy=>hu1 y (by rw[h3.opn]at hy;exact hy)⟩
 ·obtain⟨bb,o,rfl,hbb,hc2⟩:=hcell h0
  cases hbz:σ.busy (x.id:Int) p off bs.length with
  | true=>
   refine(busy_st h hk hxo p off (some ⟨bb,o,none⟩) bs.length cp hpg hoff hbz).mono ?_
   rintro er w' ⟨rfl,h1,h2⟩
   exact⟨62,σ,S,W,rfl,h1.le (by omega) (by omega) hb,Foot.below (grow_below h2),hl,rfl,hu1⟩
  | false=>
   have hrd:Reads 1 w (.slice (some ⟨bb,o,none⟩) bs.length cp) bs.length (bs.map B):=
    Reads.below (w:=W0) ⟨_,_,rfl,hlv,hc,fun _=>⟨bb,o,rfl,hbb,hc2⟩⟩ h.bel (Nat.le_refl _)
   refine(write_st h hk hxo p off bs (some ⟨bb,o,none⟩) bs.length cp hrd rfl hpg hoff hbz (fun q e=>?_) hb).mono ?_
   ·have e2:bb=q:=(by simpa[Value.ownBlock]using e)
    subst e2
    exact⟨fun hs=>by have:=(h.lt _ hs).1;omega,Nat.lt_of_lt_of_le hbb h.bel.size⟩
   ·rintro er w' ⟨σ',S',rfl,h1,h2,h3,h4⟩
    refine⟨0,σ',S',_,rfl,h1,h2,?_⟩
    rcases h4 with ⟨_,q1,q2,q3⟩|⟨_,q1,q2,q3⟩
    ·exact⟨hl.like q1 q2 q3 h3,by unfold ids;rw[q1],fun y hy=>hu1 y (by rw[q1]at hy;exact hy)⟩
    ·have hbl:(((W p).drop off).take bs.length).length=bs.length:=by rw[List.length_take,List.length_drop,h.std.len hpg];omega
     refine⟨hl.lay hxo (wrRc x.id x.last p off (((W p).drop off).take bs.length) bs) rfl rfl ⟨rfl,rfl⟩ _ ?_ ?_ q1 h3 q2 ?_,?_,fun y hy=>?_⟩
     ·rfl
     ·rfl
     ·rw[q3]
      simp only[wrRc,Rc.size,Rc.zero,hbl,List.length_nil]
      omega
     ·unfold ids
      rw[q1]
      exact nd_set (y:={ x with last:=σ.io.R.tail+1,l:=x.l++[⟨σ.io.R.tail+1,x.last,p,off,((W p).drop off).take bs.length⟩] }) hxo rfl
     ·rw[q1]at hy
      rcases List.mem_or_eq_of_mem_set hy with hy|rfl
      ·exact hu1 y hy
      ·have:=hu x (List.mem_of_getElem? hxo)
       rw[List.length_append,List.length_singleton]
       omega
end
end
end Go.Proofs.YtpajagkhmodbnaaGreat

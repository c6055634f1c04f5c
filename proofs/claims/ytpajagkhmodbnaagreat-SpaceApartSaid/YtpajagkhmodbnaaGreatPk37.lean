/- Pk: texts of the store seat laid together by program: ApRow ApPlain ApSto ApAt. Conditions: each theorem names its own. -/
import Derived.Test.YtpajagkhmodbnaaGreatPk34
import Derived.Test.YtpajagkhmodbnaaGreatPk36
import Derived.ArgAppend
namespace Go.Proofs.YtpajagkhmodbnaaGreat
set_option linter.unusedSimpArgs false
set_option linter.unusedVariables false
section
open Go.RowKit
structure RowO(w:World)(B:Nat)(v:Value)(l:List Value):Prop where
 at_:(v=.slice none 0 0∧l=[])∨∃g off cap,v=.slice (some ⟨g,off,none⟩) l.length cap∧B≤g∧g<w.heap.size∧l.length≤cap∧cap≤maxLen∧(∀j,j<cap→(w.cell? ⟨g,off+j,none⟩).isSome=true)∧
  (∀j u,l[j]? = some u→w.cell? ⟨g,off+j,none⟩=some u)∧∀o,w.frozen? ⟨g,o,none⟩=false
section
variable{w w':World}{B:Nat}{v:Value}{l:List Value}
theorem RowO.nil(w:World)(B:Nat):RowO w B (.slice none 0 0) []:=⟨.inl ⟨rfl,rfl⟩⟩
theorem RowO.own{e n:Nat}(h:w.ownsRow B e 1 v n l):RowO w B v l:=by
 obtain⟨hl,h⟩:=h
 rw[Nat.mul_one]at hl
 subst hl
 rcases h with ⟨rfl,h0⟩|⟨g,cap,cur,rfl,hb,hg,hn,hm,hs,ht⟩
 ·exact⟨.inl ⟨rfl,List.eq_nil_of_length_eq_zero h0⟩⟩
 ·rw[Nat.mul_one]at hs ht
  have hlt:g<w.heap.size:=by
   have:=(Array.getElem?_eq_some_iff.1 hg).1
   exact this
  refine⟨.inr ⟨g,0,cap,rfl,hb,hlt,hn,hm,fun j hj=>?_,fun j u hu=>?_,fun o=>?_⟩⟩
  ·rw[Nat.zero_add,cell_of_row w g j cur e (0,0) hg]
   rw[Array.getElem?_eq_getElem (by omega)];rfl
  ·rw[Nat.zero_add,cell_of_row w g j cur e (0,0) hg]
   have hj:=(List.getElem?_eq_some_iff.1 hu).1
   rw[←ht,List.getElem?_take,if_pos hj]at hu
   rw[←hu];simp
  ·rw[frozen_of_row w g o cur e hg]
theorem RowO.mono{X:Nat→Prop}(h:RowO w B v l)(hg:GrowX X w w')(hX:∀k,v.ownBlock=some k→¬X k):RowO w' B v l:=by
 rcases h.at_ with ⟨h1,h2⟩|⟨g,off,cap,rfl,hb,hlt,hn,hm,hs,hc,hf⟩
 ·exact⟨.inl ⟨h1,h2⟩⟩
 ·have he:=hg.block g hlt (hX g rfl)
  have hce:∀o,w'.cell? ⟨g,o,none⟩=w.cell? ⟨g,o,none⟩:=fun o=>by simp only[World.cell?,he]
  have hfe:∀o,w'.frozen? ⟨g,o,none⟩=w.frozen? ⟨g,o,none⟩:=fun o=>by simp only[World.frozen?,he]
  exact⟨.inr ⟨g,off,cap,rfl,hb,Nat.lt_of_lt_of_le hlt hg.size,hn,hm,fun j hj=>by rw[hce];exact hs j hj,fun j u hu=>by rw[hce];exact hc j u hu,fun o=>by rw[hfe];exact hf o⟩⟩
theorem RowO.lt(h:RowO w B v l):∀k,v.ownBlock=some k→B≤k∧k<w.heap.size:=by
 rcases h.at_ with ⟨rfl,_⟩|⟨g,off,cap,rfl,hb,hlt,_⟩
 ·intro k hk;cases hk
 ·intro k hk
  obtain rfl:g=k:=by simpa[Value.ownBlock]using hk
  exact⟨hb,hlt⟩
theorem RowO.cons{x:Value}(h:RowO w B v (x::l)):∃g off cap,v=.slice (some ⟨g,off,none⟩) (l.length+1) cap∧l.length+1≤cap∧cap≤maxLen∧w.cell? ⟨g,off,none⟩=some x∧g<w.heap.size∧w.frozen? ⟨g,off,none⟩=false∧
  (cap=1→RowO w B (.slice (some ⟨g,off,none⟩) l.length (cap-1)) l)∧RowO w B (.slice (some ⟨g,off+1,none⟩) l.length (cap-1)) l:=by
 rcases h.at_ with ⟨_,h0⟩|⟨g,off,cap,rfl,hb,hlt,hn,hm,hs,hc,hf⟩
 ·cases h0
 ·rw[List.length_cons]at hn
  refine⟨g,off,cap,rfl,hn,hm,hc 0 x rfl,hlt,hf off,fun h1=>?_,⟨.inr ⟨g,off+1,cap-1,rfl,hb,hlt,by omega,by omega,fun j hj=>?_,fun j u hu=>?_,hf⟩⟩⟩
  ·obtain rfl:l=[]:=List.eq_nil_of_length_eq_zero (by omega)
   exact⟨.inr ⟨g,off,cap-1,rfl,hb,hlt,by simp,by omega,fun j hj=>by omega,fun j u hu=>by simp at hu,hf⟩⟩
  ·have:=hs (j+1) (by omega)
   rwa [show off+(j+1)=off+1+j by omega]at this
  ·have:=hc (j+1) u hu
   rwa [show off+(j+1)=off+1+j by omega]at this
theorem RowO.append{P:Program}{t ty e:TypeId}{z:Value}{bytes:Nat}(T:SliceOf P t e z 1 bytes)(h:RowO w B v l)(hB:B≤w.heap.size)(a:Addr)(c:Nat)(x:Value)(hx:w.cell? a=some x)(hx1:x.oneCell'=true)
  (hl:l.length+1≤1152921504606846976) (hbytes:(l.length+1)*bytes≤140737488355328):
  ∃v' w',(Builtin.append_ #[t,t] ty #[v,.slice (some a) 1 c]).run P w=.ok v' w'∧RowO w' B v' (l++[x])∧GrowX (fun k=>v.ownBlock=some k) w w'∧(∀k,v'.ownBlock=some k→v.ownBlock=some k∨w.heap.size≤k):=by
 obtain⟨i,hi,hz0,hz1,hz2⟩:=info_parts T.info
 have hn:∀j u,[x][j]? = some u→w.cell? (a.add j)=some u:=fun j u hu=>by
  match j,hu with
  | 0,hu=>simp at hu;subst hu;rw[show a.add 0=a by cases a;simp[Addr.add]];exact hx
  | j+1,hu=>simp at hu
 have h1:∀u ∈ [x],u.oneCell'=true:=fun u hu=>by rw[List.mem_singleton.1 hu];exact hx1
 rcases h.at_ with ⟨rfl,rfl⟩|⟨g,off,cap,rfl,hb,hlt,hnc,hm,hs,hc,hf⟩
 ·obtain⟨v',w',hrun,hown,hgrow,_⟩:=run_append_own (P:=P) w w.heap.size t ty e i z 1 bytes T.und hi hz0 hz1 hz2 T.cells T.pos _ 0 [] (World.ownsRow_nil _ _ _ _) a 1 c [x] rfl hn h1 (by unfold maxLen;simp at hl⊢) (by simpa using hbytes) (Nat.le_refl _)
  refine⟨v',w',hrun,?_,⟨hgrow.os,hgrow.tape,hgrow.output,hgrow.size,fun k hk hx=>hgrow.block k hk (by simp[Value.ownBlock])⟩,fun k hk=>?_⟩
  ·have:=RowO.own hown
   rcases this.at_ with h|⟨g,off,cap,q1,q2,q3⟩
   ·exact⟨.inl h⟩
   ·exact⟨.inr ⟨g,off,cap,q1,Nat.le_trans hB q2,q3⟩⟩
  ·exact .inr ((RowO.own hown).lt k hk).1
 ·by_cases hroom:l.length+1≤cap
  ·have hsz:=hz1
   have hrun:=run_append_room_cells (P:=P) w t ty e i T.und hi g off l.length cap a 1 c [x] (by rw[hsz];rfl) hn h1 hroom (fun j hj=>by
     have hj0:j=0:=by simpa using hj
     subst hj0
     rw[hsz,Nat.mul_one,Nat.add_zero];exact hs l.length (by omega)) (fun j _=>hf _)
   rw[hsz,Nat.mul_one]at hrun
   have hsz2:(w.setCells g (off+l.length) [x]).heap.size=w.heap.size:=by simp[World.setCells]
   have hgb:∀k,k≠g→(w.setCells g (off+l.length) [x]).heap[k]? = w.heap[k]? := fun k hk=>by
    show(w.setCell ⟨g,off+l.length,none⟩ x).heap[k]? = _
    exact heap_setCell_other w ⟨g,off+l.length,none⟩ k x hk
   have hsome:∀j,j < [x].length→(w.cell? ⟨g,off+l.length+j,none⟩).isSome=true:=fun j hj=>by
    have hj0:j=0:=by simpa using hj
    subst hj0
    exact hs l.length (by omega)
   have hin:=World.cell?_setCells_in g [x] (off+l.length) w hsome 0 (by simp)
   refine⟨_,_,hrun,⟨.inr ⟨g,off,cap,by rw[List.length_append];rfl,hb,by rw[hsz2];exact hlt,by rw[List.length_append];exact hroom,hm,fun j hj=>?_,fun j u hu=>?_,fun o=>by rw[World.frozen?_setCells];exact hf o⟩⟩,⟨by show(w.setCell _ _).os=_;rfl,by show(w.setCell _ _).tape=_;rfl,by show(w.setCell _ _).output=_;rfl,by rw[hsz2];exact Nat.le_refl _,fun k hk hx=>hgb k (fun e=>hx (by rw[e];rfl))⟩,fun k hk=>.inl (by simpa[Value.ownBlock]using hk)⟩
   ·by_cases e5:j=l.length
    ·subst e5
     rw[Nat.add_zero]at hin
     rw[hin];rfl
    ·rw[World.cell?_setCells_out g [x] (off+l.length) w ⟨g,off+j,none⟩ (fun _ _=>by show off+j<_∨_≤off+j;simp only[List.length_singleton];omega)]
     exact hs j hj
   ·rw[List.getElem?_append]at hu
    split at hu
    ·next hlt5=>
     rw[World.cell?_setCells_out g [x] (off+l.length) w ⟨g,off+j,none⟩ (fun _ _=>by show off+j<_∨_≤off+j;simp only[List.length_singleton];omega)]
     exact hc j u hu
    ·next hlt5=>
     have hj0:j-l.length=0:=by
      have:=(List.getElem?_eq_some_iff.1 hu).1
      simp only[List.length_singleton]at this;omega
     rw[hj0]at hu
     have hje:j=l.length:=by omega
     subst hje
     rw[Nat.add_zero]at hin
     rw[hin]
     simpa using hu
  ·obtain⟨v2,w2,hrun2,hown2,hgr2⟩:=run_append_arg_grows (P:=P) w t ty e i z 1 bytes T.und hi hz0 hz1 hz2 T.cells T.pos ⟨g,off,none⟩ l.length cap l (by omega) (fun j u hu=>by rw[Addr.add_lit];exact hc j u hu) a 1 c [x] rfl hn (by omega) (by unfold maxLen;omega) hbytes
   refine⟨v2,w2,hrun2,?_,⟨hgr2.os,hgr2.tape,hgr2.output,hgr2.size,fun k hk hx=>hgr2.block k hk (by simp)⟩,fun k hk=>.inr ((RowO.own hown2).lt k hk).1⟩
   have:=RowO.own hown2
   rcases this.at_ with h|⟨g,off,cap,q1,q2,q3⟩
   ·exact⟨.inl h⟩
   ·exact⟨.inr ⟨g,off,cap,q1,Nat.le_trans hB q2,q3⟩⟩
theorem RowO.shape(h:RowO w B v l):∃ao cap,v=.slice ao l.length cap∧l.length≤cap∧cap≤maxLen∧∀j u,l[j]? = some u→∃b o,ao=some ⟨b,o,none⟩∧b<w.heap.size∧w.cell? ⟨b,o+j,none⟩=some u:=by
 rcases h.at_ with ⟨rfl,rfl⟩|⟨g,off,cap,rfl,hb,hlt,hnc,hm,hs,hc,hf⟩
 ·exact⟨none,0,rfl,Nat.le_refl _,Nat.zero_le _,fun j u hu=>by simp at hu⟩
 ·exact⟨_,cap,rfl,hnc,hm,fun j u hu=>⟨g,off,rfl,hlt,hc j u hu⟩⟩
theorem wpList_append_rowO{P:Program}{ops:Array Oper}{rest:List Oper}{o:Oper}{a:Act}{Q:Exit→Act→World→Prop}
  {t e:TypeId} {z:Value} {bytes:Nat} (T:SliceOf P t e z 1 bytes) (s x:Operand) (hgd:o.guard=none)
  (ho:o.op=.call { callee:=.builtin .append,args:=#[s,x],argTypes:=#[t,t] })
  (hs:a.eval s=v) (hown:RowO w B v l) {ad:Addr} {c:Nat} {u:Value} (hx:a.eval x=.slice (some ad) 1 c) (hu:w.cell? ad=some u) (h1:u.oneCell'=true)
  (h63:l.length+1≤1152921504606846976) (hbytes:(l.length+1)*bytes≤140737488355328) (hbase:B≤w.heap.size)
  (h:∀v' w',RowO w' B v' (l++[u])→GrowX (fun k=>v.ownBlock=some k) w w'→(∀k,v'.ownBlock=some k→v.ownBlock=some k∨w.heap.size≤k)→wpList P ops Q rest (a.put o.dst v') w'):wpList P ops Q (o::rest) a w:=by
 obtain⟨v',w',hrun,h2,h3,h4⟩:=RowO.append (P:=P) (ty:=o.type) T hown hbase ad c u hu h1 h63 hbytes
 refine wpList_plain hgd fun K hK=>?_
 unfold Oper.wp
 simp[execOp,ho,resolve,invoke,builtin,hs,hx,hrun,Result.andThen]
 exact hK _ _ (h v' w' h2 h3 h4)
end
end
section
open Go.RowKit
def rl:List Up→List UInt8→List UInt8
 | [],l=>l
 | u::r,l=>rl r (overB l u.off u.before)
def Ones(L:List Up)(m:Nat):Prop:=∀u∈L,u.page=0∧u.before.length=1∧1≤u.off∧u.off≤m∧1≤u.lsn
def Off(L:List Up)(q:Nat):Prop:=∃u∈L,u.off=q
theorem popR_rl{r:List Up}:∀{W:Nat→List UInt8},(∀u∈r,u.page=0∧1≤u.lsn)→(popR 0 r W).2 0=rl r (W 0):=by
 induction r with
 | nil=>intro W _;rfl
 | cons u r ih=>
  intro W h
  obtain⟨h1,h2⟩:=h u (List.mem_cons_self ..)
  rw[popR,if_neg (by omega),ih (fun v hv=>h v (List.mem_cons_of_mem _ hv)),rl,h1]
  unfold updV
  rw[if_pos rfl]
theorem rl_len{r:List Up}:∀{l:List UInt8},(∀u∈r,u.off≤l.length)→(rl r l).length=l.length:=by
 induction r with
 | nil=>intro l _;rfl
 | cons u r ih=>
  intro l h
  have h1:=overB_length l u.off u.before (h u (List.mem_cons_self ..))
  rw[rl,ih (fun v hv=>by rw[h1];exact h v (List.mem_cons_of_mem _ hv)),h1]
theorem over1_get(l:List UInt8)(q:Nat)(a:UInt8)(h:q<l.length)(j:Nat):(overB l q [a])[j]? = if j=q then some a else l[j]? := by
 rw[overB_get _ _ _ (by show q+1≤_;omega)]
 show(if j<q then _ else if j<q+1 then _ else _)=_
 by_cases e:j=q
 ·subst e
  rw[if_neg (by omega),if_pos (by omega),if_pos rfl,Nat.sub_self];rfl
 ·rw[if_neg e]
  split
  ·rfl
  ·rw[if_neg (by omega)]
theorem over1_comm(l:List UInt8)(p q:Nat)(a b:UInt8)(h:p≠q)(hp:p<l.length)(hq:q<l.length):overB (overB l p [a]) q [b]=overB (overB l q [b]) p [a]:=by
 have e1:=overB_length l p [a] (by omega)
 have e2:=overB_length l q [b] (by omega)
 apply List.ext_getElem?
 intro j
 rw[over1_get _ _ _ (by omega),over1_get _ _ _ hp,over1_get _ _ _ (by omega),over1_get _ _ _ hq]
 by_cases h1:j=q
 ·subst h1
  rw[if_pos rfl,if_neg (by omega),if_pos rfl]
 ·rw[if_neg h1,if_neg h1]
theorem one_before{u:Up}(h:u.before.length=1):∃a,u.before=[a]:=List.length_eq_one_iff.1 h
theorem rl_comm{r:List Up}:∀{l:List UInt8}{q:Nat}{a:UInt8},(∀u∈r,u.before.length=1∧u.off<l.length∧u.off≠q)→q<l.length→rl r (overB l q [a])=overB (rl r l) q [a]:=by
 induction r with
 | nil=>intro l q a _ _;rfl
 | cons u r ih=>
  intro l q a h hq
  obtain⟨h1,h2,h3⟩:=h u (List.mem_cons_self ..)
  obtain⟨b,hb⟩:=one_before h1
  have e1:=overB_length l u.off [b] (by omega)
  rw[rl,rl,hb,over1_comm l q u.off a b (by omega) hq h2]
  exact ih (fun v hv=>by rw[e1];exact h v (List.mem_cons_of_mem _ hv)) (by omega)
theorem rl_get{r:List Up}:∀{l:List UInt8}{q:Nat},(∀u∈r,u.before.length=1∧u.off<l.length∧u.off≠q)→(rl r l)[q]? = l[q]? := by
 induction r with
 | nil=>intro l q _;rfl
 | cons u r ih=>
  intro l q h
  obtain⟨h1,h2,h3⟩:=h u (List.mem_cons_self ..)
  obtain⟨b,hb⟩:=one_before h1
  have e1:=overB_length l u.off [b] (by omega)
  rw[rl,hb,ih (fun v hv=>by rw[e1];exact h v (List.mem_cons_of_mem _ hv)),over1_get _ _ _ h2,if_neg (by omega)]
structure Pr(l:List UInt8)(la lb:List Up)(Ta Tb:List Bool)(ha hb:List Nat)(m:Nat):Prop where
 len:l.length=504
 oa:Ones la m
 ob:Ones lb m
 dis:∀u∈la,∀v∈lb,u.off≠v.off
 ra:RelT Ta (rl lb.reverse l)
 rb:RelT Tb (rl la.reverse l)
 na:Ta.length=94
 nb:Tb.length=94
 ca:Ta.countP id=1+ha.length
 cb:Tb.countP id=1+hb.length
 A:∀p∈ha,p<94∧Ta.getD p false=true∧Off la p
 B:∀p∈hb,p<94∧Tb.getD p false=true∧Off lb p
 nda:ha.Nodup
 ndb:hb.Nodup
 zero:l[0]? = some 1
 free:∀q,1≤q→q<94→¬Off la q→¬Off lb q→l[q]? = some 0
 m16:m≤90
theorem Pr.symm{l:List UInt8}{la lb:List Up}{Ta Tb:List Bool}{ha hb:List Nat}{m:Nat}(h:Pr l la lb Ta Tb ha hb m):Pr l lb la Tb Ta hb ha m:=
 ⟨h.len,h.ob,h.oa,fun u hu v hv e=>h.dis v hv u hu e.symm,h.rb,h.ra,h.nb,h.na,h.cb,h.ca,h.B,h.A,h.ndb,h.nda,h.zero,fun q h1 h2 h3 h4=>h.free q h1 h2 h4 h3,h.m16⟩
section
variable{l:List UInt8}{la lb:List Up}{Ta Tb:List Bool}{ha hb:List Nat}{m:Nat}
theorem Pr.at_(h:Pr l la lb Ta Tb ha hb m)(q:Nat)(hq:q<94)(ho:¬Off lb q):l[q]? = some (tb (Ta.getD q false)):=by
 have h1:=h.ra.at_ q (by rw[h.na];exact hq)
 have h2:(rl lb.reverse l)[q]? = l[q]? := rl_get fun u hu=>by
  have hu2:=List.mem_reverse.1 hu
  obtain⟨_,a2,_,a4,_⟩:=h.ob u hu2
  exact⟨a2,by rw[h.len];have:=h.m16;omega,fun e=>ho ⟨u,hu2,e⟩⟩
 rw[←h2,h1,List.getElem?_eq_getElem (by rw[h.na];exact hq),List.getD_eq_getElem?_getD,List.getElem?_eq_getElem (by rw[h.na];exact hq)]
 rfl
theorem Pr.put(h:Pr l la lb Ta Tb ha hb m)(q:Nat)(v:Bool)(n pv:Nat)(ha':List Nat)(h1:1≤q)(h2:q≤m+1)(h3:q<94)(hm:m+1≤90)(hn:1≤n)(ho:¬Off lb q)(hv:l[q]? = some (tb (!v)))
  (hc:(Ta.set q v).countP id=1+ha'.length) (hA:∀p∈ha',(p∈ha∧p≠q)∨(p=q∧v=true)) (hnd:ha'.Nodup):
  Pr (overB l q [tb v]) (la++[⟨n,pv,0,q,(l.drop q).take 1⟩]) lb (Ta.set q v) Tb ha' hb (m+1):=by
 have hl:=h.len
 have hbef:(l.drop q).take 1=[tb (!v)]:=by
  obtain⟨hi,he⟩:=List.getElem?_eq_some_iff.1 hv
  rw[List.drop_eq_getElem_cons hi,he];rfl
 rw[hbef]
 have hb1:∀u∈lb.reverse,u.before.length=1∧u.off<l.length∧u.off≠q:=fun u hu=>by
  have hu2:=List.mem_reverse.1 hu
  obtain⟨_,a2,_,a4,_⟩:=h.ob u hu2
  exact⟨a2,by rw[hl];have:=h.m16;omega,fun e=>ho ⟨u,hu2,e⟩⟩
 have hoff:∀p,Off la p→Off (la++[⟨n,pv,0,q,[tb (!v)]⟩]) p:=fun p ⟨u,hu,e⟩=>⟨u,List.mem_append_left _ hu,e⟩
 refine⟨by rw[overB_length _ _ _ (by omega)];exact hl,fun u hu=>?_,fun u hu=>?_,fun u hu w hw=>?_,?_,?_,by rw[List.length_set];exact h.na,h.nb,hc,h.cb,fun p hp=>?_,h.B,hnd,h.ndb,?_,fun p p1 p2 p3 p4=>?_,hm⟩
 ·rcases List.mem_append.1 hu with hu|hu
  ·obtain⟨a1,a2,a3,a4,a5⟩:=h.oa u hu
   exact⟨a1,a2,a3,by omega,a5⟩
  ·rw[List.mem_singleton.1 hu]
   exact⟨rfl,rfl,h1,h2,hn⟩
 ·obtain⟨a1,a2,a3,a4,a5⟩:=h.ob u hu
  exact⟨a1,a2,a3,by omega,a5⟩
 ·rcases List.mem_append.1 hu with hu|hu
  ·exact h.dis u hu w hw
  ·rw[List.mem_singleton.1 hu]
   exact fun e=>ho ⟨w,hw,e.symm⟩
 ·rw[rl_comm hb1 (by omega)]
  exact h.ra.set q v
 ·rw[List.reverse_append]
  show RelT Tb (rl (_::la.reverse) _)
  rw[rl,overB_back l [tb v] [tb (!v)] q (by simp;omega) (by rw[←hbef];rfl)]
  exact h.rb
 ·rcases hA p hp with ⟨q1,q2⟩|⟨rfl,rfl⟩
  ·obtain⟨a1,a2,a3⟩:=h.A p q1
   refine⟨a1,?_,hoff p a3⟩
   rw[List.getD_eq_getElem?_getD,List.getElem?_set_ne (by omega),←List.getD_eq_getElem?_getD]
   exact a2
  ·refine⟨h3,?_,⟨_,List.mem_append_right _ (List.mem_singleton.2 rfl),rfl⟩⟩
   rw[List.getD_eq_getElem?_getD,List.getElem?_set_self (by rw[h.na];exact h3)]
   rfl
 ·rw[over1_get _ _ _ (by omega),if_neg (by omega)]
  exact h.zero
 ·have hpq:p≠q:=fun e=>p3 ⟨_,List.mem_append_right _ (List.mem_singleton.2 rfl),e.symm⟩
  rw[over1_get _ _ _ (by omega),if_neg hpq]
  exact h.free p p1 p2 (fun hx=>p3 (hoff p hx)) p4
theorem Pr.take(h:Pr l la lb Ta Tb ha hb m)(q:Nat)(n pv:Nat)(h1:1≤q)(h2:q≤m+1)(h3:q<94)(hm:m+1≤90)(hn:1≤n)(ho:¬Off lb q)(hv:l[q]? = some 0):
  Pr (overB l q [1]) (la++[⟨n,pv,0,q,(l.drop q).take 1⟩]) lb (Ta.set q true) Tb (ha++[q]) hb (m+1)∧q∉ha∧q∉hb:=by
 have hf:Ta.getD q false=false:=by
  have:=h.at_ q h3 ho
  rw[hv]at this
  cases hh:Ta.getD q false with
  | false=>rfl
  | true=>rw[hh]at this;simp[tb]at this
 have hqa:q∉ha:=fun hq=>by
  have:=(h.A q hq).2.1
  rw[hf]at this;cases this
 have hqb:q∉hb:=fun hq=>ho (h.B q hq).2.2
 refine⟨h.put q true n pv (ha++[q]) h1 h2 h3 hm hn ho hv ?_ (fun p hp=>?_) ?_,hqa,hqb⟩
 ·have:=countP_set (T:=Ta) (q:=q) (by rw[h.na];exact h3) true
  rw[hf]at this
  have hc:=h.ca
  rw[List.length_append,List.length_singleton]
  simp only[Bool.false_eq_true,if_false,if_true]at this
  omega
 ·rcases List.mem_append.1 hp with hp|hp
  ·exact .inl ⟨hp,fun e=>hqa (e▸hp)⟩
  ·exact .inr ⟨List.mem_singleton.1 hp,rfl⟩
 ·rw[List.nodup_append]
  exact⟨h.nda,by simp,fun a h5 b h6 e=>hqa (by rw[←List.mem_singleton.1 h6,←e];exact h5)⟩
theorem Pr.give{p:Nat}{hr:List Nat}(h:Pr l la lb Ta Tb (p::hr) hb m)(hm:m+1≤90):
  (1≤p∧p<94∧¬Off lb p∧l[p]? = some 1)∧∀n pv,1≤n→Pr (overB l p [0]) (la++[⟨n,pv,0,p,(l.drop p).take 1⟩]) lb (Ta.set p false) Tb hr hb (m+1):=by
 obtain⟨a1,a2,u,hu,a3⟩:=h.A p (List.mem_cons_self ..)
 obtain⟨b1,b2,b3,b4,b5⟩:=h.oa u hu
 have ho:¬Off lb p:=fun⟨v,hv,e⟩=>h.dis u hu v hv (a3.trans e.symm)
 have hv:=h.at_ p a1 ho
 rw[a2]at hv
 have hnd:=List.nodup_cons.1 h.nda
 refine⟨⟨by omega,a1,ho,hv⟩,fun n pv hn=>h.put p false n pv hr (by omega) (by omega) a1 hm hn ho hv ?_ (fun q hq=>.inl ⟨List.mem_cons_of_mem _ hq,fun e=>hnd.1 (e▸hq)⟩) hnd.2⟩
 have:=countP_set (T:=Ta) (q:=p) (by rw[h.na];exact a1) false
 rw[a2]at this
 have hc:=h.ca
 rw[List.length_cons]at hc
 simp only[Bool.false_eq_true,if_false,if_true]at this
 omega
theorem hits_off{x:Tx}{L:List Up}(hL:Ones L m)(t:Int)(q:Nat)(ht:¬(x.id:Int)=t)(hx:x.l=L):x.l.any (hits t 0 q 1 x.id)=true↔Off L q:=by
 rw[hx,List.any_eq_true]
 constructor
 ·rintro⟨u,hu,h⟩
  unfold hits at h
  rw[decide_eq_true_eq]at h
  obtain⟨_,a2,_⟩:=hL u hu
  exact⟨u,hu,by omega⟩
 ·rintro⟨u,hu,e⟩
  obtain⟨a1,a2,_⟩:=hL u hu
  refine⟨u,hu,?_⟩
  unfold hits
  rw[decide_eq_true_eq]
  exact⟨ht,by omega,a1,by omega,by omega⟩
theorem hits_own(x:Tx)(p q n:Nat):x.l.any (hits (x.id:Int) p q n x.id)=false:=by
 rw[List.any_eq_false]
 intro u _
 simp[hits]
end
end
section
open Go.RowKit
theorem pg512:(Cf.of 512).pg=94:=by rw[cf512]
theorem n512:(Cf.of 512).n=128:=by rw[cf512]
def idz(z:Bool):Nat:=if z then 3 else 2
structure DuoZ(z:Bool)(w:World)(A:Adr)(m:Nat)(hm ho:List Nat)(S:Nat→Prop)(wr:World):Prop where
 at_:∃σ W xm xo Tm To,Sto w A (Cf.of 512) (9+4*m) (1155+195*m) σ W S wr∧σ.opn=(if z then [xo,xm] else [xm,xo])∧xm.id=idz z∧xo.id=idz (!z)∧Pr (W 0) xm.l xo.l Tm To hm ho m
section
variable{z:Bool}{w wr:World}{A:Adr}{m:Nat}{hm ho:List Nat}{S:Nat→Prop}
theorem DuoZ.flip(h:DuoZ z w A m hm ho S wr):DuoZ (!z) w A m ho hm S wr:=by
 obtain⟨σ,W,xm,xo,Tm,To,h1,h2,h3,h4,h5⟩:=h.at_
 refine⟨σ,W,xo,xm,To,Tm,h1,?_,h4,by rw[Bool.not_not];exact h3,h5.symm⟩
 rw[h2];cases z<;>rfl
theorem idz_ne(z:Bool):¬((idz (!z):Nat):Int)=(idz z:Nat):=by cases z<;>decide
theorem duo_busy{σ:St}{xm xo:Tx}{m:Nat}(h2:σ.opn=(if z then [xo,xm] else [xm,xo]))(h3:xm.id=idz z)(h4:xo.id=idz (!z))(hO:Ones xo.l m)(q:Nat):σ.busy (xm.id:Int) 0 q 1=true↔Off xo.l q:=by
 have e:=hits_off (x:=xo) hO (xm.id:Int) q (by rw[h3,h4];exact idz_ne z) rfl
 have e2:=hits_own xm 0 q 1
 unfold St.busy
 rw[h2]
 cases z
 ·simp only[Bool.false_eq_true,if_false,List.any_cons,List.any_nil,e2,Bool.false_or,Bool.or_false];exact e
 ·simp only[if_true,List.any_cons,List.any_nil,e2,Bool.or_false];exact e
theorem duo_at{σ:St}{xm xo:Tx}(h2:σ.opn=(if z then [xo,xm] else [xm,xo])):σ.opn[(if z then 1 else 0:Nat)]? = some xm:=by rw[h2];cases z<;>rfl
theorem duo_set{σ:St}{xm xo y:Tx}(h2:σ.opn=(if z then [xo,xm] else [xm,xo])):σ.opn.set (if z then 1 else 0:Nat) y=(if z then [xo,y] else [y,xo]):=by rw[h2];cases z<;>rfl
theorem duo_del{σ:St}{xm xo:Tx}(h2:σ.opn=(if z then [xo,xm] else [xm,xo])):σ.opn.eraseIdx (if z then 1 else 0:Nat)=[xo]:=by rw[h2];cases z<;>rfl
theorem b1155{m:Nat}(h:m<16):1155+195*m+195+2048≤((Cf.of 512).n-1)*118:=by rw[n512];omega
theorem DuoZ.take(h:DuoZ z w A m hm ho S wr)(hM:m<16):Calls Tryz.prog 23 #[.pointer (some ⟨A.sb,0,none⟩),.int .i64 (idz z:Nat)] wr fun e w'=>∃q S',e=.returned (.tuple #[.int .i64 (q:Nat),.int .i64 0])∧Foot S S' wr w'∧DuoZ z w A (m+1) (hm++[q]) ho S' w'∧q∉hm∧q∉ho∧q<94:=by
 obtain⟨σ,W,xm,xo,Tm,To,h1,h2,h3,h4,h5⟩:=h.at_
 have hpg:=pg512
 rw[←h3]
 have hbz:=duo_busy h2 h3 h4 h5.ob
 have hwl:=h1.std.len (show 0<(Cf.of 512).pg by omega)
 refine(take_st h1 (by omega) (duo_at h2) (by omega) (by omega) (b1155 hM)).mono ?_
 rintro e w' ⟨σ',S',hf,hh⟩
 have hfree:∀q,1≤q→q<94→¬Off xm.l q→¬Off xo.l q→freeP σ (W 0) xm.id q=true:=fun q q1 q2 q3 q4=>by
  unfold freeP
  rw[h5.free q q1 q2 q3 q4]
  have:σ.busy (xm.id:Int) 0 q 1=false:=by
   cases hb:σ.busy (xm.id:Int) 0 q 1 with
   | false=>rfl
   | true=>exact absurd ((hbz q).1 hb) q4
  rw[this];rfl
 have hnew:freeP σ (W 0) xm.id (m+1)=true:=hfree (m+1) (by omega) (by omega) (fun⟨u,hu,e⟩=>by have:=(h5.oa u hu).2.2.2.1;omega) (fun⟨u,hu,e⟩=>by have:=(h5.ob u hu).2.2.2.1;omega)
 rcases hh with ⟨q,q1,q2,rfl,q3,q4⟩|⟨q1,_⟩
 ·have hp:=List.find?_some q2
  have hmin:=(List.find?_range_eq_some.1 q2).2.2
  have hle:q≤m+1:=by
   rcases Nat.lt_or_ge (m+1) q with hx|hx
   ·have:=hmin (m+1) hx
    rw[hnew]at this;simp at this
   ·exact hx
  unfold freeP at hp
  rw[Bool.and_eq_true,decide_eq_true_eq]at hp
  obtain⟨hp1,hp2⟩:=hp
  have hoff:¬Off xo.l q:=fun hx=>by
   have:=(hbz q).2 hx
   rw[this]at hp2;simp at hp2
  have hq1:1≤q:=by
   rcases Nat.eq_zero_or_pos q with hx|hx
   ·subst hx
    rw[h5.zero]at hp1;simp at hp1
   ·exact hx
  obtain⟨_,⟨bad,_⟩|⟨_,ho2,_,_⟩⟩:=q4
  ·exfalso
   obtain⟨hi,he⟩:=List.getElem?_eq_some_iff.1 hp1
   rw[show((W 0).drop q).take [(1:UInt8)].length=[0] by rw[List.drop_eq_getElem_cons hi,he];rfl]at bad
   simp at bad
  ·obtain⟨r1,r2,r3⟩:=h5.take q (σ.io.R.tail+1) xm.last hq1 hle (by omega) (by omega) (by omega) hoff hp1
   refine⟨q,S',rfl,hf,⟨σ',_,{ xm with last:=σ.io.R.tail+1,l:=xm.l++[⟨σ.io.R.tail+1,xm.last,0,q,((W 0).drop q).take 1⟩] },xo,Tm.set q true,To,q3.le (by omega) (by omega) (by rw[n512];omega),?_,h3,h4,?_⟩,r2,r3,by omega⟩
   ·rw[ho2];exact duo_set h2
   ·unfold updV
    rw[if_pos rfl]
    exact r1
 ·exfalso
  have:=List.find?_eq_none.1 q1 (m+1) (by rw[List.mem_range];omega)
  rw[hnew]at this;simp at this
theorem DuoZ.give{p:Nat}{hr:List Nat}(h:DuoZ z w A m (p::hr) ho S wr)(hM:m<16):Calls Tryz.prog 24 #[.pointer (some ⟨A.sb,0,none⟩),.int .i64 (idz z:Nat),.int .i64 (p:Nat)] wr fun e w'=>∃S',e=.returned (.int .i64 0)∧Foot S S' wr w'∧DuoZ z w A (m+1) hr ho S' w':=by
 obtain⟨σ,W,xm,xo,Tm,To,h1,h2,h3,h4,h5⟩:=h.at_
 have hpg:=pg512
 rw[←h3]
 have hbz:=duo_busy h2 h3 h4 h5.ob
 have hwl:=h1.std.len (show 0<(Cf.of 512).pg by omega)
 obtain⟨⟨a1,a2,a3,a4⟩,a5⟩:=h5.give (by omega)
 have hbu:σ.busy (xm.id:Int) 0 p 1=false:=by
  cases hb:σ.busy (xm.id:Int) 0 p 1 with
  | false=>rfl
  | true=>exact absurd ((hbz p).1 hb) a3
 have hg:giveB (W 0) (Cf.of 512).pg (p:Int)=true:=by
  unfold giveB takenI
  rw[if_neg (by omega),Int.toNat_natCast,List.getD_eq_getElem?_getD,a4]
  rw[show decide ((1:Int)≤(p:Int))=true by simp;omega]
  rfl
 refine(give_yes h1 (by omega) (duo_at h2) (by omega) (by omega) p hg hbu (b1155 hM)).mono ?_
 rintro e w' ⟨σ',S',rfl,q3,hf,q4⟩
 obtain⟨_,⟨bad,_⟩|⟨_,ho2,_,_⟩⟩:=q4
 ·exfalso
  obtain⟨hi,he⟩:=List.getElem?_eq_some_iff.1 a4
  rw[show((W 0).drop p).take [(0:UInt8)].length=[1] by rw[List.drop_eq_getElem_cons hi,he];rfl]at bad
  simp at bad
 ·refine⟨S',rfl,hf,⟨σ',_,{ xm with last:=σ.io.R.tail+1,l:=xm.l++[⟨σ.io.R.tail+1,xm.last,0,p,((W 0).drop p).take 1⟩] },xo,Tm.set p false,To,q3.le (by omega) (by omega) (by rw[n512];omega),?_,h3,h4,?_⟩⟩
  ·rw[ho2];exact duo_set h2
  ·unfold updV
   rw[if_pos rfl]
   exact a5 _ _ (by omega)
structure AftZ(w:World)(A:Adr)(k b:Nat)(t:Nat)(T:List Bool)(S:Nat→Prop)(wr:World):Prop where
 at_:∃σ W,Sto w A (Cf.of 512) k b σ W S wr∧(t=0∨Solo σ t)∧RelT T (W 0)
theorem DuoZ.back(h:DuoZ z w A m hm ho S wr)(hM:m≤16):Calls Tryz.prog 30 #[.pointer (some ⟨A.sb,0,none⟩),.int .i64 (idz z:Nat)] wr fun e w'=>∃S' T,e=.returned (.int .i64 0)∧Foot S S' wr w'∧AftZ w A 1000 5000 (idz (!z)) T S' w'∧T.length=94∧T.countP id=1+ho.length∧∀p∈ho,p<94∧T.getD p false=true:=by
 obtain⟨σ,W,xm,xo,Tm,To,h1,h2,h3,h4,h5⟩:=h.at_
 rw[←h3]
 have hx:=duo_at h2
 have hln:=(h1.fine.tx xm (List.mem_of_getElem? hx)).len
 have hcs:=h1.fine.cost
 refine(rollback_st h1 (by omega) hx (by rw[n512];omega)).mono ?_
 rintro e w' ⟨σ',S',rfl,q3,hf,q4,q5⟩
 refine⟨S',To,rfl,hf,⟨σ',_,q3.le (by omega) (by omega) (by rw[n512];decide),.inr ⟨xo,by rw[q4];exact duo_del h2,h4⟩,?_⟩,h5.nb,h5.cb,fun p hp=>by obtain⟨a,b,_⟩:=h5.B p hp;exact⟨a,b⟩⟩
 rw[popU_R 0 _ _ _ (Nat.le_refl _)]
 show RelT To ((popR 0 xm.l.reverse W).2 0)
 rw[popR_rl (fun u hu=>by obtain⟨a,_,_,_,b⟩:=h5.oa u (List.mem_reverse.1 hu);exact⟨a,b⟩)]
 exact h5.rb
variable{k b t:Nat}{T:List Bool}
theorem AftZ.commit(h:AftZ w A k b t T S wr)(ht:1≤t)(hk:k≤900000)(hb:b+96+2048≤14986):Calls Tryz.prog 29 #[.pointer (some ⟨A.sb,0,none⟩),.int .i64 (t:Nat)] wr fun e w'=>∃S',e=.returned (.int .i64 0)∧Foot S S' wr w'∧AftZ w A (k+3) (b+96) 0 T S' w':=by
 obtain⟨σ,W,h1,h2,h3⟩:=h.at_
 obtain⟨x,hx,hid⟩:Solo σ t:=h2.resolve_left (by omega)
 rw[←hid]
 refine(commit_st h1 hk (i:=0) (x:=x) (by rw[hx];rfl) (by rw[n512];omega)).mono ?_
 rintro e w' ⟨σ',S',rfl,q3,hf,q4,q5⟩
 exact⟨S',rfl,hf,⟨σ',W,q3,.inl rfl,h3⟩⟩
theorem AftZ.count(h:AftZ w A k b 0 T S wr)(hk:k≤900000)(hT:T.length=94):Calls Tryz.prog 26 #[.pointer (some ⟨A.sb,0,none⟩)] wr fun e w'=>∃S',e=.returned (.tuple #[.int .i64 (T.countP id:Nat),.int .i64 0])∧Foot S S' wr w'∧AftZ w A (k+1) b 0 T S' w':=by
 obtain⟨σ,W,h1,h2,h3⟩:=h.at_
 have hpg:=pg512
 refine(count_st h1 hk (by omega) (by omega)).mono ?_
 rintro e w' ⟨σ',S',rfl,q3,hf,q4⟩
 refine⟨S',?_,hf,⟨σ',W,q3,.inl rfl,h3⟩⟩
 rw[hpg,←hT,h3.cnt]
theorem AftZ.taken(h:AftZ w A k b 0 T S wr)(hk:k≤900000)(hT:T.length=94)(p:Nat)(hp:p<94)(hpt:T.getD p false=true):Calls Tryz.prog 25 #[.pointer (some ⟨A.sb,0,none⟩),.int .i64 (p:Nat)] wr fun e w'=>∃S',e=.returned (.tuple #[.bool true,.int .i64 0])∧Foot S S' wr w'∧AftZ w A (k+1) b 0 T S' w':=by
 obtain⟨σ,W,h1,h2,h3⟩:=h.at_
 have hpg:=pg512
 refine(taken_st h1 hk (by omega) (by omega) p (by omega) (by omega)).mono ?_
 rintro e w' ⟨σ',S',rfl,q3,hf,q4⟩
 refine⟨S',?_,hf,⟨σ',W,q3,.inl rfl,h3⟩⟩
 rw[hpg,←hT,h3.takenI,if_neg (by omega),Int.toNat_natCast,hpt]
end
end
section
open Go.RowKit
def icells(l:List Nat):List Value:=l.map fun(q:Nat)=>Value.int .i64 (q:Int)
theorem icells_len(l:List Nat):(icells l).length=l.length:=List.length_map ..
theorem icells_snoc(l:List Nat)(q:Nat):icells l++[Value.int .i64 (q:Int)]=icells (l++[q]):=by unfold icells;rw[List.map_append];rfl
theorem icells_at{l:List Nat}{j q:Nat}(h:l[j]? = some q):(icells l)[j]? = some (.int .i64 (q:Int)):=by unfold icells;rw[List.getElem?_map,h];rfl
theorem intsOf:SliceOf Tryz.prog 47 3 (.int .i64 0) 1 8:=⟨Tryz.underlying47,by kernel_rfl,rfl,by decide⟩
def two{α:Type}(z:Bool)(m o:α):List α:=if z then [o,m] else [m,o]
theorem two_flip{α:Type}(z:Bool)(m o:α):two (!z) o m=two z m o:=by cases z<;>rfl
def zi(z:Bool):Nat:=if z then 1 else 0
theorem two_set{α:Type}(z:Bool)(m o x:α):(two z m o).set (zi z) x=two z x o:=by cases z<;>rfl
structure ApZ(z:Bool)(w:World)(A:Adr)(gh m:Nat)(hm ho rm ro:List Nat)(vm vo:Value)(wr:World):Prop where
 at_:∃S,DuoZ z w A m hm ho S wr∧¬S gh∧(∀q,vm.ownBlock=some q→¬S q)∧(∀q,vo.ownBlock=some q→¬S q)
 box:Box wr gh (two z vm vo)
 rm:RowO wr w.heap.size vm (icells rm)
 ro:RowO wr w.heap.size vo (icells ro)
 ne:∀q,vm.ownBlock=some q→¬vo.ownBlock=some q
 nm:¬vm.ownBlock=some gh
 no:¬vo.ownBlock=some gh
 ge:w.heap.size≤gh
theorem DuoZ.bel{z:Bool}{w wr:World}{A:Adr}{m:Nat}{hm ho:List Nat}{S:Nat→Prop}(h:DuoZ z w A m hm ho S wr):Below w.heap.size w wr:=by
 obtain⟨σ,W,xm,xo,Tm,To,h1,_⟩:=h.at_
 exact h1.bel
theorem DuoZ.lt{z:Bool}{w wr:World}{A:Adr}{m:Nat}{hm ho:List Nat}{S:Nat→Prop}(h:DuoZ z w A m hm ho S wr):∀q,S q→w.heap.size≤q∧q<wr.heap.size:=by
 obtain⟨σ,W,xm,xo,Tm,To,h1,_⟩:=h.at_
 exact h1.lt
theorem DuoZ.grow{z:Bool}{w wr w2:World}{A:Adr}{m:Nat}{hm ho:List Nat}{S X:Nat→Prop}(h:DuoZ z w A m hm ho S wr)(hg:GrowX X wr w2)(hX:∀q,X q→¬S q)(hB:∀q,X q→w.heap.size≤q):DuoZ z w A m hm ho S w2:=by
 obtain⟨σ,W,xm,xo,Tm,To,h1,h2⟩:=h.at_
 exact⟨σ,W,xm,xo,Tm,To,h1.grow hg (fun q a b=>hX q b a) (h1.bel.trans (hg.below (fun k hk=>⟨by have:=h1.bel.size;omega,fun e=>by have:=hB k e;omega⟩))),h2⟩
section
variable{z:Bool}{w wr w2:World}{A:Adr}{gh m:Nat}{hm ho rm ro:List Nat}{vm vo:Value}
theorem ApZ.flip(h:ApZ z w A gh m hm ho rm ro vm vo wr):ApZ (!z) w A gh m ho hm ro rm vo vm wr:=by
 obtain⟨S,h1,h2,h3,h4⟩:=h.at_
 exact⟨⟨S,h1.flip,h2,h4,h3⟩,by rw[two_flip];exact h.box,h.ro,h.rm,fun q a b=>h.ne q b a,h.no,h.nm,h.ge⟩
theorem ApZ.bel(h:ApZ z w A gh m hm ho rm ro vm vo wr):Below w.heap.size w wr:=by
 obtain⟨S,h1,_⟩:=h.at_
 exact h1.bel
theorem ApZ.alloc(h:ApZ z w A gh m hm ho rm ro vm vo wr)(o:Obj):ApZ z w A gh m hm ho rm ro vm vo (wr.alloc o):=by
 obtain⟨S,h1,h2,h3,h4⟩:=h.at_
 have hg:GrowX (fun _=>False) wr (wr.alloc o):=grow_below ((Below.refl _ _).alloc (Nat.le_refl _) o)
 exact⟨⟨S,h1.grow hg (fun _ a=>a.elim) (fun _ a=>a.elim),h2,h3,h4⟩,h.box.alloc o,h.rm.mono hg (fun _ _ a=>a),h.ro.mono hg (fun _ _ a=>a),h.ne,h.nm,h.no,h.ge⟩
theorem ApZ.take(h:ApZ z w A gh m hm ho rm ro vm vo wr)(hM:m<16):Calls Tryz.prog 23 #[.pointer (some ⟨A.sb,0,none⟩),.int .i64 (idz z:Nat)] wr fun e w'=>∃q,e=.returned (.tuple #[.int .i64 (q:Nat),.int .i64 0])∧ApZ z w A gh (m+1) (hm++[q]) ho rm ro vm vo w'∧q∉hm∧q∉ho∧q<94:=by
 obtain⟨S,h1,h2,h3,h4⟩:=h.at_
 refine(h1.take hM).mono ?_
 rintro e w' ⟨q,S',rfl,hf,q1,q2,q3,q4⟩
 have nw:∀k,k<wr.heap.size→¬S k→¬S' k:=fun k hk hn hs=>(hf.new k hs).elim hn (fun e=>by omega)
 exact⟨q,rfl,⟨⟨S',q1,nw _ h.box.lt h2,fun k hk=>nw k (h.rm.lt k hk).2 (h3 k hk),fun k hk=>nw k (h.ro.lt k hk).2 (h4 k hk)⟩,h.box.growx hf.grow h2,h.rm.mono hf.grow h3,h.ro.mono hf.grow h4,h.ne,h.nm,h.no,h.ge⟩,q2,q3,q4⟩
theorem ApZ.give{p:Nat}{hr:List Nat}(h:ApZ z w A gh m (p::hr) ho rm ro vm vo wr)(hM:m<16):Calls Tryz.prog 24 #[.pointer (some ⟨A.sb,0,none⟩),.int .i64 (idz z:Nat),.int .i64 (p:Nat)] wr fun e w'=>e=.returned (.int .i64 0)∧ApZ z w A gh (m+1) hr ho rm ro vm vo w':=by
 obtain⟨S,h1,h2,h3,h4⟩:=h.at_
 refine(h1.give hM).mono ?_
 rintro e w' ⟨S',rfl,hf,q1⟩
 have nw:∀k,k<wr.heap.size→¬S k→¬S' k:=fun k hk hn hs=>(hf.new k hs).elim hn (fun e=>by omega)
 exact⟨rfl,⟨⟨S',q1,nw _ h.box.lt h2,fun k hk=>nw k (h.rm.lt k hk).2 (h3 k hk),fun k hk=>nw k (h.ro.lt k hk).2 (h4 k hk)⟩,h.box.growx hf.grow h2,h.rm.mono hf.grow h3,h.ro.mono hf.grow h4,h.ne,h.nm,h.no,h.ge⟩⟩
theorem ApZ.app{v':Value}{r':List Nat}(h:ApZ z w A gh m hm ho rm ro vm vo wr)(h1:RowO w2 w.heap.size v' (icells r'))(h2:GrowX (fun k=>vm.ownBlock=some k) wr w2)(h3:∀k,v'.ownBlock=some k→vm.ownBlock=some k∨wr.heap.size≤k):
  Box w2 gh (two z vm vo)∧ApZ z w A gh m hm ho r' ro v' vo (w2.setCell ⟨gh,zi z,none⟩ v'):=by
 obtain⟨S,a1,a2,a3,a4⟩:=h.at_
 have b2:=h.box.growx h2 h.nm
 have g3:=growX_setCell w2 gh (zi z) v'
 have hlt:=h.box.lt
 have d2:=a1.grow h2 (fun q hq=>a3 q hq) (fun q hq=>(h.rm.lt q hq).1)
 have d3:=d2.grow g3 (fun q e=>by rw[e];exact a2) (fun q e=>by rw[e];exact h.ge)
 have ng:¬v'.ownBlock=some gh:=fun e=>(h3 gh e).elim h.nm (fun e=>by omega)
 have hb3:=b2.setCell (zi z) v'
 rw[two_set]at hb3
 refine⟨b2,⟨⟨S,d3,a2,fun q e hs=>?_,a4⟩,hb3,h1.mono g3 (fun k e e2=>ng (by rw[e,e2])),(h.ro.mono h2 (fun k e e2=>h.ne k e2 e)).mono g3 (fun k e e2=>h.no (by rw[e,e2])),fun q e e2=>?_,ng,h.no,h.ge⟩⟩
 ·rcases h3 q e with e2|e2
  ·exact a3 q e2 hs
  ·have:=(a1.lt q hs).2;omega
 ·rcases h3 q e with e3|e3
  ·exact h.ne q e3 e2
  ·have:=(h.ro.lt q e2).2;omega
theorem ApZ.len(h:ApZ z w A gh m hm ho rm ro vm vo wr):hm.length≤93∧ho.length≤93:=by
 obtain⟨S,⟨σ,W,xm,xo,Tm,To,h1,h2,h3,h4,h5⟩,_⟩:=h.at_
 have a:=h5.ca
 have b:=h5.cb
 have c:=countP_le' Tm
 have d:=countP_le' To
 rw[h5.na]at c
 rw[h5.nb]at d
 omega
structure EndA(w:World)(A:Adr)(k b t:Nat)(T:List Bool)(r:List Nat)(v:Value)(wr:World):Prop where
 at_:∃S,AftZ w A k b t T S wr∧∀q,v.ownBlock=some q→¬S q
 row:RowO wr w.heap.size v (icells r)
 len:T.length=94
 cnt:T.countP id=1+r.length
 all:∀p∈r,p<94∧T.getD p false=true
variable{k b t:Nat}{T:List Bool}{r:List Nat}{v:Value}
theorem AftZ.bel{S:Nat→Prop}(h:AftZ w A k b t T S wr):Below w.heap.size w wr:=by
 obtain⟨σ,W,h1,_⟩:=h.at_
 exact h1.bel
theorem EndA.bel(h:EndA w A k b t T r v wr):Below w.heap.size w wr:=by
 obtain⟨S,h1,_⟩:=h.at_
 exact h1.bel
theorem EndA.step{S S':Nat→Prop}{k' b' t':Nat}{w':World}(h:EndA w A k b t T r v wr)(hS:∀q,v.ownBlock=some q→¬S q)(hf:Foot S S' wr w')(h2:AftZ w A k' b' t' T S' w'):EndA w A k' b' t' T r v w':=
 ⟨⟨S',h2,fun q e hs=>(hf.new q hs).elim (hS q e) (fun e2=>by have:=(h.row.lt q e).2;omega)⟩,h.row.mono hf.grow hS,h.len,h.cnt,h.all⟩
theorem ApZ.back(h:ApZ z w A gh m hm ho rm ro vm vo wr)(he:ro=ho)(hM:m≤16):Calls Tryz.prog 30 #[.pointer (some ⟨A.sb,0,none⟩),.int .i64 (idz z:Nat)] wr fun e w'=>∃T,e=.returned (.int .i64 0)∧EndA w A 1000 5000 (idz (!z)) T ho vo w':=by
 obtain⟨S,h1,h2,h3,h4⟩:=h.at_
 refine(h1.back hM).mono ?_
 rintro e w' ⟨S',T,rfl,hf,q1,q2,q3,q4⟩
 subst he
 exact⟨T,rfl,⟨S',q1,fun q e hs=>(hf.new q hs).elim (h4 q e) (fun e2=>by have:=(h.ro.lt q e).2;omega)⟩,h.ro.mono hf.grow h4,q2,q3,q4⟩
theorem EndA.commit(h:EndA w A k b t T r v wr)(ht:1≤t)(hk:k≤900000)(hb:b+96+2048≤14986):Calls Tryz.prog 29 #[.pointer (some ⟨A.sb,0,none⟩),.int .i64 (t:Nat)] wr fun e w'=>e=.returned (.int .i64 0)∧EndA w A (k+3) (b+96) 0 T r v w':=by
 obtain⟨S,h1,h2⟩:=h.at_
 refine(h1.commit ht hk hb).mono ?_
 rintro e w' ⟨S',rfl,hf,h3⟩
 exact⟨rfl,h.step h2 hf h3⟩
theorem EndA.count(h:EndA w A k b 0 T r v wr)(hk:k≤900000):Calls Tryz.prog 26 #[.pointer (some ⟨A.sb,0,none⟩)] wr fun e w'=>e=.returned (.tuple #[.int .i64 ((1+r.length:Nat):Nat),.int .i64 0])∧EndA w A (k+1) b 0 T r v w':=by
 obtain⟨S,h1,h2⟩:=h.at_
 refine(h1.count hk h.len).mono ?_
 rintro e w' ⟨S',rfl,hf,h3⟩
 exact⟨by rw[h.cnt],h.step h2 hf h3⟩
theorem EndA.taken(h:EndA w A k b 0 T r v wr)(hk:k≤900000){j p:Nat}(hp:r[j]? = some p):Calls Tryz.prog 25 #[.pointer (some ⟨A.sb,0,none⟩),.int .i64 (p:Nat)] wr fun e w'=>e=.returned (.tuple #[.bool true,.int .i64 0])∧EndA w A (k+1) b 0 T r v w':=by
 obtain⟨S,h1,h2⟩:=h.at_
 obtain⟨a1,a2⟩:=h.all p (List.mem_of_getElem? hp)
 refine(h1.taken hk h.len p a1 a2).mono ?_
 rintro e w' ⟨S',rfl,hf,h3⟩
 exact⟨rfl,h.step h2 hf h3⟩
end
end
end Go.Proofs.YtpajagkhmodbnaaGreat

/- Pr: texts of the store seat laid together by program: Parts PartsX PartsG NKit. Conditions: each theorem names its own. -/
import Derived.Test.YtpajagkhmodbnaaGreatPr0
import Derived.Orders
import Derived.ArgAppend
namespace Go.Proofs.YtpajagkhmodbnaaGreat
set_option linter.unusedSimpArgs false
set_option linter.unusedVariables false
section
open Go.RowKit
def Grow(w w':World):Prop:=Below w.heap.size w w'
theorem Grow.refl(w:World):Grow w w:=Below.refl _ _
theorem Grow.trans{a b c:World}(h:Grow a b)(k:Grow b c):Grow a c:=Below.trans h (k.mono h.size)
theorem Grow.alloc{a w:World}(h:Grow a w)(o:Obj):Grow a (w.alloc o):=Below.alloc h h.size o
def acts(l:List Oper)(vs:Nat->Value)(js:List Nat)(a:Act):Act:=js.foldl (fun a j=>a.put ((l[j]?).bind (·.dst)) (vs j)) a
def direct(o:Oper):List Nat:=(o.after.toList.filter (Region.binds .any)).map (·.on)
def xE (l:List Oper) (N:Nat) (bs:List (List Nat)):Bool:=
 decide (N<=l.length)&&(l.all fun o=>match o.op with | .select .. => false|_=>true) &&
 (List.range l.length).all fun i=>match l[i]? with
  | none=>false
  | some o=>(direct o).all (fun k=>decide (k<i)) &&
   (if i<N then
    (bs.getD i []).all (fun j=>decide (j<N)&&(direct o).any (fun k=>decide (k<N)&&(k==j || (bs.getD k []).contains j))) &&
    (List.range N).all (fun j=>j==i || match (l[j]?).bind (·.dst)with
     | none=>true
     | some d=>o.dst != some d&&(!(o.looksAt l.toArray).contains d || (bs.getD i []).contains j))
    && (match o.dst with|none=>true|some d=>!(o.looksAt l.toArray).contains d)
   else(List.range i).all (fun j=>(direct o).contains j || (direct o).any (fun k=>decide (k<N)&&decide (j<N)&&(bs.getD k []).contains j) || (decide (N<i)&&(direct o).contains (i-1))))
theorem NU(a:Act)(d:Option Tmp)(v:Value):(a.put d v).tmps.size=a.tmps.size:=by cases d<;>simp[Act.put]
theorem put_defers(a:Act)(d:Option Tmp)(v:Value):(a.put d v).defers=a.defers:=by cases d<;>rfl
theorem qQ(l:List Oper)(vs:Nat->Value)(js:List Nat)(a:Act):(acts l vs js a).tmps.size=a.tmps.size:=by
 induction js generalizing a with
 | nil=>rfl
 | cons j js ih=>show(acts l vs js _).tmps.size=_;rw[ih,NU]
theorem Fv(l:List Oper)(vs:Nat->Value)(js:List Nat)(a:Act):(acts l vs js a).defers=a.defers:=by
 induction js generalizing a with
 | nil=>rfl
 | cons j js ih=>show(acts l vs js _).defers=_;rw[ih,put_defers]
theorem MP(a:Act)(d:Option Tmp)(v:Value)(t:Nat)(h:d≠some t):(a.put d v).tmps[t]? = a.tmps[t]? := by
 cases d with
 | none=>rfl
 | some d=>
  have hne:d≠t:=fun e=>h (by rw[e]);simp[Act.put,Array.getElem?_setIfInBounds_ne hne]
theorem xG(a:Act)(v:Value)(t:Nat)(h:t<a.tmps.size):(a.put (some t) v).tmps[t]? = some v:=by
 simp[Act.put,h]
theorem lK(l:List Oper)(vs:Nat->Value)(js:List Nat)(a:Act)(t:Nat)(h:∀j∈js,(l[j]?).bind (·.dst)≠some t):
  (acts l vs js a).tmps[t]? = a.tmps[t]? := by
 induction js generalizing a with
 | nil=>rfl
 | cons j js ih=>
  show(acts l vs js _).tmps[t]? = _;rw[ih _ (fun k hk=>h k (List.mem_cons_of_mem _ hk)),MP _ _ _ _ (h j List.mem_cons_self)]
theorem qy(l:List Oper)(vs:Nat->Value)(js:List Nat)(a:Act)(t:Nat)(ht:t<a.tmps.size)(j:Nat)(hj:j∈js)(hd:(l[j]?).bind (·.dst)=some t)
  (hu:∀k∈js,(l[k]?).bind (·.dst)=some t->k=j):(acts l vs js a).tmps[t]? = some (vs j):=by
 induction js generalizing a with
 | nil=>cases hj
 | cons k js ih=>
  show(acts l vs js _).tmps[t]? = _;by_cases hin:j∈js
  ·exact ih _ (by rw[NU];exact ht) hin (fun k hk=>hu k (List.mem_cons_of_mem _ hk))
  ·have hk:j=k:=by
    cases List.mem_cons.1 hj with
    | inl e=>exact e
    | inr e=>exact absurd e hin
   subst hk;rw[lK _ _ _ _ _ (fun k hk he=>hin (hu k (List.mem_cons_of_mem _ hk) he▸hk))];show(a.put ((l[j]?).bind (·.dst)) (vs j)).tmps[t]? = _;rw[hd,xG _ _ _ ht]
theorem ae6{a b:Act}(h:∀t:Nat,a.tmps[t]? = b.tmps[t]?)(hd:a.defers=b.defers):a=b:=by
 obtain⟨t,d⟩:=a;obtain⟨t',d'⟩:=b;simp only at hd;subst hd;have:t=t':=Array.ext_getElem? h;rw[this]
theorem AV(l:List Oper)(vs vs':Nat->Value)(js ks:List Nat)(a:Act)(hm:∀j,j∈js↔j∈ks)(hv:∀j∈js,vs j=vs' j)
  (hu:∀j∈js,∀k∈js,∀t,(l[j]?).bind (·.dst)=some t->(l[k]?).bind (·.dst)=some t->k=j):acts l vs js a=acts l vs' ks a:=by
 refine ae6 (fun t=>?_) (by rw[Fv,Fv]);by_cases h:∃j∈js,(l[j]?).bind (·.dst)=some t
 ·obtain⟨j,hj,hd⟩:=h;by_cases ht:t<a.tmps.size
  ·rw[qy l vs js a t ht j hj hd (fun k hk he=>hu j hj k hk t hd he),qy l vs' ks a t ht j ((hm j).1 hj) hd (fun k hk he=>hu j hj k ((hm k).2 hk) t hd he),hv j hj]
  ·rw[Array.getElem?_eq_none (by rw[qQ];omega),Array.getElem?_eq_none (by rw[qQ];omega)]
 ·rw[lK l vs js a t (fun j hj he=>h ⟨j,hj,he⟩),lK l vs' ks a t (fun j hj he=>h ⟨j,(hm j).2 hj,he⟩)]
theorem aaP{a b:Act}{d:Option Tmp}{v v':Value}(hs:a.tmps.size=b.tmps.size)(h:a.put d v=a.put d v'):b.put d v=b.put d v':=by
 cases d with
 | none=>rfl
 | some d=>
  by_cases hd:d<a.tmps.size
  ·have h1:=xG a v d hd;have h2:=xG a v' d hd;rw[h,h2]at h1;rw[Option.some.inj h1]
  ·have hd':¬d<b.tmps.size:=hs▸hd;have key:∀u:Value,b.put (some d) u=b:=fun u=>by
    simp only[Act.put];rw[Array.setIfInBounds_eq_of_size_le (Nat.le_of_not_lt hd')]
   rw[key,key]
theorem AX{ops:Array Oper}{listed:Array Bool}{i:Nat}(h:i∈Region.ready .any ops listed)(hsz:listed.size=ops.size):
  ∃o,ops[i]? = some o/\listed[i]? = some false/\∀k∈direct o,listed.getD k false=true:=by
 simp only[Region.ready,List.mem_filter,List.mem_range,Bool.and_eq_true]at h;obtain⟨hi,h1,h2⟩:=h;have hi':i<listed.size:=by omega
 refine⟨ops[i],by simp[hi],?_,?_⟩
 ·simp[hi']at h1⊢;exact h1
 ·simp[hi]at h2;intro k hk;simp only[direct,List.mem_map,List.mem_filter]at hk;obtain⟨e,⟨he,hb⟩,rfl⟩:=hk;obtain⟨j,hj,rfl⟩:=Array.getElem_of_mem (by simpa using he:e∈ops[i].after);have:=h2 j hj;simpa[hb]using this
theorem ready_nil{ops:Array Oper}{listed:Array Bool}(hsz:listed.size=ops.size)(hlex:∀(i:Nat) o,ops[i]? = some o->∀k∈direct o,k<i)
  (h:Region.ready .any ops listed=[]):∀i,i<ops.size->listed.getD i false=true:=by
 intro i
 induction i using Nat.strongRecOn with
 | _ i ih=>
  intro hi;apply Classical.byContradiction;intro hc;have hi':i<listed.size:=by omega
  have hmem:i∈Region.ready .any ops listed:=by
   simp only[Region.ready,List.mem_filter,List.mem_range,Bool.and_eq_true];refine⟨hi,?_,?_⟩
   ·simp[hi']at hc⊢;exact hc
   ·simp[hi];intro j hj;by_cases hb:Region.binds .any ops[i].after[j]=true
    ·have hk:(ops[i].after[j]).on∈direct ops[i]:=by
      simp only[direct,List.mem_map,List.mem_filter];exact⟨ops[i].after[j],⟨by simp,hb⟩,rfl⟩
     have hlt:=hlex i ops[i] (by simp[hi]) _ hk;have:=ih _ hlt (by omega);right;simpa using this
    ·left;simpa using hb
  rw[h]at hmem;cases hmem
theorem NV{l:List Oper}{N:Nat}{bs:List (List Nat)}(h:xE l N bs=true):
  N<=l.length/\(∀o∈l,∀cs b,o.op≠.select cs b)/\(∀(i:Nat) o,l[i]? = some o->∀k∈direct o,k<i)/\
  (∀(i:Nat) o,l[i]? = some o->i<N->∀j∈bs.getD i [],j<N/\∃k∈direct o,k<N/\(k=j\/j∈bs.getD k []))/\
  (∀(i:Nat) o,l[i]? = some o->i<N->∀j,j<N->j≠i->∀d,(l[j]?).bind (·.dst)=some d->o.dst≠some d/\(d∈o.looksAt l.toArray->j∈bs.getD i []))/\
  (∀(i:Nat) o,l[i]? = some o->i<N->∀d,o.dst=some d->d∉o.looksAt l.toArray)/\
  (∀(i:Nat) o,l[i]? = some o->N<=i->∀j,j<i->j∈direct o\/(j<N/\∃k∈direct o,k<N/\j∈bs.getD k [])\/(N<i/\i-1∈direct o)):=by
 simp only[xE,Bool.and_eq_true,decide_eq_true_eq,List.all_eq_true,List.mem_range]at h;obtain⟨⟨hN,hsel⟩,hall⟩:=h;have at_:∀(i:Nat) o,l[i]? = some o->i<l.length:=fun i o h=>(List.getElem?_eq_some_iff.1 h).1;refine⟨hN,?_,?_,?_,?_,?_,?_⟩
 ·intro o ho cs b e;have:=hsel o ho;rw[e]at this;cases this
 ·intro i o hi k hk;have:=hall i (at_ i o hi);simp only[hi,Bool.and_eq_true,List.all_eq_true,decide_eq_true_eq]at this;exact this.1 k hk
 ·intro i o hi hlt j hj;have:=hall i (at_ i o hi);simp only[hi,hlt,if_true,Bool.and_eq_true,List.all_eq_true,decide_eq_true_eq,List.any_eq_true,Bool.or_eq_true,beq_iff_eq,List.contains_iff_mem]at this;obtain⟨h1,k,hk,h2,h3⟩:=this.2.1.1 j hj;exact⟨h1,k,hk,h2,h3⟩
 ·intro i o hi hlt j hj hne d hd;have:=hall i (at_ i o hi);simp only[hi,hlt,if_true,Bool.and_eq_true,List.all_eq_true,decide_eq_true_eq,List.mem_range]at this;have h1:=this.2.1.2 j hj;rw[hd]at h1;simp only[Bool.or_eq_true,beq_iff_eq,Bool.and_eq_true,bne_iff_ne,Bool.not_eq_true',List.contains_iff_mem]at h1;rcases h1 with h1|⟨h1,h2⟩
  ·exact absurd h1 hne
  ·refine⟨h1,fun hm=>?_⟩;rcases h2 with h2|h2
   ·exact absurd hm (by simpa using h2)
   ·exact h2
 ·intro i o hi hlt d hd hm;have:=hall i (at_ i o hi);simp only[hi,hlt,if_true,Bool.and_eq_true]at this;have h1:=this.2.2;rw[hd]at h1;exact absurd hm (by simpa using h1)
 ·intro i o hi hge j hj;have:=hall i (at_ i o hi);simp only[hi,show ¬i<N by omega,if_false,Bool.and_eq_true,List.all_eq_true,List.mem_range,List.contains_iff_mem,Bool.or_eq_true,List.any_eq_true,decide_eq_true_eq]at this;rcases this.2 j hj with (h|⟨k,hk,⟨h1,h2⟩,h3⟩)|⟨h1,h3⟩
  ·exact .inl h
  ·exact .inr (.inl ⟨h2,k,hk,h1,h3⟩)
  ·exact .inr (.inr ⟨h1,h3⟩)
theorem NW{P:Program}{l:List Oper}{N:Nat}{Q:Exit->Act->World->Prop}
  (hlex:∀(i:Nat) o,l[i]? = some o->∀k∈direct o,k<i) (htail:∀(i:Nat) o,l[i]? = some o->N<i->i-1∈direct o):
  ∀(fuel k:Nat)(listed:Array Bool)(a:Act)(w:World),k+fuel=l.length->N<=k->listed.size=l.length->(∀i,i<l.length->(listed[i]? = some true↔i<k))->
   wpList P l.toArray Q (l.drop k) a w->wpAny P .any l.toArray Q fuel listed a w:=by
 intro fuel
 induction fuel with
 | zero=>
  intro k listed a w hk hN hsz hl h;rw[List.drop_eq_nil_of_le (by omega)]at h;refine⟨?_,h⟩;apply List.eq_nil_iff_forall_not_mem.2;intro i hi;obtain⟨o,ho,hf,_⟩:=AX hi (by simpa using hsz);have hlt:i<l.length:=by simp at ho;exact(List.getElem?_eq_some_iff.1 ho).1
  have:=(hl i hlt).2 (by omega);rw[this]at hf;cases hf
 | succ fuel ih=>
  intro k listed a w hk hN hsz hl h;have hkl:k<l.length:=by omega
  rw[List.drop_eq_getElem_cons hkl]at h;refine⟨fun hnil=>?_,fun i hi=>?_⟩
  ·have:=ready_nil (ops:=l.toArray) (by simpa using hsz) (fun i o ho=>hlex i o (by simpa using ho)) hnil k (by simpa using hkl);have hk2:k<listed.size:=by omega
   simp[hk2]at this;have h2:=(hl k hkl).1 (by simp[hk2,this]);omega
  ·obtain⟨o,ho,hf,hd⟩:=AX hi (by simpa using hsz);have ho':l[i]? = some o:=by simpa using ho
   have hlt:i<l.length:=(List.getElem?_eq_some_iff.1 ho').1;have hki:k=i:=by
    have h1:¬i<k:=fun hc=>by have:=(hl i hlt).2 hc;rw[this]at hf;cases hf
    rcases Nat.lt_or_ge k i with h2|h2
    ·have:=hd (i-1) (htail i o ho' (by omega));have hk2:i-1<listed.size:=by omega
     simp[hk2]at this;have h3:=(hl (i-1) (by omega)).1 (by simp[hk2,this]);omega
    ·omega
   subst hki;have hgo:l[k]=o:=by have:=List.getElem?_eq_getElem hkl;rw[ho']at this;exact(Option.some.inj this).symm
   rw[hgo]at h;have hnext:∀a w,wpList P l.toArray Q (l.drop (k+1)) a w->wpAny P .any l.toArray Q fuel (listed.setIfInBounds k true) a w:=by
    intro a w h;refine ih (k+1) _ a w (by omega) (by omega) (by simpa using hsz) (fun i hi=>?_) h;by_cases e:k=i
    ·subst e;simp[show k<listed.size by omega]
    ·rw[Array.getElem?_setIfInBounds_ne e,hl i hi];omega
   unfold wpOp;simp only[ho];unfold wpList at h;split
   ·rename_i hw;rw[if_pos hw]at h;exact h.imp (Oper.wp_mono hnext) id
   ·rename_i hw;rw[if_neg hw]at h;exact hnext _ _ h
def ak(ds:List (Option Tmp))(vs:Nat->Value)(js:List Nat)(a:Act):Act:=js.foldl (fun a j=>a.put (ds.getD j none) (vs j)) a
theorem Gq(l:List Oper)(vs:Nat->Value)(js:List Nat)(a:Act):ak (l.map (·.dst)) vs js a=acts l vs js a:=by
 unfold ak acts;congr 1;funext a j;congr 1;rw[List.getD_eq_getElem?_getD,List.getElem?_map];cases l[j]? <;> rfl
end
section
open Go.RowKit
structure aj(X:Nat->Prop)(w w':World):Prop where
 os:w'.os=w.os
 tape:w'.tape=w.tape
 output:w'.output=w.output
 size:w.heap.size<=w'.heap.size
 block:∀k,k<w.heap.size->¬X k->w'.heap[k]? = w.heap[k]?
theorem aj.refl{X:Nat->Prop}(w:World):aj X w w:=⟨rfl,rfl,rfl,Nat.le_refl _,fun _ _ _=>rfl⟩
theorem aj.trans{X:Nat->Prop}{a b c:World}(h:aj X a b)(k:aj X b c):aj X a c:=
 ⟨k.os.trans h.os,k.tape.trans h.tape,k.output.trans h.output,Nat.le_trans h.size k.size,fun i hi hx=>(k.block i (Nat.lt_of_lt_of_le hi h.size) hx).trans (h.block i hi hx)⟩
theorem aj.bK{X:Nat->Prop}{a b:World}(h:Grow a b):aj X a b:=⟨h.os,h.tape,h.output,h.size,fun i hi _=>h.block i hi⟩
theorem aj.below{X:Nat->Prop}{B:Nat}{a b:World}(h:aj X a b)(hB:∀k,k<B->k<a.heap.size/\¬X k):Below B a b:=
 ⟨h.os,h.tape,h.output,h.size,fun k hk=>h.block k (hB k hk).1 (hB k hk).2⟩
end
section
open Go.RowKit
structure VH(G:(Nat->Prop)->World->World->Prop)(g:Nat->World->World->Prop):Prop where
 refl:∀p w,G p w w
 trans:∀ {p a b c},G p a b->G p b c->G p a c
 mono:∀{p q:Nat->Prop} {a b},(∀j,p j->q j)->G p a b->G q a b
 size:∀ {p a b},G p a b->a.heap.size<=b.heap.size
 one:∀ {j a b},g j a b->G (fun k=>k=j) a b
 drew:∀ {p w w'},G p w.drew w'->G p w w'
def xH(g:World->World->Prop)(ai:Act)(dst:Option Tmp)(w0:World)(R:Value->Nat->Nat->World->Prop):Exit->Act->World->Prop
 | .normal,a',w'=>∃v,a'=ai.put dst v/\g w0 w'/\R v w0.heap.size w'.heap.size w'
 | _,_,_=>False
theorem Yz{g:World->World->Prop}{P:Program}{ops:Array Oper}{o:Oper}{ai aS:Act}{w:World}{R:Value->Nat->Nat->World->Prop}{Q:Exit->Act->World->Prop}{K:Act->World->Prop}{i:Nat}
  (hi:ops[i]? = some o) (hs:∀cs b,o.op≠.select cs b) (hsize:ai.tmps.size=aS.tmps.size)
  (hag:∀t∈o.looksAt ops,ai.tmps[t]? = aS.tmps[t]?)
  (h:wpList P ops (xH g ai o.dst w R) [o] ai w) (hK:∀v w',g w w'->R v w.heap.size w'.heap.size w'->K (aS.put o.dst v) w'):wpOp P ops Q i K aS w:=by
 have he:execOp aS.eval o=execOp ai.eval o:=execOp_congr o hs (fun x hx=>by
  cases x with
  | tmp t=>
   have:=hag t (List.mem_append_left _ (List.mem_filterMap.2 ⟨.tmp t,by simpa using hx,rfl⟩));simp only[Act.eval];simp only[Array.getD_eq_getD_getElem?,this]
  | _=>rfl)
 have hw:Region.wanted o (yielded ops aS.tmps)=Region.wanted o (yielded ops ai.tmps):=by
  unfold Region.wanted;cases hg:o.guard with
  | none=>rfl
  | some gw=>
   obtain⟨g,want⟩:=gw;have hy:yielded ops aS.tmps g=yielded ops ai.tmps g:=by
    unfold yielded;cases ht:(ops[g]?).bind (·.dst)with
    | none=>rfl
    | some t=>
     have:=hag t (by simp[Oper.looksAt,hg,ht]);simp[this]
   simp only[hy]
 have fin:∀v w',xH g ai o.dst w R .normal (ai.put o.dst v) w'->K (aS.put o.dst v) w':=by
  rintro v w' ⟨v',e,hg,hr⟩;rw[aaP hsize e];exact hK v' w' hg hr
 unfold wpOp;simp only[hi];rw[hw];unfold wpList at h;split
 ·rename_i hwant;rw[if_pos hwant]at h;rcases h with h|⟨_,a,w',h⟩
  case inr=>exact h.elim
  refine .inl ?_;unfold Oper.wp at *;rw[he];generalize (execOp ai.eval o).run P w=r at *;cases r with
  | ok n w'=>
   cases n<;>simp only[Oper.upon]at h⊢
   case value v=>exact fin v w' h
   case skip=>exact fin _ w' h
   case defer d=>
    obtain⟨v',e,_⟩:=h;have:=congrArg (fun a=>a.defers.length) e;simp[put_defers]at this
   case enter f args=>
    refine Calls.mono h (fun e w'' he=>?_);cases e with
    | returned v=>exact fin v w'' he
    | panicked c=>exact he.elim
    | outgrown=>obtain⟨_,_,h⟩:=he;exact h.elim
   case row r args=>exact Rows.mono h (fun v w'' he=>fin v w'' he)
  | halt x w'=>cases x<;>simp only[Oper.upon]at h⊢ <;> exact h.elim
 ·rename_i hwant;rw[if_neg hwant]at h;exact fin _ w h
theorem mG {G:(Nat->Prop)->World->World->Prop} {g:Nat->World->World->Prop} (hG:VH G g) {P:Program} {id:Nat} {l:List Oper} {Q:Exit->Act->World->Prop} {a:Act} {w:World} (N:Nat) (bs:List (List Nat)) (ds:List (Option Tmp)) (ne:Nat->Nat->Prop) (tl:Nat->Prop) (ex:Nat->Nat->Prop) (aoB:∀k j,k<N->ne k j->j∈bs.getD k []) (aoC:∀i j,ex i j->¬tl i/\∀k,k<N->ne k i->k=j\/k∈bs.getD j []) (hm:P.follows .mixedOrders=true) (hB:xE l N bs=true)
  (hds:l.map (·.dst)=ds) (Post:Nat->(Nat->Value)->(Nat->Nat)->(Nat->Nat)->Value->Nat->Nat->World->Prop) (JD:∀i,i<N->∀vs vs' lo lo' hi hi' v l h w,(∀j∈bs.getD i [],vs j=vs' j/\lo j=lo' j/\hi j=hi' j)->Post i vs lo hi v l h w->Post i vs' lo' hi' v l h w) (stable:∀i j,i<N->j<N->j≠i->j∉bs.getD i []->¬ex i j->∀vs lo hi v l h w w',Post i vs lo hi v l h w->g j w w'->Post i vs lo hi v l h w')
  (parts:∀i,i<N->∀o,l[i]? = some o->∀(vs:Nat->Value)(lo hi:Nat->Nat)(w':World),G (fun j=>j<N/\j≠i/\i∉bs.getD j []) w w'->(∀j,ne i j->w.heap.size<=lo j/\lo j<=hi j/\hi j<=w'.heap.size/\Post j vs lo hi (vs j) (lo j) (hi j) w')->(∀p∈bs.getD i [],∀q∈bs.getD i [],p≠q->hi p<=lo q\/hi q<=lo p)->
   wpList P l.toArray (xH (g i) (ak ds vs (bs.getD i []) a) o.dst w' (Post i vs lo hi)) [o] (ak ds vs (bs.getD i []) a) w')
  (tail:∀(vs:Nat->Value)(lo hi:Nat->Nat)(w':World),G (fun j=>j<N) w w'->(∀j,j<N->w.heap.size<=lo j/\lo j<=hi j/\hi j<=w'.heap.size/\(tl j->Post j vs lo hi (vs j) (lo j) (hi j) w'))->(∀i j,i<N->j<N->i≠j->hi i<=lo j\/hi j<=lo i)->wpList P l.toArray Q (l.drop N) (ak ds vs (List.range N) a) w'):
  (Code.region id l.toArray true).wp P Q a w:=by
 subst hds;obtain⟨hN,hsel,hlex,hbs,hdst,hself,htail⟩:=NV hB;have htail':∀(i:Nat) o,l[i]? = some o->N<i->i-1∈direct o:=fun i o ho hi=>(htail i o ho (by omega) (i-1) (by omega)).elim (fun h=>h) (fun h=>h.elim (fun h=>absurd h.1 (by omega)) (fun h=>h.2));refine wp_region_any hm ?_;have uniq:∀(D:List Nat),(∀j∈D,j<N)->∀j∈D,∀k∈D,∀t,(l[j]?).bind (·.dst)=some t->(l[k]?).bind (·.dst)=some t->k=j:=by
  intro D hD j hj k hk t h1 h2;apply Classical.byContradiction;intro hne;have hjl:j<l.length:=by have:=hD j hj;omega
  have hlj:l[j]? = some l[j]:=List.getElem?_eq_getElem hjl;have:=(hdst j l[j] hlj (hD j hj) k (hD k hk) hne t h2).1;rw[hlj]at h1;exact this h1
 -- what holds while operations of the first N are left
 have key:∀(fuel:Nat)(listed:Array Bool)(b:Act)(w':World)(D:List Nat)(vs:Nat->Value)(lo hi:Nat->Nat),listed.size=l.length->(∀j,j∈D↔j<N/\listed[j]? = some true)->D.length+fuel=l.length->D.Nodup->
   (∀i,N<=i->i<l.length->listed[i]? = some false)->(∀j∈D,∀k∈bs.getD j [],k∈D)->b=acts l vs D a->G (fun j=>j∈D) w.drew w'->(∀j∈D,w.heap.size<=lo j/\lo j<=hi j/\hi j<=w'.heap.size/\((tl j\/∃k,k<N/\k∉D/\ne k j)->Post j vs lo hi (vs j) (lo j) (hi j) w'))->(∀i∈D,∀j∈D,i≠j->hi i<=lo j\/hi j<=lo i)->
   wpAny P .any l.toArray Q fuel listed b w':=by
  intro fuel
  induction fuel with
  | zero=>
   intro listed b w' D vs lo hi hsz nJ hlen hnd htl hcl hb hg hpost hdis
   -- all are done: then N is the whole
   have hDN:D.length<=N:=by
    have h1:=hnd.length_le_of_subset (fun j hj=>List.mem_range.2 ((nJ j).1 hj).1:D ⊆ List.range N);simpa using h1
   have hNl:N=l.length:=by omega
   have hall:∀j,j<N->j∈D:=by
    intro j hj;apply Classical.byContradiction;intro hc;have h1:=(List.nodup_cons.2 ⟨hc,hnd⟩).length_le_of_subset (fun k hk=>List.mem_range.2 (by
     rcases List.mem_cons.1 hk with rfl|hk
     ·exact hj
     ·exact((nJ k).1 hk).1):(j::D) ⊆ List.range N)
    simp at h1;omega
   refine NW (N:=N) hlex htail' 0 N listed b w' (by omega) (Nat.le_refl _) hsz (fun i hi=>⟨fun _=>by omega,fun h=>((nJ i).1 (hall i h)).2⟩) ?_;have hE:b=acts l vs (List.range N) a:=by
    rw[hb];exact AV l vs vs D (List.range N) a (fun j=>⟨fun h=>List.mem_range.2 ((nJ j).1 h).1,fun h=>hall j (List.mem_range.1 h)⟩) (fun _ _=>rfl) (uniq D (fun j hj=>((nJ j).1 hj).1))
   rw[hE];have h9:=tail vs lo hi w' (hG.drew (hG.mono (fun j h=>((nJ j).1 h).1) hg)) (fun j hj=>have h:=hpost j (hall j hj);⟨h.1,h.2.1,h.2.2.1,fun ht=>h.2.2.2 (.inl ht)⟩) (fun i j hi hj=>hdis i (hall i hi) j (hall j hj));rw[Gq]at h9;exact h9
  | succ fuel ih=>
   intro listed b w' D vs lo hi hsz nJ hlen hnd htl hcl hb hg hpost hdis;by_cases hfull:∀j,j<N->j∈D
   ·have hDN:D.length=N:=by
     have h1:D.Perm (List.range N):=by
      refine(List.perm_ext_iff_of_nodup hnd List.nodup_range).2 (fun j=>?_);rw[List.mem_range];exact⟨fun h=>((nJ j).1 h).1,hfull j⟩
     simpa using h1.length_eq
    refine NW (N:=N) hlex htail' (fuel+1) N listed b w' (by omega) (Nat.le_refl _) hsz (fun i hi=>⟨fun h=>?_,fun h=>((nJ i).1 (hfull i h)).2⟩) ?_
    ·apply Classical.byContradiction;intro hc;rw[htl i (by omega) hi]at h;cases h
    ·have hE:b=acts l vs (List.range N) a:=by
      rw[hb];exact AV l vs vs D (List.range N) a (fun j=>⟨fun h=>List.mem_range.2 ((nJ j).1 h).1,fun h=>hfull j (List.mem_range.1 h)⟩) (fun _ _=>rfl) (uniq D (fun j hj=>((nJ j).1 hj).1))
     rw[hE];have h9:=tail vs lo hi w' (hG.drew (hG.mono (fun j h=>((nJ j).1 h).1) hg)) (fun j hj=>have h:=hpost j (hfull j hj);⟨h.1,h.2.1,h.2.2.1,fun ht=>h.2.2.2 (.inl ht)⟩) (fun i j hi hj=>hdis i (hfull i hi) j (hfull j hj));rw[Gq]at h9;exact h9
   ·refine⟨fun hnil=>?_,fun i hir=>?_⟩
    ·exfalso;apply hfull;intro j hj;have:=ready_nil (ops:=l.toArray) (by simpa using hsz) (fun i o ho=>hlex i o (by simpa using ho)) hnil j (by simp;omega);have hj2:j<listed.size:=by omega
     simp[hj2]at this;exact(nJ j).2 ⟨hj,by simp[hj2,this]⟩
    ·obtain⟨o,ho,hf,hd⟩:=AX hir (by simpa using hsz);have ho':l[i]? = some o:=by simpa using ho
     have hlt:i<l.length:=(List.getElem?_eq_some_iff.1 ho').1;have CS:∀k∈direct o,k<N->k∈D:=by
      intro k hk hkN;have:=hd k hk;have hk2:k<listed.size:=by omega
      simp[hk2]at this;exact(nJ k).2 ⟨hkN,by simp[hk2,this]⟩
     have hiN:i<N:=by
      apply Classical.byContradiction;intro hc;refine hfull (fun j hj=>?_);rcases htail i o ho' (by omega) j (by omega)with h|⟨_,k,hk,hkN,h⟩|⟨hNi,hNd⟩
      ·exact CS j h hj
      ·exact hcl k (CS k hk hkN) j h
      ·have h1:=hd (i-1) hNd;have h2:=htl (i-1) (by omega) (by omega);rw[Array.getD_eq_getD_getElem?,h2]at h1;cases h1
     have zZ:i∉D:=fun h=>by have:=((nJ i).1 h).2;rw[this]at hf;cases hf
     have hbD:∀j∈bs.getD i [],j∈D:=by
      intro j hj;obtain⟨_,k,hk,hkN,h⟩:=hbs i o ho' hiN j hj;have YA:=CS k hk hkN;rcases h with rfl|h
      ·exact YA
      ·exact hcl k YA j h
     have hrun:=parts i hiN o ho' vs lo hi w' (hG.drew (hG.mono (fun j h=>⟨((nJ j).1 h).1,(fun e=>zZ (e▸h)),(fun hib=>zZ (hcl j h i hib))⟩) hg)) (fun j hj=>have h:=hpost j (hbD j (aoB i j hiN hj));⟨h.1,h.2.1,h.2.2.1,h.2.2.2 (.inr ⟨i,hiN,zZ,hj⟩)⟩) (fun p hp q hq hpq=>hdis p (hbD p hp) q (hbD q hq) hpq);rw[Gq]at hrun;have hag:∀t∈o.looksAt l.toArray,(acts l vs (bs.getD i []) a).tmps[t]? = b.tmps[t]? := by
      intro t ht;rw[hb];by_cases h:∃j∈D,(l[j]?).bind (·.dst)=some t
      ·obtain⟨j,hj,hdj⟩:=h;have hjN:=((nJ j).1 hj).1;have hji:j≠i:=fun e=>zZ (e▸hj);have hjb:=(hdst i o ho' hiN j hjN hji t hdj).2 ht;by_cases hts:t<a.tmps.size
       ·rw[qy l vs _ a t hts j hjb hdj (fun k hk he=>uniq D (fun j hj=>((nJ j).1 hj).1) j hj k (hbD k hk) t hdj he),
         qy l vs _ a t hts j hj hdj (fun k hk he=>uniq D (fun j hj=>((nJ j).1 hj).1) j hj k hk t hdj he)]
       ·rw[Array.getElem?_eq_none (by rw[qQ];exact Nat.le_of_not_lt hts),Array.getElem?_eq_none (by rw[qQ];exact Nat.le_of_not_lt hts)]
      ·rw[lK l vs _ a t (fun j hj he=>h ⟨j,hbD j hj,he⟩),lK l vs _ a t (fun j hj he=>h ⟨j,hj,he⟩)]
     refine Yz (ops:=l.toArray) ho (hsel o (List.mem_of_getElem? ho')) (by rw[qQ,hb,qQ]) hag hrun ?_;intro v w2 hg2 hp2;replace hg2:=And.intro hg2 (hG.one hg2);refine ih _ _ w2 (i::D) (fun k=>if k=i then v else vs k) (fun k=>if k=i then w'.heap.size else lo k) (fun k=>if k=i then w2.heap.size else hi k) (by simpa using hsz) (fun j=>?_) (by simp;omega) (List.nodup_cons.2 ⟨zZ,hnd⟩) (fun k hk hkl=>?_) (fun j hj k hk=>?_) ?_ (hG.trans (hG.mono (fun j h=>List.mem_cons_of_mem _ h) hg) (hG.mono (fun j h=>List.mem_cons.2 (.inl h)) hg2.2)) (fun j hj=>?_) (fun p hp q hq hpq=>?_)
     ·rw[List.mem_cons,nJ];by_cases e:i=j
      ·subst e;simp[show i<listed.size by omega,hiN]
      ·rw[Array.getElem?_setIfInBounds_ne e];constructor
       ·rintro(h|h)
        ·exact absurd h.symm e
        ·exact h
       ·exact .inr
     ·rw[Array.getElem?_setIfInBounds_ne (by omega)];exact htl k hk hkl
     ·rcases List.mem_cons.1 hj with rfl|hj
      ·exact List.mem_cons_of_mem _ (hbD k hk)
      ·exact List.mem_cons_of_mem _ (hcl j hj k hk)
     ·have h1:acts l (fun k=>if k=i then v else vs k) (D++[i]) a=b.put o.dst v:=by
       unfold acts;rw[List.foldl_append];have h2:acts l (fun k=>if k=i then v else vs k) D a=b:=by
        rw[hb];exact AV l _ _ D D a (fun _=>Iff.rfl) (fun j hj=>if_neg (fun e:j=i=>zZ (e▸hj))) (uniq D (fun j hj=>((nJ j).1 hj).1))
       unfold acts at h2;rw[h2];simp[ho']
      rw[<-h1];refine AV l _ _ _ _ a (fun j=>by simp;exact Or.comm) (fun _ _=>rfl) (uniq (D++[i]) (fun j hj=>?_));rcases List.mem_append.1 hj with hj|hj
      ·exact((nJ j).1 hj).1
      ·simp at hj;omega
     ·rcases List.mem_cons.1 hj with rfl|hj
      ·have h1:=hG.size hg;have h2:=hG.size hg2.2;simp only[if_true];exact⟨h1,h2,Nat.le_refl _,fun _=>JD _ hiN vs _ lo _ hi _ _ _ _ _ (fun q hq=>by have h:=hbD q hq;have hne:¬q=j:=fun e=>zZ (e▸h);simp only[if_neg hne,and_self]) hp2⟩
      ·have hne:j≠i:=fun e=>zZ (e▸hj);obtain⟨h1,h2,h3,h4⟩:=hpost j hj;have h5:=hG.size hg2.2;simp only[if_neg hne];refine⟨h1,h2,by omega,fun hw=>JD j ((nJ j).1 hj).1 vs _ lo _ hi _ _ _ _ _ (fun q hq=>by have h:=hcl j hj q hq;have hne:¬q=i:=fun e=>zZ (e▸h);simp only[if_neg hne,and_self]) (stable j i ((nJ j).1 hj).1 hiN (fun e=>zZ (e▸hj)) (fun hib=>zZ (hcl j hj i hib)) (fun hx=>?_) _ _ _ _ _ _ _ _ (h4 (hw.imp (fun h=>h) (fun⟨k,a,b,c⟩=>⟨k,a,fun h=>b (List.mem_cons_of_mem _ h),c⟩))) hg2.1)⟩;obtain⟨hx1,hx2⟩:=aoC j i hx;rcases hw with hw|⟨k,hk,YA,hkn⟩
       ·exact hx1 hw
       ·rcases hx2 k hk hkn with e|e
        ·exact YA (e▸List.mem_cons_self)
        ·exact YA (List.mem_cons_of_mem _ (hbD k e))
     ·have h5:=hG.size hg2.2;rcases List.mem_cons.1 hp with ep|hp'
      ·rcases List.mem_cons.1 hq with eq|hq'
       ·exact absurd (ep.trans eq.symm) hpq
       ·have hne:q≠i:=fun e=>hpq (ep.trans e.symm);simp only[if_pos ep,if_neg hne];exact .inr (hpost q hq').2.2.1
      ·have hne:p≠i:=fun e=>zZ (e▸hp');rcases List.mem_cons.1 hq with eq|hq'
       ·simp only[if_pos eq,if_neg hne];exact .inl (hpost p hp').2.2.1
       ·have hne2:q≠i:=fun e=>zZ (e▸hq');simp only[if_neg hne,if_neg hne2];exact hdis p hp' q hq' hpq
 refine key l.toArray.size (Array.replicate l.toArray.size false) a _ [] (fun _=>undef) (fun _=>0) (fun _=>0) (by simp) (fun j=>?_) (by simp) List.nodup_nil (fun i _ hi=>by simp[hi]) (fun j hj=>by cases hj) rfl (hG.refl _ _) (fun j hj=>by cases hj) (fun j hj=>by cases hj);constructor
 ·intro h;cases h
 ·rintro⟨_,h⟩;rw[Array.getElem?_replicate]at h;split at h<;>simp at h
end
section
open Go.RowKit
def Kept(X:Nat->Prop)(w:World)(p:World->Prop):Prop:=∀w',aj X w w'->p w'
theorem Kept.now{X:Nat->Prop}{w:World}{p:World->Prop}(h:Kept X w p):p w:=h w (aj.refl w)
theorem Kept.grow{X:Nat->Prop}{w w':World}{p:World->Prop}(h:Kept X w p)(hg:aj X w w'):Kept X w' p:=fun w'' h'=>h w'' (hg.trans h')
theorem Kept.mono{X Y:Nat->Prop}{w:World}{p:World->Prop}(h:Kept X w p)(hY:∀k,k<w.heap.size->Y k->X k):Kept Y w p:=
 fun w' hg=>h w' ⟨hg.os,hg.tape,hg.output,hg.size,fun k hk hx=>hg.block k hk (fun hy=>hx (hY k hk hy))⟩
theorem Kept.and{X:Nat->Prop}{w:World}{p q:World->Prop}(h:Kept X w p)(k:Kept X w q):Kept X w (fun w=>p w/\q w):=fun w' hg=>⟨h w' hg,k w' hg⟩
theorem Kept.imp{X:Nat->Prop}{w:World}{p q:World->Prop}(h:Kept X w p)(k:∀w,p w->q w):Kept X w q:=fun w' hg=>k w' (h w' hg)
theorem aaQ{w:World}{base e K n:Nat}{v:Value}{xs:List Value}(h:w.ownsRow base e K v n xs):Kept (fun k=>k<base) w (fun w'=>Reads K w' v n xs):=by
 intro w' hg;refine Reads.aY (base:=base) (e:=e) ⟨h.1,?_⟩;rcases h.2 with h'|⟨g,cap,cur,rfl,hb,hc,r⟩
 ·exact .inl h'
 ·refine .inr ⟨g,cap,cur,rfl,hb,?_,r⟩;rw[hg.block g (Array.getElem?_eq_some_iff.1 hc).1 (by omega)];exact hc
theorem aI{X:Nat->Prop}{w w':World}{base e K n:Nat}{v:Value}{xs:List Value}(h:w.ownsRow base e K v n xs)(hg:aj X w w')(hX:∀g,v.ownBlock=some g->¬X g):w'.ownsRow base e K v n xs:=by
 refine⟨h.1,?_⟩;rcases h.2 with h'|⟨g,cap,cur,rfl,hb,hc,r⟩
 ·exact .inl h'
 ·refine .inr ⟨g,cap,cur,rfl,hb,?_,r⟩;rw[hg.block g (Array.getElem?_eq_some_iff.1 hc).1 (hX g rfl)];exact hc
def iF(w:World)(xs:List Value)(L:List (List UInt8)):Prop:=
 xs.length=L.length/\∀(i:Nat) s l,xs[i]? = some s->L[i]? = some l->Reads 1 w s l.length (l.map B)
theorem iF.below{w w':World}{xs:List Value}{L:List (List UInt8)}{B0:Nat}(h:iF w xs L)(hb:Below B0 w w')(hB:w.heap.size<=B0):iF w' xs L:=
 ⟨h.1,fun i s l h1 h2=>(h.2 i s l h1 h2).below hb hB⟩
theorem iF.nil{w:World}:iF w [] []:=⟨rfl,fun i s l h _=>by simp at h⟩
theorem iF.append{w:World}{xs ys:List Value}{L M:List (List UInt8)}(h:iF w xs L)(k:iF w ys M):iF w (xs++ys) (L++M):=by
 refine⟨by simp[h.1,k.1],fun i s l h1 h2=>?_⟩;by_cases hi:i<xs.length
 ·rw[List.getElem?_append_left hi]at h1;rw[List.getElem?_append_left (by rw[<-h.1];exact hi)]at h2;exact h.2 i s l h1 h2
 ·rw[List.getElem?_append_right (by omega)]at h1;rw[List.getElem?_append_right (by rw[<-h.1];omega),<-h.1]at h2;exact k.2 _ s l h1 h2
theorem iF.take{w:World}{xs:List Value}{L:List (List UInt8)}(h:iF w xs L)(n:Nat):iF w (xs.take n) (L.take n):=by
 refine⟨by simp[h.1],fun i s l h1 h2=>?_⟩;rw[List.getElem?_take]at h1 h2;split at h1
 ·rename_i hi;rw[if_pos hi]at h2;exact h.2 i s l h1 h2
 ·cases h1
theorem iF.drop{w:World}{xs:List Value}{L:List (List UInt8)}(h:iF w xs L)(n:Nat):iF w (xs.drop n) (L.drop n):=by
 refine⟨by simp[h.1],fun i s l h1 h2=>?_⟩;rw[List.getElem?_drop]at h1 h2;exact h.2 _ s l h1 h2
theorem iF.one{w:World}{s:Value}{l:List UInt8}(h:Reads 1 w s l.length (l.map B)):iF w [s] [l]:=by
 refine⟨rfl,fun i s' l' h1 h2=>?_⟩;cases i with
 | zero=>simp at h1 h2;subst h1 h2;exact h
 | succ i=>simp at h1
def Texts(w:World)(v:Value)(L:List (List UInt8)):Prop:=∃xs,Reads 1 w v L.length xs/\iF w xs L
theorem Texts.below{w w':World}{v:Value}{L:List (List UInt8)}{B0:Nat}(h:Texts w v L)(hb:Below B0 w w')(hB:w.heap.size<=B0):Texts w' v L:=by
 obtain⟨xs,h1,h2⟩:=h;exact⟨xs,h1.below hb hB,h2.below hb hB⟩
end
end Go.Proofs.YtpajagkhmodbnaaGreat

/- Pk: texts of the store seat laid together by program: Parts PartsX. Conditions: each theorem names its own. -/
import Derived.Test.YtpajagkhmodbnaaGreatPk0
import Derived.Orders
namespace Go.Proofs.YtpajagkhmodbnaaGreat
set_option linter.unusedSimpArgs false
set_option linter.unusedVariables false
section
open Go.RowKit
def Grow(w w':World):Prop:=Below w.heap.size w w'
theorem Grow.refl(w:World):Grow w w:=Below.refl _ _
theorem Grow.trans{a b c:World}(h:Grow a b)(k:Grow b c):Grow a c:=Below.trans h (k.mono h.size)
theorem Grow.alloc{a w:World}(h:Grow a w)(o:Obj):Grow a (w.alloc o):=Below.alloc h h.size o
def acts(l:List Oper)(vs:Nat→Value)(js:List Nat)(a:Act):Act:=js.foldl (fun a j=>a.put ((l[j]?).bind (·.dst)) (vs j)) a
def direct(o:Oper):List Nat:=(o.after.toList.filter (Region.binds .any)).map (·.on)
def partsB (l:List Oper) (N:Nat) (bs:List (List Nat)):Bool:=
 decide (N≤l.length)&&(l.all fun o=>match o.op with | .select .. => false|_=>true) &&
 (List.range l.length).all fun i=>match l[i]? with
  | none=>false
  | some o=>(direct o).all (fun k=>decide (k<i)) &&
   (if i<N then
    (bs.getD i []).all (fun j=>decide (j<N)&&(direct o).any (fun k=>decide (k<N)&&(k==j || (bs.getD k []).contains j))) &&
    (List.range N).all (fun j=>j==i || match (l[j]?).bind (·.dst)with
     | none=>true
     | some d=>o.dst != some d&&(!(o.looksAt l.toArray).contains d || (bs.getD i []).contains j))
    && (match o.dst with|none=>true|some d=>!(o.looksAt l.toArray).contains d)
   else(List.range i).all (fun j=>(direct o).contains j || (direct o).any (fun k=>decide (k<N)&&decide (j<N)&&(bs.getD k []).contains j) || (decide (N<i)&&(direct o).contains (i-1))))
theorem put_size(a:Act)(d:Option Tmp)(v:Value):(a.put d v).tmps.size=a.tmps.size:=by cases d<;>simp[Act.put]
theorem put_defers(a:Act)(d:Option Tmp)(v:Value):(a.put d v).defers=a.defers:=by cases d<;>rfl
theorem acts_size(l:List Oper)(vs:Nat→Value)(js:List Nat)(a:Act):(acts l vs js a).tmps.size=a.tmps.size:=by
 induction js generalizing a with
 | nil=>rfl
 | cons j js ih=>show(acts l vs js _).tmps.size=_;rw[ih,put_size]
theorem acts_defers(l:List Oper)(vs:Nat→Value)(js:List Nat)(a:Act):(acts l vs js a).defers=a.defers:=by
 induction js generalizing a with
 | nil=>rfl
 | cons j js ih=>show(acts l vs js _).defers=_;rw[ih,put_defers]
theorem put_get_other(a:Act)(d:Option Tmp)(v:Value)(t:Nat)(h:d≠some t):(a.put d v).tmps[t]? = a.tmps[t]? := by
 cases d with
 | none=>rfl
 | some d=>
  have hne:d≠t:=fun e=>h (by rw[e])
  simp[Act.put,Array.getElem?_setIfInBounds_ne hne]
theorem put_get_same(a:Act)(v:Value)(t:Nat)(h:t<a.tmps.size):(a.put (some t) v).tmps[t]? = some v:=by
 simp[Act.put,h]
theorem acts_get_other(l:List Oper)(vs:Nat→Value)(js:List Nat)(a:Act)(t:Nat)(h:∀j∈js,(l[j]?).bind (·.dst)≠some t):
  (acts l vs js a).tmps[t]? = a.tmps[t]? := by
 induction js generalizing a with
 | nil=>rfl
 | cons j js ih=>
  show(acts l vs js _).tmps[t]? = _
  rw[ih _ (fun k hk=>h k (List.mem_cons_of_mem _ hk)),put_get_other _ _ _ _ (h j List.mem_cons_self)]
theorem acts_get_same(l:List Oper)(vs:Nat→Value)(js:List Nat)(a:Act)(t:Nat)(ht:t<a.tmps.size)(j:Nat)(hj:j∈js)(hd:(l[j]?).bind (·.dst)=some t)
  (hu:∀k∈js,(l[k]?).bind (·.dst)=some t→k=j):(acts l vs js a).tmps[t]? = some (vs j):=by
 induction js generalizing a with
 | nil=>cases hj
 | cons k js ih=>
  show(acts l vs js _).tmps[t]? = _
  by_cases hin:j∈js
  ·exact ih _ (by rw[put_size];exact ht) hin (fun k hk=>hu k (List.mem_cons_of_mem _ hk))
  ·have hk:j=k:=by
    cases List.mem_cons.1 hj with
    | inl e=>exact e
    | inr e=>exact absurd e hin
   subst hk
   rw[acts_get_other _ _ _ _ _ (fun k hk he=>hin (hu k (List.mem_cons_of_mem _ hk) he▸hk))]
   show(a.put ((l[j]?).bind (·.dst)) (vs j)).tmps[t]? = _
   rw[hd,put_get_same _ _ _ ht]
theorem act_ext{a b:Act}(h:∀t:Nat,a.tmps[t]? = b.tmps[t]?)(hd:a.defers=b.defers):a=b:=by
 obtain⟨t,d⟩:=a
 obtain⟨t',d'⟩:=b
 simp only at hd
 subst hd
 have:t=t':=Array.ext_getElem? h
 rw[this]
theorem acts_ext(l:List Oper)(vs vs':Nat→Value)(js ks:List Nat)(a:Act)(hm:∀j,j∈js↔j∈ks)(hv:∀j∈js,vs j=vs' j)
  (hu:∀j∈js,∀k∈js,∀t,(l[j]?).bind (·.dst)=some t→(l[k]?).bind (·.dst)=some t→k=j):acts l vs js a=acts l vs' ks a:=by
 refine act_ext (fun t=>?_) (by rw[acts_defers,acts_defers])
 by_cases h:∃j∈js,(l[j]?).bind (·.dst)=some t
 ·obtain⟨j,hj,hd⟩:=h
  by_cases ht:t<a.tmps.size
  ·rw[acts_get_same l vs js a t ht j hj hd (fun k hk he=>hu j hj k hk t hd he),acts_get_same l vs' ks a t ht j ((hm j).1 hj) hd (fun k hk he=>hu j hj k ((hm k).2 hk) t hd he),hv j hj]
  ·rw[Array.getElem?_eq_none (by rw[acts_size];omega),Array.getElem?_eq_none (by rw[acts_size];omega)]
 ·rw[acts_get_other l vs js a t (fun j hj he=>h ⟨j,hj,he⟩),acts_get_other l vs' ks a t (fun j hj he=>h ⟨j,(hm j).2 hj,he⟩)]
theorem put_same{a b:Act}{d:Option Tmp}{v v':Value}(hs:a.tmps.size=b.tmps.size)(h:a.put d v=a.put d v'):b.put d v=b.put d v':=by
 cases d with
 | none=>rfl
 | some d=>
  by_cases hd:d<a.tmps.size
  ·have h1:=put_get_same a v d hd
   have h2:=put_get_same a v' d hd
   rw[h,h2]at h1
   rw[Option.some.inj h1]
  ·have hd':¬d<b.tmps.size:=hs▸hd
   have key:∀u:Value,b.put (some d) u=b:=fun u=>by
    simp only[Act.put]
    rw[Array.setIfInBounds_eq_of_size_le (Nat.le_of_not_lt hd')]
   rw[key,key]
theorem ready_spec{ops:Array Oper}{listed:Array Bool}{i:Nat}(h:i∈Region.ready .any ops listed)(hsz:listed.size=ops.size):
  ∃o,ops[i]? = some o∧listed[i]? = some false∧∀k∈direct o,listed.getD k false=true:=by
 simp only[Region.ready,List.mem_filter,List.mem_range,Bool.and_eq_true]at h
 obtain⟨hi,h1,h2⟩:=h
 have hi':i<listed.size:=by omega
 refine⟨ops[i],by simp[hi],?_,?_⟩
 ·simp[hi']at h1⊢;exact h1
 ·simp[hi]at h2
  intro k hk
  simp only[direct,List.mem_map,List.mem_filter]at hk
  obtain⟨e,⟨he,hb⟩,rfl⟩:=hk
  obtain⟨j,hj,rfl⟩:=Array.getElem_of_mem (by simpa using he:e∈ops[i].after)
  have:=h2 j hj
  simpa[hb]using this
theorem ready_nil{ops:Array Oper}{listed:Array Bool}(hsz:listed.size=ops.size)(hlex:∀(i:Nat) o,ops[i]? = some o→∀k∈direct o,k<i)
  (h:Region.ready .any ops listed=[]):∀i,i<ops.size→listed.getD i false=true:=by
 intro i
 induction i using Nat.strongRecOn with
 | _ i ih=>
  intro hi
  apply Classical.byContradiction
  intro hc
  have hi':i<listed.size:=by omega
  have hmem:i∈Region.ready .any ops listed:=by
   simp only[Region.ready,List.mem_filter,List.mem_range,Bool.and_eq_true]
   refine⟨hi,?_,?_⟩
   ·simp[hi']at hc⊢;exact hc
   ·simp[hi]
    intro j hj
    by_cases hb:Region.binds .any ops[i].after[j]=true
    ·have hk:(ops[i].after[j]).on∈direct ops[i]:=by
      simp only[direct,List.mem_map,List.mem_filter]
      exact⟨ops[i].after[j],⟨by simp,hb⟩,rfl⟩
     have hlt:=hlex i ops[i] (by simp[hi]) _ hk
     have:=ih _ hlt (by omega)
     right
     simpa using this
    ·left;simpa using hb
  rw[h]at hmem
  cases hmem
theorem partsB_parts{l:List Oper}{N:Nat}{bs:List (List Nat)}(h:partsB l N bs=true):
  N≤l.length∧(∀o∈l,∀cs b,o.op≠.select cs b)∧(∀(i:Nat) o,l[i]? = some o→∀k∈direct o,k<i)∧
  (∀(i:Nat) o,l[i]? = some o→i<N→∀j∈bs.getD i [],j<N∧∃k∈direct o,k<N∧(k=j∨j∈bs.getD k []))∧
  (∀(i:Nat) o,l[i]? = some o→i<N→∀j,j<N→j≠i→∀d,(l[j]?).bind (·.dst)=some d→o.dst≠some d∧(d∈o.looksAt l.toArray→j∈bs.getD i []))∧
  (∀(i:Nat) o,l[i]? = some o→i<N→∀d,o.dst=some d→d∉o.looksAt l.toArray)∧
  (∀(i:Nat) o,l[i]? = some o→N≤i→∀j,j<i→j∈direct o∨(j<N∧∃k∈direct o,k<N∧j∈bs.getD k [])∨(N<i∧i-1∈direct o)):=by
 simp only[partsB,Bool.and_eq_true,decide_eq_true_eq,List.all_eq_true,List.mem_range]at h
 obtain⟨⟨hN,hsel⟩,hall⟩:=h
 have at_:∀(i:Nat) o,l[i]? = some o→i<l.length:=fun i o h=>(List.getElem?_eq_some_iff.1 h).1
 refine⟨hN,?_,?_,?_,?_,?_,?_⟩
 ·intro o ho cs b e
  have:=hsel o ho
  rw[e]at this
  cases this
 ·intro i o hi k hk
  have:=hall i (at_ i o hi)
  simp only[hi,Bool.and_eq_true,List.all_eq_true,decide_eq_true_eq]at this
  exact this.1 k hk
 ·intro i o hi hlt j hj
  have:=hall i (at_ i o hi)
  simp only[hi,hlt,if_true,Bool.and_eq_true,List.all_eq_true,decide_eq_true_eq,List.any_eq_true,Bool.or_eq_true,beq_iff_eq,List.contains_iff_mem]at this
  obtain⟨h1,k,hk,h2,h3⟩:=this.2.1.1 j hj
  exact⟨h1,k,hk,h2,h3⟩
 ·intro i o hi hlt j hj hne d hd
  have:=hall i (at_ i o hi)
  simp only[hi,hlt,if_true,Bool.and_eq_true,List.all_eq_true,decide_eq_true_eq,List.mem_range]at this
  have h1:=this.2.1.2 j hj
  rw[hd]at h1
  simp only[Bool.or_eq_true,beq_iff_eq,Bool.and_eq_true,bne_iff_ne,Bool.not_eq_true',List.contains_iff_mem]at h1
  rcases h1 with h1|⟨h1,h2⟩
  ·exact absurd h1 hne
  ·refine⟨h1,fun hm=>?_⟩
   rcases h2 with h2|h2
   ·exact absurd hm (by simpa using h2)
   ·exact h2
 ·intro i o hi hlt d hd hm
  have:=hall i (at_ i o hi)
  simp only[hi,hlt,if_true,Bool.and_eq_true]at this
  have h1:=this.2.2
  rw[hd]at h1
  exact absurd hm (by simpa using h1)
 ·intro i o hi hge j hj
  have:=hall i (at_ i o hi)
  simp only[hi,show ¬i<N by omega,if_false,Bool.and_eq_true,List.all_eq_true,List.mem_range,List.contains_iff_mem,Bool.or_eq_true,List.any_eq_true,decide_eq_true_eq]at this
  rcases this.2 j hj with (h|⟨k,hk,⟨h1,h2⟩,h3⟩)|⟨h1,h3⟩
  ·exact .inl h
  ·exact .inr (.inl ⟨h2,k,hk,h1,h3⟩)
  ·exact .inr (.inr ⟨h1,h3⟩)
theorem tail_run{P:Program}{l:List Oper}{N:Nat}{Q:Exit→Act→World→Prop}
  (hlex:∀(i:Nat) o,l[i]? = some o→∀k∈direct o,k<i) (htail:∀(i:Nat) o,l[i]? = some o→N<i→i-1∈direct o):
  ∀(fuel k:Nat)(listed:Array Bool)(a:Act)(w:World),k+fuel=l.length→N≤k→listed.size=l.length→(∀i,i<l.length→(listed[i]? = some true↔i<k))→
   wpList P l.toArray Q (l.drop k) a w→wpAny P .any l.toArray Q fuel listed a w:=by
 intro fuel
 induction fuel with
 | zero=>
  intro k listed a w hk hN hsz hl h
  rw[List.drop_eq_nil_of_le (by omega)]at h
  refine⟨?_,h⟩
  apply List.eq_nil_iff_forall_not_mem.2
  intro i hi
  obtain⟨o,ho,hf,_⟩:=ready_spec hi (by simpa using hsz)
  have hlt:i<l.length:=by simp at ho;exact(List.getElem?_eq_some_iff.1 ho).1
  have:=(hl i hlt).2 (by omega)
  rw[this]at hf;cases hf
 | succ fuel ih=>
  intro k listed a w hk hN hsz hl h
  have hkl:k<l.length:=by omega
  rw[List.drop_eq_getElem_cons hkl]at h
  refine⟨fun hnil=>?_,fun i hi=>?_⟩
  ·have:=ready_nil (ops:=l.toArray) (by simpa using hsz) (fun i o ho=>hlex i o (by simpa using ho)) hnil k (by simpa using hkl)
   have hk2:k<listed.size:=by omega
   simp[hk2]at this
   have h2:=(hl k hkl).1 (by simp[hk2,this])
   omega
  ·obtain⟨o,ho,hf,hd⟩:=ready_spec hi (by simpa using hsz)
   have ho':l[i]? = some o:=by simpa using ho
   have hlt:i<l.length:=(List.getElem?_eq_some_iff.1 ho').1
   have hki:k=i:=by
    have h1:¬i<k:=fun hc=>by have:=(hl i hlt).2 hc;rw[this]at hf;cases hf
    rcases Nat.lt_or_ge k i with h2|h2
    ·have:=hd (i-1) (htail i o ho' (by omega))
     have hk2:i-1<listed.size:=by omega
     simp[hk2]at this
     have h3:=(hl (i-1) (by omega)).1 (by simp[hk2,this])
     omega
    ·omega
   subst hki
   have hgo:l[k]=o:=by have:=List.getElem?_eq_getElem hkl;rw[ho']at this;exact(Option.some.inj this).symm
   rw[hgo]at h
   have hnext:∀a w,wpList P l.toArray Q (l.drop (k+1)) a w→wpAny P .any l.toArray Q fuel (listed.setIfInBounds k true) a w:=by
    intro a w h
    refine ih (k+1) _ a w (by omega) (by omega) (by simpa using hsz) (fun i hi=>?_) h
    by_cases e:k=i
    ·subst e;simp[show k<listed.size by omega]
    ·rw[Array.getElem?_setIfInBounds_ne e,hl i hi];omega
   unfold wpOp
   simp only[ho]
   unfold wpList at h
   split
   ·rename_i hw
    rw[if_pos hw]at h
    exact h.imp (Oper.wp_mono hnext) id
   ·rename_i hw
    rw[if_neg hw]at h
    exact hnext _ _ h
def actsD(ds:List (Option Tmp))(vs:Nat→Value)(js:List Nat)(a:Act):Act:=js.foldl (fun a j=>a.put (ds.getD j none) (vs j)) a
theorem actsD_eq(l:List Oper)(vs:Nat→Value)(js:List Nat)(a:Act):actsD (l.map (·.dst)) vs js a=acts l vs js a:=by
 unfold actsD acts
 congr 1
 funext a j
 congr 1
 rw[List.getD_eq_getElem?_getD,List.getElem?_map]
 cases l[j]? <;> rfl
end
section
open Go.RowKit
structure GrowX(X:Nat→Prop)(w w':World):Prop where
 os:w'.os=w.os
 tape:w'.tape=w.tape
 output:w'.output=w.output
 size:w.heap.size≤w'.heap.size
 block:∀k,k<w.heap.size→¬X k→w'.heap[k]? = w.heap[k]?
theorem GrowX.refl{X:Nat→Prop}(w:World):GrowX X w w:=⟨rfl,rfl,rfl,Nat.le_refl _,fun _ _ _=>rfl⟩
theorem GrowX.trans{X:Nat→Prop}{a b c:World}(h:GrowX X a b)(k:GrowX X b c):GrowX X a c:=
 ⟨k.os.trans h.os,k.tape.trans h.tape,k.output.trans h.output,Nat.le_trans h.size k.size,fun i hi hx=>(k.block i (Nat.lt_of_lt_of_le hi h.size) hx).trans (h.block i hi hx)⟩
theorem GrowX.of_grow{X:Nat→Prop}{a b:World}(h:Grow a b):GrowX X a b:=⟨h.os,h.tape,h.output,h.size,fun i hi _=>h.block i hi⟩
theorem GrowX.below{X:Nat→Prop}{B:Nat}{a b:World}(h:GrowX X a b)(hB:∀k,k<B→k<a.heap.size∧¬X k):Below B a b:=
 ⟨h.os,h.tape,h.output,h.size,fun k hk=>h.block k (hB k hk).1 (hB k hk).2⟩
end
end Go.Proofs.YtpajagkhmodbnaaGreat

/- Pr: texts of the store seat laid together by program: SortK. Conditions: each theorem names its own. -/
import Derived.Test.YtpajagkhmodbnaaGreatPr0
import Derived.Shelf.SlSortCmp.NoneTotal
import Derived.Sort.OwnSortedInts
namespace Go.Proofs.YtpajagkhmodbnaaGreat
set_option linter.unusedSimpArgs false
set_option linter.unusedVariables false
section
set_option linter.unusedSectionVars false
open Go.RowKit
section
variable{α:Type}[Inhabited α]
theorem jw(enc:α->List Value)(k:Nat)(hk:∀x,(enc x).length=k)(l:List α):(l.flatMap enc).length=l.length*k:=by
 induction l with
 | nil=>simp
 | cons x r ih=>rw[List.flatMap_cons,List.length_append,hk,ih,List.length_cons,Nat.succ_mul,Nat.add_comm]
theorem uO(enc:α->List Value)(k:Nat)(hk:∀x,(enc x).length=k)(l:List α)(j:Nat)(hj:j<l.length)(i:Nat)(hi:i<k):(l.flatMap enc)[j*k+i]? = (enc l[j])[i]? := by
 induction l generalizing j with
 | nil=>simp at hj
 | cons x r ih=>
  cases j with
  | zero=>
   simp only[List.flatMap_cons,Nat.zero_mul,Nat.zero_add,List.getElem_cons_zero];rw[List.getElem?_append_left (by rw[hk];exact hi)]
  | succ j=>
   simp only[List.flatMap_cons,List.getElem_cons_succ];rw[List.getElem?_append_right (by rw[hk,Nat.succ_mul];omega),hk];have e:(j+1)*k+i-k=j*k+i:=by rw[Nat.succ_mul];omega
   rw[e];exact ih j (by simpa using hj)
theorem wY(enc:α->List Value)(k:Nat)(hk:∀x,(enc x).length=k)(l:List α):(Go.Sort.flatK enc k l.toArray).toList=l.flatMap enc:=by
 apply List.ext_getElem?;intro t;by_cases ht:t<l.length*k
 ·have k0:0<k:=by
   rcases Nat.eq_zero_or_pos k with h|h
   ·subst h;simp at ht
   ·exact h
  have hjl:t / k<l.length:=Nat.div_lt_of_lt_mul (by rw[Nat.mul_comm];exact ht);have e:t=t / k*k+t % k:=by rw[Nat.mul_comm];exact(Nat.div_add_mod t k).symm
  have h1:=uO enc k hk l (t / k) hjl (t % k) (Nat.mod_lt _ k0);rw[<-e]at h1;rw[h1];have hs:t<(Go.Sort.flatK enc k l.toArray).size:=by simpa using ht
  rw[Array.getElem?_toList,Array.getElem?_eq_getElem hs,<-getElem!_pos _ t hs,Go.Sort.get_flatK enc k l.toArray t (by simpa using ht)];have hm:t % k<(enc l[t / k]).length:=by rw[hk];exact Nat.mod_lt _ k0
  rw[getElem!_pos l.toArray (t / k) (by simpa using hjl),List.getElem?_eq_getElem hm];simp[List.getD_eq_getElem?_getD,hm]
 ·rw[List.getElem?_eq_none (by simp;omega),List.getElem?_eq_none (by rw[jw enc k hk];omega)]
theorem Dl{w:World}{g n:Nat}{os:Array Obj}{cur:Array Value}{e:TypeId}{fr:Nat×Nat}(d:Array Value)(hb:w.heap[g]? = some (.cells cur e fr)):
  (Go.Sort.grow (Go.Sort.putRow id (Go.Sort.ahead w n) g 0 d) os).heap[g]? = some (.cells (Go.Sort.putCells id 0 d cur) e fr):=by
 have hg:g<w.heap.size:=(Array.getElem?_eq_some_iff.1 hb).1;rw[Go.Sort.heap_grow_old _ _ (by simpa using hg)];simp[Go.Sort.putRow,Go.Sort.mapBlock,Go.Sort.ahead,Array.getElem?_modify,hb,Go.Sort.onCells]
theorem zo{w:World}{g n:Nat}{os:Array Obj}(d:Array Value):w.grownBy (Go.Sort.grow (Go.Sort.putRow id (Go.Sort.ahead w n) g 0 d) os) (some g):=by
 refine⟨rfl,rfl,rfl,by simp,fun k hk hne=>?_⟩;rw[Go.Sort.heap_grow_old _ _ (by simpa using hk)];have:g≠k:=fun e=>hne (by rw[e]);simp[Go.Sort.putRow,Go.Sort.mapBlock,Go.Sort.ahead,Array.getElem?_modify,this]
theorem Ah(cur:Array Value)(ts:List Value)(h:ts.length<=cur.size):(Go.Sort.putCells id 0 ts.toArray cur).toList.take ts.length=ts:=by
 apply List.ext_getElem?;intro j;by_cases hj:j<ts.length
 ·rw[List.getElem?_take_of_lt hj,Array.getElem?_toList];simp[Go.Sort.putCells,hj,show j<cur.size by omega]
 ·rw[List.getElem?_take_eq_none (by omega),List.getElem?_eq_none (by omega)]
def OQ(enc:α->List Value)(k:Nat)(lt:α->α->Bool)(O:List α)(v:Value)(n base e:Nat)(W0:World)(r:Ending)(w':World):Prop:=
 ∃c:List α,r=.returned (.tuple #[])/\c.Perm O/\c.Pairwise (fun a b=>lt b a=false)/\w'.ownsRow base e k v n (c.flatMap enc)/\Below base W0 w'
theorem YU{P:Program}{ρ:Go.Shelf.Ren}(L:SlLaysF0.n6 P ρ)(k:Nat)(kpos:0<k)(aE:∀w,(isAgg (ρ.t 24)).run P w=.ok true w)(zE:∀w,(Go.sizeOf (ρ.t 24)).run P w=.ok k w)(enc:α->List Value)(hk:∀x,(enc x).length=k)(h1:∀x,∀v∈enc x,v.oneCell'=true)
  (cf:α->α->Int) (hO:Go.Sort.SWO (ltOf cf)) (fn:Nat) (eg:∀args w,(callFunc fn args).run P w=.ok (.enter fn args) w)
  (hcmp:∀W x y,Calls P fn #[.agg (enc x).toArray,.agg (enc y).toArray] W fun e w'=>e=.returned (.int .i64 (cf x y))/\∃q os',w'=Go.Sort.grow (W.drewN q) os')
  (O:List α) (v:Value) (n base e:Nat) (hl:O.length=n) (hn:n<=1152921504606846976) (W0 w:World) (hown:w.ownsRow base e k v n (O.flatMap enc)) (hbel:Below base W0 w):
  Calls P (ρ.f 6) #[v,.func (.func fn) #[] #[]] w (OQ enc k (ltOf cf) O v n base e W0):=by
 rcases hown.2 with ⟨rfl,h0⟩|⟨g,cap,cur,rfl,hb,hg,hnc,hcm,hcs,ht⟩
 ·subst h0;obtain rfl:O=[]:=List.eq_nil_of_length_eq_zero hl;refine(AnyF.slices_SortFunc_none L none 0 _ w).mono ?_;rintro r w' ⟨rfl,rfl⟩;exact⟨[],rfl,List.Perm.refl _,List.Pairwise.nil,World.ownsRow_nil _ _ _ _,hbel⟩
 ·subst hl;have hlt:g<w.heap.size:=(Array.getElem?_eq_some_iff.1 hg).1;have hmul:O.length*k<=cap*k:=Nat.mul_le_mul_right _ hnc;have hH:Go.Sort.HoldsK enc k w g 0 O.toArray:=by
   intro j hj;have hj':j<O.length*k:=by simpa using hj
   have hfl:=wY enc k hk O;refine⟨?_,by simp[World.frozen?,hg]⟩;have e1:(Go.Sort.flatK enc k O.toArray)[j]! = (O.flatMap enc)[j]'(by rw[jw enc k hk];exact hj'):=by
    rw[getElem!_pos _ j hj,<-Array.getElem_toList (h:=hj)];simp only[hfl]
   rw[e1];simp only[id,World.cell?,hg,Nat.zero_add,Option.isSome_none,Bool.false_eq_true,if_false];have e2:(cur.toList.take (O.length*k))[j]? = (O.flatMap enc)[j]? := by rw[ht]
   rw[List.getElem?_take_of_lt hj']at e2;rw[<-Array.getElem?_toList,e2,List.getElem?_eq_getElem]
  have hc:=AnyQ.slices_SortFunc L k aE zE enc hk h1 cf hO fn #[] g 0 cap O.toArray w eg (fun m os dk _ x y=>hcmp _ x y) hH hlt (by simp;omega);simp only[List.size_toArray]at hc;refine hc.mono ?_;rintro r w' ⟨rfl,d',q,os,hp,hs,rfl⟩;have hsz:d'.size=O.length:=by simpa using hp.1
  have hperm:d'.toList.Perm O:=by
   have:=hp.2.2;rw[<-hsz,Array.extract_size]at this;simpa[hsz]using this
  have hd:d'=d'.toList.toArray:=by simp
  have hrow:(Go.Sort.flatK enc k d').toList=d'.toList.flatMap enc:=by
   have:=wY enc k hk d'.toList
   rwa [Array.toArray_toList]at this
  have hlen:(d'.toList.flatMap enc).length=O.length*k:=by rw[jw enc k hk];simp[hsz]
  have hgr:=zo (w:=w) (g:=g) (n:=q) (os:=os) (Go.Sort.flatK enc k d');refine⟨d'.toList,rfl,hperm,?_,⟨hlen,.inr ⟨g,cap,_,rfl,hb,Dl _ hg,hnc,hcm,by simp[Go.Sort.putCells,hcs],?_⟩⟩,?_⟩
  ·rw[List.pairwise_iff_getElem];intro i j hi hj hij;have:=hs i j (Nat.zero_le _) hij (by simpa[hsz]using hj);simp only[Array.length_toList]at hi hj;rw[getElem!_pos d' i hi,getElem!_pos d' j hj]at this;simpa using this
  ·have:=Ah cur (d'.toList.flatMap enc) (by rw[hlen,hcs];exact hmul);rw[hlen]at this;rw[<-hrow]at this⊢;simpa using this
  ·exact hbel.trans ⟨hgr.os,hgr.tape,hgr.output,hgr.size,fun k hk=>hgr.block k (by omega) (by intro e;injection e with e;omega)⟩
end
end
end Go.Proofs.YtpajagkhmodbnaaGreat

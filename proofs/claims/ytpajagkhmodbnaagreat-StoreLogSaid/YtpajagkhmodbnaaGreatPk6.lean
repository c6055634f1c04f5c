/- Pk: texts of the store seat laid together by program: PartsK DvKit. Conditions: each theorem names its own. -/
import Derived.Test.YtpajagkhmodbnaaGreatPk5
import Derived.Test.YtpajagkhmodbnaaGreatPk4
import Derived.Test.YtpajagkhmodbnaaGreatPk3
namespace Go.Proofs.YtpajagkhmodbnaaGreat
set_option linter.unusedSimpArgs false
set_option linter.unusedVariables false
section
open Go.RowKit
def PartEndK(X:Nat→Prop)(ai:Act)(dst:Option Tmp)(w0:World)(R:Value→Nat→Nat→World→Prop):Exit→Act→World→Prop
 | .normal,a',w'=>∃v,a'=ai.put dst v∧GrowX X w0 w'∧R v w0.heap.size w'.heap.size w'
 | _,_,_=>False
theorem part_runK{X:Nat→Prop}{P:Program}{ops:Array Oper}{o:Oper}{ai aS:Act}{w:World}{R:Value→Nat→Nat→World→Prop}{Q:Exit→Act→World→Prop}{K:Act→World→Prop}{i:Nat}
  (hi:ops[i]? = some o) (hs:∀cs b,o.op≠.select cs b) (hsize:ai.tmps.size=aS.tmps.size)
  (hag:∀t∈o.looksAt ops,ai.tmps[t]? = aS.tmps[t]?)
  (h:wpList P ops (PartEndK X ai o.dst w R) [o] ai w) (hK:∀v w',GrowX X w w'→R v w.heap.size w'.heap.size w'→K (aS.put o.dst v) w'):wpOp P ops Q i K aS w:=by
 have he:execOp aS.eval o=execOp ai.eval o:=execOp_congr o hs (fun x hx=>by
  cases x with
  | tmp t=>
   have:=hag t (List.mem_append_left _ (List.mem_filterMap.2 ⟨.tmp t,by simpa using hx,rfl⟩))
   simp only[Act.eval]
   simp only[Array.getD_eq_getD_getElem?,this]
  | _=>rfl)
 have hw:Region.wanted o (yielded ops aS.tmps)=Region.wanted o (yielded ops ai.tmps):=by
  unfold Region.wanted
  cases hg:o.guard with
  | none=>rfl
  | some gw=>
   obtain⟨g,want⟩:=gw
   have hy:yielded ops aS.tmps g=yielded ops ai.tmps g:=by
    unfold yielded
    cases ht:(ops[g]?).bind (·.dst)with
    | none=>rfl
    | some t=>
     have:=hag t (by simp[Oper.looksAt,hg,ht])
     simp[this]
   simp only[hy]
 have fin:∀v w',PartEndK X ai o.dst w R .normal (ai.put o.dst v) w'→K (aS.put o.dst v) w':=by
  rintro v w' ⟨v',e,hg,hr⟩
  rw[put_same hsize e]
  exact hK v' w' hg hr
 unfold wpOp
 simp only[hi]
 rw[hw]
 unfold wpList at h
 split
 ·rename_i hwant
  rw[if_pos hwant]at h
  rcases h with h|⟨_,a,w',h⟩
  case inr=>exact h.elim
  refine .inl ?_
  unfold Oper.wp at *
  rw[he]
  generalize (execOp ai.eval o).run P w=r at *
  cases r with
  | ok n w'=>
   cases n<;>simp only[Oper.upon]at h⊢
   case value v=>exact fin v w' h
   case skip=>exact fin _ w' h
   case defer d=>
    obtain⟨v',e,_⟩:=h
    have:=congrArg (fun a=>a.defers.length) e
    simp[put_defers]at this
   case enter f args=>
    refine Calls.mono h (fun e w'' he=>?_)
    cases e with
    | returned v=>exact fin v w'' he
    | panicked c=>exact he.elim
    | outgrown=>obtain⟨_,_,h⟩:=he;exact h.elim
   case row r args=>exact Rows.mono h (fun v w'' he=>fin v w'' he)
  | halt x w'=>cases x<;>simp only[Oper.upon]at h⊢ <;> exact h.elim
 ·rename_i hwant
  rw[if_neg hwant]at h
  exact fin _ w h
theorem wp_region_partsK (W:Nat→Nat→Prop) {P:Program} {id:Nat} {l:List Oper} {Q:Exit→Act→World→Prop} {a:Act} {w:World} (N:Nat) (bs:List (List Nat)) (ne:List (List Nat)) (tl:List Nat) (ex:List (Nat×Nat)) (hX:exB N bs ne tl ex=true) (hm:P.follows .mixedOrders=true) (hB:partsB l N bs=true)
  (Post:Nat→Value→Nat→Nat→World→Prop) (stable:∀i j,i<N→j<N→j≠i→j∉bs.getD i []→(i,j)∉ex→∀v lo hi w w',Post i v lo hi w→GrowX (W j) w w'→Post i v lo hi w')
  (parts:∀i,i<N→∀o,l[i]? = some o→∀(vs:Nat→Value)(lo hi:Nat→Nat)(w':World),GrowX (fun b=>∃j,j<N∧j≠i∧i∉bs.getD j []∧W j b) w.drew w'→(∀j∈ne.getD i [],w.heap.size≤lo j∧lo j≤hi j∧hi j≤w'.heap.size∧Post j (vs j) (lo j) (hi j) w')→
   wpList P l.toArray (PartEndK (W i) (acts l vs (bs.getD i []) a) o.dst w' (Post i)) [o] (acts l vs (bs.getD i []) a) w')
  (tail:∀(vs:Nat→Value)(lo hi:Nat→Nat)(w':World),GrowX (fun b=>∃j,j<N∧W j b) w.drew w'→(∀j,j<N→w.heap.size≤lo j∧lo j≤hi j∧hi j≤w'.heap.size∧(j∈tl→Post j (vs j) (lo j) (hi j) w'))→(∀i j,i<N→j<N→i≠j→hi i≤lo j∨hi j≤lo i)→wpList P l.toArray Q (l.drop N) (acts l vs (List.range N) a) w'):
  (Code.region id l.toArray true).wp P Q a w:=by
 obtain⟨hneB,hexB⟩:=exB_parts hX
 obtain⟨hN,hsel,hlex,hbs,hdst,hself,htail⟩:=partsB_parts hB
 have htail':∀(i:Nat) o,l[i]? = some o→N<i→i-1∈direct o:=fun i o ho hi=>(htail i o ho (by omega) (i-1) (by omega)).elim (fun h=>h) (fun h=>h.elim (fun h=>absurd h.1 (by omega)) (fun h=>h.2))
 refine wp_region_any hm ?_
 have uniq:∀(D:List Nat),(∀j∈D,j<N)→∀j∈D,∀k∈D,∀t,(l[j]?).bind (·.dst)=some t→(l[k]?).bind (·.dst)=some t→k=j:=by
  intro D hD j hj k hk t h1 h2
  apply Classical.byContradiction
  intro hne
  have hjl:j<l.length:=by have:=hD j hj;omega
  have hlj:l[j]? = some l[j]:=List.getElem?_eq_getElem hjl
  have:=(hdst j l[j] hlj (hD j hj) k (hD k hk) hne t h2).1
  rw[hlj]at h1
  exact this h1
 -- what holds while operations of the first N are left
 have key:∀(fuel:Nat)(listed:Array Bool)(b:Act)(w':World)(D:List Nat)(vs:Nat→Value)(lo hi:Nat→Nat),listed.size=l.length→(∀j,j∈D↔j<N∧listed[j]? = some true)→D.length+fuel=l.length→D.Nodup→
   (∀i,N≤i→i<l.length→listed[i]? = some false)→(∀j∈D,∀k∈bs.getD j [],k∈D)→b=acts l vs D a→GrowX (fun b=>∃j,j∈D∧W j b) w.drew w'→(∀j∈D,w.heap.size≤lo j∧lo j≤hi j∧hi j≤w'.heap.size∧((j∈tl∨∃k,k<N∧k∉D∧j∈ne.getD k [])→Post j (vs j) (lo j) (hi j) w'))→(∀i∈D,∀j∈D,i≠j→hi i≤lo j∨hi j≤lo i)→
   wpAny P .any l.toArray Q fuel listed b w':=by
  intro fuel
  induction fuel with
  | zero=>
   intro listed b w' D vs lo hi hsz hDm hlen hnd htl hcl hb hg hpost hdis
   -- all are done: then N is the whole
   have hDN:D.length≤N:=by
    have h1:=hnd.length_le_of_subset (fun j hj=>List.mem_range.2 ((hDm j).1 hj).1:D ⊆ List.range N)
    simpa using h1
   have hNl:N=l.length:=by omega
   have hall:∀j,j<N→j∈D:=by
    intro j hj
    apply Classical.byContradiction
    intro hc
    have h1:=(List.nodup_cons.2 ⟨hc,hnd⟩).length_le_of_subset (fun k hk=>List.mem_range.2 (by
     rcases List.mem_cons.1 hk with rfl|hk
     ·exact hj
     ·exact((hDm k).1 hk).1):(j::D) ⊆ List.range N)
    simp at h1
    omega
   refine tail_run (N:=N) hlex htail' 0 N listed b w' (by omega) (Nat.le_refl _) hsz (fun i hi=>⟨fun _=>by omega,fun h=>((hDm i).1 (hall i h)).2⟩) ?_
   have hE:b=acts l vs (List.range N) a:=by
    rw[hb]
    exact acts_ext l vs vs D (List.range N) a (fun j=>⟨fun h=>List.mem_range.2 ((hDm j).1 h).1,fun h=>hall j (List.mem_range.1 h)⟩) (fun _ _=>rfl) (uniq D (fun j hj=>((hDm j).1 hj).1))
   rw[hE]
   exact tail vs lo hi w' (hg.mono (fun b h=>h.elim fun j h=>⟨j,((hDm j).1 h.1).1,h.2⟩)) (fun j hj=>have h:=hpost j (hall j hj);⟨h.1,h.2.1,h.2.2.1,fun ht=>h.2.2.2 (.inl ht)⟩) (fun i j hi hj=>hdis i (hall i hi) j (hall j hj))
  | succ fuel ih=>
   intro listed b w' D vs lo hi hsz hDm hlen hnd htl hcl hb hg hpost hdis
   by_cases hfull:∀j,j<N→j∈D
   ·have hDN:D.length=N:=by
     have h1:D.Perm (List.range N):=by
      refine(List.perm_ext_iff_of_nodup hnd List.nodup_range).2 (fun j=>?_)
      rw[List.mem_range]
      exact⟨fun h=>((hDm j).1 h).1,hfull j⟩
     simpa using h1.length_eq
    refine tail_run (N:=N) hlex htail' (fuel+1) N listed b w' (by omega) (Nat.le_refl _) hsz (fun i hi=>⟨fun h=>?_,fun h=>((hDm i).1 (hfull i h)).2⟩) ?_
    ·apply Classical.byContradiction
     intro hc
     rw[htl i (by omega) hi]at h;cases h
    ·have hE:b=acts l vs (List.range N) a:=by
      rw[hb]
      exact acts_ext l vs vs D (List.range N) a (fun j=>⟨fun h=>List.mem_range.2 ((hDm j).1 h).1,fun h=>hfull j (List.mem_range.1 h)⟩) (fun _ _=>rfl) (uniq D (fun j hj=>((hDm j).1 hj).1))
     rw[hE]
     exact tail vs lo hi w' (hg.mono (fun b h=>h.elim fun j h=>⟨j,((hDm j).1 h.1).1,h.2⟩)) (fun j hj=>have h:=hpost j (hfull j hj);⟨h.1,h.2.1,h.2.2.1,fun ht=>h.2.2.2 (.inl ht)⟩) (fun i j hi hj=>hdis i (hfull i hi) j (hfull j hj))
   ·refine⟨fun hnil=>?_,fun i hir=>?_⟩
    ·exfalso
     apply hfull
     intro j hj
     have:=ready_nil (ops:=l.toArray) (by simpa using hsz) (fun i o ho=>hlex i o (by simpa using ho)) hnil j (by simp;omega)
     have hj2:j<listed.size:=by omega
     simp[hj2]at this
     exact(hDm j).2 ⟨hj,by simp[hj2,this]⟩
    ·obtain⟨o,ho,hf,hd⟩:=ready_spec hir (by simpa using hsz)
     have ho':l[i]? = some o:=by simpa using ho
     have hlt:i<l.length:=(List.getElem?_eq_some_iff.1 ho').1
     have direct_in:∀k∈direct o,k<N→k∈D:=by
      intro k hk hkN
      have:=hd k hk
      have hk2:k<listed.size:=by omega
      simp[hk2]at this
      exact(hDm k).2 ⟨hkN,by simp[hk2,this]⟩
     have hiN:i<N:=by
      apply Classical.byContradiction
      intro hc
      refine hfull (fun j hj=>?_)
      rcases htail i o ho' (by omega) j (by omega)with h|⟨_,k,hk,hkN,h⟩|⟨hNi,hNd⟩
      ·exact direct_in j h hj
      ·exact hcl k (direct_in k hk hkN) j h
      ·have h1:=hd (i-1) hNd
       have h2:=htl (i-1) (by omega) (by omega)
       rw[Array.getD_eq_getD_getElem?,h2]at h1;cases h1
     have hiD:i∉D:=fun h=>by have:=((hDm i).1 h).2;rw[this]at hf;cases hf
     have hbD:∀j∈bs.getD i [],j∈D:=by
      intro j hj
      obtain⟨_,k,hk,hkN,h⟩:=hbs i o ho' hiN j hj
      have hkD:=direct_in k hk hkN
      rcases h with rfl|h
      ·exact hkD
      ·exact hcl k hkD j h
     have hrun:=parts i hiN o ho' vs lo hi w' (hg.mono (fun b h=>h.elim fun j h=>⟨j,((hDm j).1 h.1).1,(fun e=>hiD (e▸h.1)),(fun hib=>hiD (hcl j h.1 i hib)),h.2⟩)) (fun j hj=>have h:=hpost j (hbD j (hneB i j hiN hj));⟨h.1,h.2.1,h.2.2.1,h.2.2.2 (.inr ⟨i,hiN,hiD,hj⟩)⟩)
     have hag:∀t∈o.looksAt l.toArray,(acts l vs (bs.getD i []) a).tmps[t]? = b.tmps[t]? := by
      intro t ht
      rw[hb]
      by_cases h:∃j∈D,(l[j]?).bind (·.dst)=some t
      ·obtain⟨j,hj,hdj⟩:=h
       have hjN:=((hDm j).1 hj).1
       have hji:j≠i:=fun e=>hiD (e▸hj)
       have hjb:=(hdst i o ho' hiN j hjN hji t hdj).2 ht
       by_cases hts:t<a.tmps.size
       ·rw[acts_get_same l vs _ a t hts j hjb hdj (fun k hk he=>uniq D (fun j hj=>((hDm j).1 hj).1) j hj k (hbD k hk) t hdj he),
         acts_get_same l vs _ a t hts j hj hdj (fun k hk he=>uniq D (fun j hj=>((hDm j).1 hj).1) j hj k hk t hdj he)]
       ·rw[Array.getElem?_eq_none (by rw[acts_size];exact Nat.le_of_not_lt hts),Array.getElem?_eq_none (by rw[acts_size];exact Nat.le_of_not_lt hts)]
      ·rw[acts_get_other l vs _ a t (fun j hj he=>h ⟨j,hbD j hj,he⟩),acts_get_other l vs _ a t (fun j hj he=>h ⟨j,hj,he⟩)]
     refine part_runK (ops:=l.toArray) ho (hsel o (List.mem_of_getElem? ho')) (by rw[acts_size,hb,acts_size]) hag hrun ?_
     intro v w2 hg2 hp2
     refine ih _ _ w2 (i::D) (fun k=>if k=i then v else vs k) (fun k=>if k=i then w'.heap.size else lo k) (fun k=>if k=i then w2.heap.size else hi k) (by simpa using hsz) (fun j=>?_) (by simp;omega) (List.nodup_cons.2 ⟨hiD,hnd⟩) (fun k hk hkl=>?_) (fun j hj k hk=>?_) ?_ ((hg.mono (fun b h=>h.elim fun j h=>⟨j,List.mem_cons_of_mem _ h.1,h.2⟩)).trans (hg2.mono (fun b h=>⟨i,List.mem_cons_self,h⟩))) (fun j hj=>?_) (fun p hp q hq hpq=>?_)
     ·rw[List.mem_cons,hDm]
      by_cases e:i=j
      ·subst e;simp[show i<listed.size by omega,hiN]
      ·rw[Array.getElem?_setIfInBounds_ne e]
       constructor
       ·rintro(h|h)
        ·exact absurd h.symm e
        ·exact h
       ·exact .inr
     ·rw[Array.getElem?_setIfInBounds_ne (by omega)];exact htl k hk hkl
     ·rcases List.mem_cons.1 hj with rfl|hj
      ·exact List.mem_cons_of_mem _ (hbD k hk)
      ·exact List.mem_cons_of_mem _ (hcl j hj k hk)
     ·have h1:acts l (fun k=>if k=i then v else vs k) (D++[i]) a=b.put o.dst v:=by
       unfold acts
       rw[List.foldl_append]
       have h2:acts l (fun k=>if k=i then v else vs k) D a=b:=by
        rw[hb]
        exact acts_ext l _ _ D D a (fun _=>Iff.rfl) (fun j hj=>if_neg (fun e:j=i=>hiD (e▸hj))) (uniq D (fun j hj=>((hDm j).1 hj).1))
       unfold acts at h2
       rw[h2]
       simp[ho']
      rw[←h1]
      refine acts_ext l _ _ _ _ a (fun j=>by simp;exact Or.comm) (fun _ _=>rfl) (uniq (D++[i]) (fun j hj=>?_))
      rcases List.mem_append.1 hj with hj|hj
      ·exact((hDm j).1 hj).1
      ·simp at hj;omega
     ·rcases List.mem_cons.1 hj with rfl|hj
      ·have h1:=hg.size
       have h2:=hg2.size
       simp only[if_true]
       exact⟨h1,h2,Nat.le_refl _,fun _=>hp2⟩
      ·have hne:j≠i:=fun e=>hiD (e▸hj)
       obtain⟨h1,h2,h3,h4⟩:=hpost j hj
       have h5:=hg2.size
       simp only[if_neg hne]
       refine⟨h1,h2,by omega,fun hw=>stable j i ((hDm j).1 hj).1 hiN (fun e=>hiD (e▸hj)) (fun hib=>hiD (hcl j hj i hib)) (fun hx=>?_) _ _ _ _ _ (h4 (hw.imp (fun h=>h) (fun⟨k,a,b,c⟩=>⟨k,a,fun h=>b (List.mem_cons_of_mem _ h),c⟩))) hg2⟩
       obtain⟨hx1,hx2⟩:=hexB j i hx
       rcases hw with hw|⟨k,hk,hkD,hkn⟩
       ·exact hx1 hw
       ·rcases hx2 k hk hkn with e|e
        ·exact hkD (e▸List.mem_cons_self)
        ·exact hkD (List.mem_cons_of_mem _ (hbD k e))
     ·have h5:=hg2.size
      rcases List.mem_cons.1 hp with ep|hp'
      ·rcases List.mem_cons.1 hq with eq|hq'
       ·exact absurd (ep.trans eq.symm) hpq
       ·have hne:q≠i:=fun e=>hpq (ep.trans e.symm)
        simp only[if_pos ep,if_neg hne]
        exact .inr (hpost q hq').2.2.1
      ·have hne:p≠i:=fun e=>hiD (e▸hp')
       rcases List.mem_cons.1 hq with eq|hq'
       ·simp only[if_pos eq,if_neg hne]
        exact .inl (hpost p hp').2.2.1
       ·have hne2:q≠i:=fun e=>hiD (e▸hq')
        simp only[if_neg hne,if_neg hne2]
        exact hdis p hp' q hq' hpq
 refine key l.toArray.size (Array.replicate l.toArray.size false) a _ [] (fun _=>undef) (fun _=>0) (fun _=>0) (by simp) (fun j=>?_) (by simp) List.nodup_nil (fun i _ hi=>by simp[hi]) (fun j hj=>by cases hj) rfl (GrowX.refl _) (fun j hj=>by cases hj) (fun j hj=>by cases hj)
 constructor
 ·intro h;cases h
 ·rintro⟨_,h⟩
  rw[Array.getElem?_replicate]at h
  split at h<;>simp at h
theorem wp_region_partsDK(W:Nat→Nat→Prop){P:Program}{id:Nat}{l:List Oper}{Q:Exit→Act→World→Prop}{a:Act}{w:World}(N:Nat)(bs:List (List Nat))(ds:List (Option Tmp))(ne:List (List Nat))(tl:List Nat)(ex:List (Nat×Nat))(hX:exB N bs ne tl ex=true)(hm:P.follows .mixedOrders=true)(hB:partsB l N bs=true)
  (hds:l.map (·.dst)=ds) (Post:Nat→Value→Nat→Nat→World→Prop) (stable:∀i j,i<N→j<N→j≠i→j∉bs.getD i []→(i,j)∉ex→∀v lo hi w w',Post i v lo hi w→GrowX (W j) w w'→Post i v lo hi w')
  (parts:∀i,i<N→∀o,l[i]? = some o→∀(vs:Nat→Value)(lo hi:Nat→Nat)(w':World),GrowX (fun b=>∃j,j<N∧j≠i∧i∉bs.getD j []∧W j b) w w'→(∀j∈ne.getD i [],w.heap.size≤lo j∧lo j≤hi j∧hi j≤w'.heap.size∧Post j (vs j) (lo j) (hi j) w')→
   wpList P l.toArray (PartEndK (W i) (actsD ds vs (bs.getD i []) a) o.dst w' (Post i)) [o] (actsD ds vs (bs.getD i []) a) w')
  (tail:∀(vs:Nat→Value)(lo hi:Nat→Nat)(w':World),GrowX (fun b=>∃j,j<N∧W j b) w w'→(∀j,j<N→w.heap.size≤lo j∧lo j≤hi j∧hi j≤w'.heap.size∧(j∈tl→Post j (vs j) (lo j) (hi j) w'))→(∀i j,i<N→j<N→i≠j→hi i≤lo j∨hi j≤lo i)→
   wpList P l.toArray Q (l.drop N) (actsD ds vs (List.range N) a) w'):
  (Code.region id l.toArray true).wp P Q a w:=by
 subst hds
 refine wp_region_partsK W N bs ne tl ex hX hm hB Post stable (fun i hi o ho vs lo h w' hg hp=>?_) (fun vs lo hi w' hg hp hd=>?_)
 ·have:=parts i hi o ho vs lo h w' ⟨hg.os,hg.tape,hg.output,hg.size,hg.block⟩ hp
  rw[actsD_eq]at this
  exact this
 ·have:=tail vs lo hi w' ⟨hg.os,hg.tape,hg.output,hg.size,hg.block⟩ hp hd
  rw[actsD_eq]at this
  exact this
end
section
open Go.RowKit
theorem GrowX.step{X Y:Nat→Prop}{a b c:World}(h:GrowX X a b)(k:GrowX Y b c)(hY:∀q,q<a.heap.size→Y q→X q):GrowX X a c:=
 ⟨k.os.trans h.os,k.tape.trans h.tape,k.output.trans h.output,Nat.le_trans h.size k.size,fun i hi hx=>(k.block i (Nat.lt_of_lt_of_le hi h.size) (fun y=>hx (hY i hi y))).trans (h.block i hi hx)⟩
theorem Box.growx{X:Nat→Prop}{w w':World}{g:Nat}{vs:List Value}(h:Box w g vs)(hg:GrowX X w w')(hX:¬X g):Box w' g vs:=by
 have hb:w'.heap[g]? = w.heap[g]? := hg.block g h.lt hX
 refine⟨Nat.lt_of_lt_of_le h.lt hg.size,fun i v hi=>?_,fun o=>?_⟩
 ·rw[←h.cell i v hi];exact World.cell?_of_block (w:=w) hb
 ·rw[←h.free o];exact World.frozen?_of_block (w:=w) hb
theorem grow_below{X:Nat→Prop}{w w':World}(h:Below w.heap.size w w'):GrowX X w w':=⟨h.os,h.tape,h.output,h.size,fun k hk _=>h.block k hk⟩
structure Foot(S S':Nat→Prop)(w w':World):Prop where
 grow:GrowX S w w'
 new:∀k,S' k→S k∨w.heap.size≤k
theorem Foot.below{S:Nat→Prop}{w w':World}(h:GrowX (fun _=>False) w w'):Foot S S w w':=⟨h.mono (fun _ h=>h.elim),fun k h=>.inl h⟩
theorem Foot.trans{S S' S'':Nat→Prop}{a b c:World}(h:Foot S S' a b)(k:Foot S' S'' b c):Foot S S'' a c:=
 ⟨h.grow.step k.grow (fun q hq hs=>(h.new q hs).elim (fun h=>h) (fun h=>by omega)),fun q hs=>(k.new q hs).elim (fun hs=>h.new q hs) (fun h2=>.inr (Nat.le_trans h.grow.size h2))⟩
def Disj(S R:Nat→Prop):Prop:=∀k,S k→R k→False
theorem Foot.disj{S S' R:Nat→Prop}{w w':World}(h:Foot S S' w w')(hd:Disj S R)(hR:∀k,R k→k<w.heap.size):Disj S' R:=
 fun k hs hr=>(h.new k hs).elim (fun hs=>hd k hs hr) (fun h2=>by have:=hR k hr;omega)
theorem Disj.symm{S R:Nat→Prop}(h:Disj S R):Disj R S:=fun k a b=>h k b a
def zsec:List UInt8:=List.replicate 128 0
def padS(s:List UInt8):List UInt8:=if s=[] then zsec else s
structure Dv where
 l:List (List UInt8)
 c:List (Nat×List UInt8)
 fuse:Int
 dead:Bool
 calls:Int
def overC(i:Nat)(c:List (Nat×List UInt8))(b:List UInt8):List UInt8:=c.foldl (fun b x=>if x.1=i then x.2 else b) b
def Dv.sec(D:Dv)(i:Nat):List UInt8:=overC i D.c (padS (D.l.getD i []))
structure Dv.ok(D:Dv):Prop where
 l:∀s∈D.l,s=[]∨s.length=128
 c:∀x∈D.c,x.1<D.l.length∧x.2.length=128
 n:D.l.length≤8192
 f1 : -1≤D.fuse
 f2:D.fuse≤9223372036854775807
def wrapC(n:Int):Int:=wrap64 (n+1)
def Dv.burn(D:Dv):Bool×Dv:=
 if D.fuse=0 then(false,{ D with dead:=true })else
 if 0<D.fuse then(true,{ D with fuse:=D.fuse-1,calls:=wrapC D.calls })else(true,{ D with calls:=wrapC D.calls })
abbrev Se:=List UInt8×Value
abbrev Ce:=Nat×List UInt8×Value
def ccel(E:List Ce):List Value:=E.flatMap fun e=>[.int .i64 (e.1:Int),e.2.2]
theorem ccel_length(E:List Ce):(ccel E).length=E.length*2:=by
 induction E with
 | nil=>rfl
 | cons a r ih=>simp only[ccel,List.flatMap_cons,List.length_append,List.length_cons,List.length_nil]at *;omega
theorem ccel_append(E F:List Ce):ccel (E++F)=ccel E++ccel F:=by simp[ccel]
theorem ccel_at(E:List Ce)(k:Nat)(e:Ce)(h:E[k]? = some e):(ccel E)[k*2]? = some (.int .i64 (e.1:Int))∧(ccel E)[k*2+1]? = some e.2.2:=by
 induction E generalizing k with
 | nil=>simp at h
 | cons a r ih=>
  cases k with
  | zero=>simp at h;subst h;exact⟨rfl,rfl⟩
  | succ k=>
   have:=ih k (by simpa using h)
   simp only[ccel,List.flatMap_cons]at *
   rw[Nat.succ_mul]
   refine⟨?_,?_⟩
   ·rw[List.getElem?_append_right (by simp)];simpa using this.1
   ·rw[List.getElem?_append_right (by simp)]
    have e:k*2+2+1 - [Value.int .i64 (a.1:Int),a.2.2].length=k*2+1:=by simp
    rw[e];exact this.2
def SecAt(w:World)(K:Nat→Prop)(b:List UInt8)(v:Value):Prop:=Reads 1 w v b.length (b.map B)∧∀q,v.ownBlock=some q→K q
structure DvAt(w:World)(G d:Nat)(D:Dv)(vl vc:Value)(EL:List Se)(EC:List Ce)(K:Nat→Prop):Prop where
 box:Box w d [vl,vc,.int .i64 D.fuse,.bool D.dead,.int .i64 D.calls]
 lrow:w.ownsRow G 48 1 vl EL.length (EL.map (·.2))
 crow:w.ownsRow G 130 2 vc EC.length (ccel EC)
 lis:D.l=EL.map (·.1)
 cis:D.c=EC.map fun e=>(e.1,e.2.1)
 ltx:∀e∈EL,SecAt w K e.1 e.2
 ctx:∀e∈EC,SecAt w K e.2.1 e.2.2
 kin:∀k,K k→G≤k∧k<w.heap.size
 kd:¬K d
 kl:∀q,vl.ownBlock=some q→¬K q∧q≠d∧¬vc.ownBlock=some q
 kc:∀q,vc.ownBlock=some q→¬K q∧q≠d
 ok:D.ok
theorem SecAt.grow{X K:Nat→Prop}{w w':World}{b:List UInt8}{v:Value}(h:SecAt w K b v)(hg:GrowX X w w')(hX:∀k,K k→¬X k):SecAt w' K b v:=by
 refine⟨?_,h.2⟩
 obtain⟨ao,c,e,hl,hc,hr⟩:=h.1
 refine⟨ao,c,e,hl,hc,fun hn=>?_⟩
 obtain⟨q,o,e2,hq,hcell⟩:=hr hn
 subst e2
 refine⟨q,o,rfl,Nat.lt_of_lt_of_le hq hg.size,fun j u hu=>?_⟩
 have hk:¬X q:=hX q (h.2 q (by rw[e];rfl))
 have:=hcell j u hu
 have hb:=hg.block q hq hk
 simp only[World.cell?]at *
 rw[hb]
 exact this
theorem DvAt.put{w w':World}{G d:Nat}{D D':Dv}{vl vc:Value}{EL:List Se}{EC:List Ce}{K:Nat→Prop}(h:DvAt w G d D vl vc EL EC K)
  (hb:Box w' d [vl,vc,.int .i64 D'.fuse,.bool D'.dead,.int .i64 D'.calls]) (hg:GrowX (fun k=>k=d) w w') (hl:D'.l=D.l) (hc:D'.c=D.c) (hok:D'.ok):DvAt w' G d D' vl vc EL EC K:=
 ⟨hb,own_growx h.lrow hg (fun q e=>(h.kl q e).2.1),own_growx h.crow hg (fun q e=>(h.kc q e).2),hl.trans h.lis,hc.trans h.cis,
  fun e he=>(h.ltx e he).grow hg (fun k hk e=>h.kd (e▸hk)),fun e he=>(h.ctx e he).grow hg (fun k hk e=>h.kd (e▸hk)),
  fun k hk=>⟨(h.kin k hk).1,Nat.lt_of_lt_of_le (h.kin k hk).2 hg.size⟩,h.kd,h.kl,h.kc,hok⟩
theorem DvAt.grow{X:Nat→Prop}{w w':World}{G d:Nat}{D:Dv}{vl vc:Value}{EL:List Se}{EC:List Ce}{K:Nat→Prop}(h:DvAt w G d D vl vc EL EC K)
  (hg:GrowX X w w') (h1:¬X d) (h2:∀q,vl.ownBlock=some q→¬X q) (h3:∀q,vc.ownBlock=some q→¬X q) (h4:∀q,K q→¬X q):DvAt w' G d D vl vc EL EC K:=
 ⟨h.box.growx hg h1,own_growx h.lrow hg h2,own_growx h.crow hg h3,h.lis,h.cis,fun e he=>(h.ltx e he).grow hg h4,fun e he=>(h.ctx e he).grow hg h4,
  fun k hk=>⟨(h.kin k hk).1,Nat.lt_of_lt_of_le (h.kin k hk).2 hg.size⟩,h.kd,h.kl,h.kc,h.ok⟩
def DV(W0:World)(d:Nat)(D:Dv)(S:Nat→Prop)(w:World):Prop:=
 ∃vl vc EL EC K,DvAt w W0.heap.size d D vl vc EL EC K∧W0.heap.size≤d∧Below W0.heap.size W0 w∧S=fun k=>k=d∨vl.ownBlock=some k∨vc.ownBlock=some k∨K k
theorem DV.bel{W0 w:World}{d:Nat}{D:Dv}{S:Nat→Prop}(h:DV W0 d D S w):Below W0.heap.size W0 w:=by obtain⟨_,_,_,_,_,_,_,h,_⟩:=h;exact h
theorem DV.ok{W0 w:World}{d:Nat}{D:Dv}{S:Nat→Prop}(h:DV W0 d D S w):D.ok:=by obtain⟨_,_,_,_,_,h,_⟩:=h;exact h.ok
theorem DV.lt{W0 w:World}{d:Nat}{D:Dv}{S:Nat→Prop}(h:DV W0 d D S w):∀k,S k→W0.heap.size≤k∧k<w.heap.size:=by
 obtain⟨vl,vc,EL,EC,K,h1,h2,h3,rfl⟩:=h
 rintro k (rfl|h|h|h)
 ·exact⟨h2,h1.box.lt⟩
 ·exact h1.lrow.lt k h
 ·exact h1.crow.lt k h
 ·exact h1.kin k h
theorem DV.grow{W0 w w':World}{d:Nat}{D:Dv}{S X:Nat→Prop}(h:DV W0 d D S w)(hg:GrowX X w w')(hX:Disj S X)(hB:Below W0.heap.size W0 w'):DV W0 d D S w':=by
 obtain⟨vl,vc,EL,EC,K,h1,h2,h3,rfl⟩:=h
 exact⟨vl,vc,EL,EC,K,h1.grow hg (fun h=>hX d (.inl rfl) h) (fun q e h=>hX q (.inr (.inl e)) h) (fun q e h=>hX q (.inr (.inr (.inl e))) h) (fun q e h=>hX q (.inr (.inr (.inr e))) h),h2,hB,rfl⟩
theorem DV.below{W0 w w':World}{d:Nat}{D:Dv}{S:Nat→Prop}(h:DV W0 d D S w)(hb:Below w.heap.size w w'):DV W0 d D S w':=
 h.grow (X:=fun _=>False) (grow_below hb) (fun _ _ h=>h) (h.bel.trans (hb.mono h.bel.size))
end
end Go.Proofs.YtpajagkhmodbnaaGreat

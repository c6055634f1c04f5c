/- Pk: texts of the store seat laid together by program: PartsV. Conditions: each theorem names its own. -/
import Derived.Test.YtpajagkhmodbnaaGreatPk5
namespace Go.Proofs.YtpajagkhmodbnaaGreat
set_option linter.unusedSimpArgs false
set_option linter.unusedVariables false
section
open Go.RowKit
theorem wp_region_partsV (W:Nat→Nat→Nat→Prop) {P:Program} {id:Nat} {l:List Oper} {Q:Exit→Act→World→Prop} {a:Act} {w:World} (N:Nat) (bs:List (List Nat)) (ne:List (List Nat)) (tl:List Nat) (ex:List (Nat×Nat)) (hX:exB N bs ne tl ex=true) (hm:P.follows .mixedOrders=true) (hB:partsB l N bs=true)
  (Post:Nat→(Nat→Value)→(Nat→Nat)→(Nat→Nat)→Value→Nat→Nat→World→Prop) (cong:∀i,i<N→∀vs vs' lo lo' hi hi' v l h w,(∀j∈bs.getD i [],vs j=vs' j∧lo j=lo' j∧hi j=hi' j)→Post i vs lo hi v l h w→Post i vs' lo' hi' v l h w) (stable:∀i j,i<N→j<N→j≠i→j∉bs.getD i []→(i,j)∉ex→∀vs lo hi v l h w w',Post i vs lo hi v l h w→GrowC (W j) w w'→Post i vs lo hi v l h w')
  (parts:∀i,i<N→∀o,l[i]? = some o→∀(vs:Nat→Value)(lo hi:Nat→Nat)(w':World),GrowC (fun b o=>∃j,j<N∧j≠i∧i∉bs.getD j []∧W j b o) w.drew w'→(∀j∈ne.getD i [],w.heap.size≤lo j∧lo j≤hi j∧hi j≤w'.heap.size∧Post j vs lo hi (vs j) (lo j) (hi j) w')→(∀p∈bs.getD i [],∀q∈bs.getD i [],p≠q→hi p≤lo q∨hi q≤lo p)→
   wpList P l.toArray (PartEndC (W i) (acts l vs (bs.getD i []) a) o.dst w' (Post i vs lo hi)) [o] (acts l vs (bs.getD i []) a) w')
  (tail:∀(vs:Nat→Value)(lo hi:Nat→Nat)(w':World),GrowC (fun b o=>∃j,j<N∧W j b o) w.drew w'→(∀j,j<N→w.heap.size≤lo j∧lo j≤hi j∧hi j≤w'.heap.size∧(j∈tl→Post j vs lo hi (vs j) (lo j) (hi j) w'))→(∀i j,i<N→j<N→i≠j→hi i≤lo j∨hi j≤lo i)→wpList P l.toArray Q (l.drop N) (acts l vs (List.range N) a) w'):
  (Code.region id l.toArray true).wp P Q a w:=by
 obtain⟨hneB,hexB⟩:=exB_parts hX
 obtain⟨hN,hsel,hlex,hbs,hdst,hself,htail⟩:=partsB_parts hB
 have htail':∀(i:Nat) o,l[i]? = some o→N<i→i-1∈direct o:=fun i o ho hi=>(htail i o ho (by omega) (i-1) (by omega)).elim (fun h=>h) (fun h=>h.elim (fun h=>absurd h.1 (by omega)) (fun h=>h.2))
 refine wp_region_any hm ?_
 have uniq:∀(D:List Nat),(∀j∈D,j<N)→∀j∈D,∀k∈D,∀t,(l[j]?).bind (·.dst)=some t→(l[k]?).bind (·.dst)=some t→k=j:=by
  intro D hD j hj k hk t h1 h2
  apply Classical.byContradiction
  intro hne
  have hjl:j<l.length:=by have:=hD j hj;omega
  have hlj:l[j]? = some l[j]:=List.getElem?_eq_getElem hjl
  have:=(hdst j l[j] hlj (hD j hj) k (hD k hk) hne t h2).1
  rw[hlj]at h1
  exact this h1
 -- what holds while operations of the first N are left
 have key:∀(fuel:Nat)(listed:Array Bool)(b:Act)(w':World)(D:List Nat)(vs:Nat→Value)(lo hi:Nat→Nat),listed.size=l.length→(∀j,j∈D↔j<N∧listed[j]? = some true)→D.length+fuel=l.length→D.Nodup→
   (∀i,N≤i→i<l.length→listed[i]? = some false)→(∀j∈D,∀k∈bs.getD j [],k∈D)→b=acts l vs D a→GrowC (fun b o=>∃j,j∈D∧W j b o) w.drew w'→(∀j∈D,w.heap.size≤lo j∧lo j≤hi j∧hi j≤w'.heap.size∧((j∈tl∨∃k,k<N∧k∉D∧j∈ne.getD k [])→Post j vs lo hi (vs j) (lo j) (hi j) w'))→(∀i∈D,∀j∈D,i≠j→hi i≤lo j∨hi j≤lo i)→
   wpAny P .any l.toArray Q fuel listed b w':=by
  intro fuel
  induction fuel with
  | zero=>
   intro listed b w' D vs lo hi hsz hDm hlen hnd htl hcl hb hg hpost hdis
   -- all are done: then N is the whole
   have hDN:D.length≤N:=by
    have h1:=hnd.length_le_of_subset (fun j hj=>List.mem_range.2 ((hDm j).1 hj).1:D ⊆ List.range N)
    simpa using h1
   have hNl:N=l.length:=by omega
   have hall:∀j,j<N→j∈D:=by
    intro j hj
    apply Classical.byContradiction
    intro hc
    have h1:=(List.nodup_cons.2 ⟨hc,hnd⟩).length_le_of_subset (fun k hk=>List.mem_range.2 (by
     rcases List.mem_cons.1 hk with rfl|hk
     ·exact hj
     ·exact((hDm k).1 hk).1):(j::D) ⊆ List.range N)
    simp at h1
    omega
   refine tail_run (N:=N) hlex htail' 0 N listed b w' (by omega) (Nat.le_refl _) hsz (fun i hi=>⟨fun _=>by omega,fun h=>((hDm i).1 (hall i h)).2⟩) ?_
   have hE:b=acts l vs (List.range N) a:=by
    rw[hb]
    exact acts_ext l vs vs D (List.range N) a (fun j=>⟨fun h=>List.mem_range.2 ((hDm j).1 h).1,fun h=>hall j (List.mem_range.1 h)⟩) (fun _ _=>rfl) (uniq D (fun j hj=>((hDm j).1 hj).1))
   rw[hE]
   exact tail vs lo hi w' (hg.mono (fun b o h=>h.elim fun j h=>⟨j,((hDm j).1 h.1).1,h.2⟩)) (fun j hj=>have h:=hpost j (hall j hj);⟨h.1,h.2.1,h.2.2.1,fun ht=>h.2.2.2 (.inl ht)⟩) (fun i j hi hj=>hdis i (hall i hi) j (hall j hj))
  | succ fuel ih=>
   intro listed b w' D vs lo hi hsz hDm hlen hnd htl hcl hb hg hpost hdis
   by_cases hfull:∀j,j<N→j∈D
   ·have hDN:D.length=N:=by
     have h1:D.Perm (List.range N):=by
      refine(List.perm_ext_iff_of_nodup hnd List.nodup_range).2 (fun j=>?_)
      rw[List.mem_range]
      exact⟨fun h=>((hDm j).1 h).1,hfull j⟩
     simpa using h1.length_eq
    refine tail_run (N:=N) hlex htail' (fuel+1) N listed b w' (by omega) (Nat.le_refl _) hsz (fun i hi=>⟨fun h=>?_,fun h=>((hDm i).1 (hfull i h)).2⟩) ?_
    ·apply Classical.byContradiction
     intro hc
     rw[htl i (by omega) hi]at h;cases h
    ·have hE:b=acts l vs (List.range N) a:=by
      rw[hb]
      exact acts_ext l vs vs D (List.range N) a (fun j=>⟨fun h=>List.mem_range.2 ((hDm j).1 h).1,fun h=>hfull j (List.mem_range.1 h)⟩) (fun _ _=>rfl) (uniq D (fun j hj=>((hDm j).1 hj).1))
     rw[hE]
     exact tail vs lo hi w' (hg.mono (fun b o h=>h.elim fun j h=>⟨j,((hDm j).1 h.1).1,h.2⟩)) (fun j hj=>have h:=hpost j (hfull j hj);⟨h.1,h.2.1,h.2.2.1,fun ht=>h.2.2.2 (.inl ht)⟩) (fun i j hi hj=>hdis i (hfull i hi) j (hfull j hj))
   ·refine⟨fun hnil=>?_,fun i hir=>?_⟩
    ·exfalso
     apply hfull
     intro j hj
     have:=ready_nil (ops:=l.toArray) (by simpa using hsz) (fun i o ho=>hlex i o (by simpa using ho)) hnil j (by simp;omega)
     have hj2:j<listed.size:=by omega
     simp[hj2]at this
     exact(hDm j).2 ⟨hj,by simp[hj2,this]⟩
    ·obtain⟨o,ho,hf,hd⟩:=ready_spec hir (by simpa using hsz)
     have ho':l[i]? = some o:=by simpa using ho
     have hlt:i<l.length:=(List.getElem?_eq_some_iff.1 ho').1
     have direct_in:∀k∈direct o,k<N→k∈D:=by
      intro k hk hkN
      have:=hd k hk
      have hk2:k<listed.size:=by omega
      simp[hk2]at this
      exact(hDm k).2 ⟨hkN,by simp[hk2,this]⟩
     have hiN:i<N:=by
      apply Classical.byContradiction
      intro hc
      refine hfull (fun j hj=>?_)
      rcases htail i o ho' (by omega) j (by omega)with h|⟨_,k,hk,hkN,h⟩|⟨hNi,hNd⟩
      ·exact direct_in j h hj
      ·exact hcl k (direct_in k hk hkN) j h
      ·have h1:=hd (i-1) hNd
       have h2:=htl (i-1) (by omega) (by omega)
       rw[Array.getD_eq_getD_getElem?,h2]at h1;cases h1
     have hiD:i∉D:=fun h=>by have:=((hDm i).1 h).2;rw[this]at hf;cases hf
     have hbD:∀j∈bs.getD i [],j∈D:=by
      intro j hj
      obtain⟨_,k,hk,hkN,h⟩:=hbs i o ho' hiN j hj
      have hkD:=direct_in k hk hkN
      rcases h with rfl|h
      ·exact hkD
      ·exact hcl k hkD j h
     have hrun:=parts i hiN o ho' vs lo hi w' (hg.mono (fun b o h=>h.elim fun j h=>⟨j,((hDm j).1 h.1).1,(fun e=>hiD (e▸h.1)),(fun hib=>hiD (hcl j h.1 i hib)),h.2⟩)) (fun j hj=>have h:=hpost j (hbD j (hneB i j hiN hj));⟨h.1,h.2.1,h.2.2.1,h.2.2.2 (.inr ⟨i,hiN,hiD,hj⟩)⟩) (fun p hp q hq hpq=>hdis p (hbD p hp) q (hbD q hq) hpq)
     have hag:∀t∈o.looksAt l.toArray,(acts l vs (bs.getD i []) a).tmps[t]? = b.tmps[t]? := by
      intro t ht
      rw[hb]
      by_cases h:∃j∈D,(l[j]?).bind (·.dst)=some t
      ·obtain⟨j,hj,hdj⟩:=h
       have hjN:=((hDm j).1 hj).1
       have hji:j≠i:=fun e=>hiD (e▸hj)
       have hjb:=(hdst i o ho' hiN j hjN hji t hdj).2 ht
       by_cases hts:t<a.tmps.size
       ·rw[acts_get_same l vs _ a t hts j hjb hdj (fun k hk he=>uniq D (fun j hj=>((hDm j).1 hj).1) j hj k (hbD k hk) t hdj he),
         acts_get_same l vs _ a t hts j hj hdj (fun k hk he=>uniq D (fun j hj=>((hDm j).1 hj).1) j hj k hk t hdj he)]
       ·rw[Array.getElem?_eq_none (by rw[acts_size];exact Nat.le_of_not_lt hts),Array.getElem?_eq_none (by rw[acts_size];exact Nat.le_of_not_lt hts)]
      ·rw[acts_get_other l vs _ a t (fun j hj he=>h ⟨j,hbD j hj,he⟩),acts_get_other l vs _ a t (fun j hj he=>h ⟨j,hj,he⟩)]
     refine part_runC (ops:=l.toArray) ho (hsel o (List.mem_of_getElem? ho')) (by rw[acts_size,hb,acts_size]) hag hrun ?_
     intro v w2 hg2 hp2
     refine ih _ _ w2 (i::D) (fun k=>if k=i then v else vs k) (fun k=>if k=i then w'.heap.size else lo k) (fun k=>if k=i then w2.heap.size else hi k) (by simpa using hsz) (fun j=>?_) (by simp;omega) (List.nodup_cons.2 ⟨hiD,hnd⟩) (fun k hk hkl=>?_) (fun j hj k hk=>?_) ?_ ((hg.mono (fun b o h=>h.elim fun j h=>⟨j,List.mem_cons_of_mem _ h.1,h.2⟩)).trans (hg2.mono (fun b o h=>⟨i,List.mem_cons_self,h⟩))) (fun j hj=>?_) (fun p hp q hq hpq=>?_)
     ·rw[List.mem_cons,hDm]
      by_cases e:i=j
      ·subst e;simp[show i<listed.size by omega,hiN]
      ·rw[Array.getElem?_setIfInBounds_ne e]
       constructor
       ·rintro(h|h)
        ·exact absurd h.symm e
        ·exact h
       ·exact .inr
     ·rw[Array.getElem?_setIfInBounds_ne (by omega)];exact htl k hk hkl
     ·rcases List.mem_cons.1 hj with rfl|hj
      ·exact List.mem_cons_of_mem _ (hbD k hk)
      ·exact List.mem_cons_of_mem _ (hcl j hj k hk)
     ·have h1:acts l (fun k=>if k=i then v else vs k) (D++[i]) a=b.put o.dst v:=by
       unfold acts
       rw[List.foldl_append]
       have h2:acts l (fun k=>if k=i then v else vs k) D a=b:=by
        rw[hb]
        exact acts_ext l _ _ D D a (fun _=>Iff.rfl) (fun j hj=>if_neg (fun e:j=i=>hiD (e▸hj))) (uniq D (fun j hj=>((hDm j).1 hj).1))
       unfold acts at h2
       rw[h2]
       simp[ho']
      rw[←h1]
      refine acts_ext l _ _ _ _ a (fun j=>by simp;exact Or.comm) (fun _ _=>rfl) (uniq (D++[i]) (fun j hj=>?_))
      rcases List.mem_append.1 hj with hj|hj
      ·exact((hDm j).1 hj).1
      ·simp at hj;omega
     ·rcases List.mem_cons.1 hj with rfl|hj
      ·have h1:=hg.size
       have h2:=hg2.size
       simp only[if_true]
       exact⟨h1,h2,Nat.le_refl _,fun _=>cong _ hiN vs _ lo _ hi _ _ _ _ _ (fun q hq=>by have h:=hbD q hq;have hne:¬q=j:=fun e=>hiD (e▸h);simp only[if_neg hne,and_self]) hp2⟩
      ·have hne:j≠i:=fun e=>hiD (e▸hj)
       obtain⟨h1,h2,h3,h4⟩:=hpost j hj
       have h5:=hg2.size
       simp only[if_neg hne]
       refine⟨h1,h2,by omega,fun hw=>cong j ((hDm j).1 hj).1 vs _ lo _ hi _ _ _ _ _ (fun q hq=>by have h:=hcl j hj q hq;have hne:¬q=i:=fun e=>hiD (e▸h);simp only[if_neg hne,and_self]) (stable j i ((hDm j).1 hj).1 hiN (fun e=>hiD (e▸hj)) (fun hib=>hiD (hcl j hj i hib)) (fun hx=>?_) _ _ _ _ _ _ _ _ (h4 (hw.imp (fun h=>h) (fun⟨k,a,b,c⟩=>⟨k,a,fun h=>b (List.mem_cons_of_mem _ h),c⟩))) hg2)⟩
       obtain⟨hx1,hx2⟩:=hexB j i hx
       rcases hw with hw|⟨k,hk,hkD,hkn⟩
       ·exact hx1 hw
       ·rcases hx2 k hk hkn with e|e
        ·exact hkD (e▸List.mem_cons_self)
        ·exact hkD (List.mem_cons_of_mem _ (hbD k e))
     ·have h5:=hg2.size
      rcases List.mem_cons.1 hp with ep|hp'
      ·rcases List.mem_cons.1 hq with eq|hq'
       ·exact absurd (ep.trans eq.symm) hpq
       ·have hne:q≠i:=fun e=>hpq (ep.trans e.symm)
        simp only[if_pos ep,if_neg hne]
        exact .inr (hpost q hq').2.2.1
      ·have hne:p≠i:=fun e=>hiD (e▸hp')
       rcases List.mem_cons.1 hq with eq|hq'
       ·simp only[if_pos eq,if_neg hne]
        exact .inl (hpost p hp').2.2.1
       ·have hne2:q≠i:=fun e=>hiD (e▸hq')
        simp only[if_neg hne,if_neg hne2]
        exact hdis p hp' q hq' hpq
 refine key l.toArray.size (Array.replicate l.toArray.size false) a _ [] (fun _=>undef) (fun _=>0) (fun _=>0) (by simp) (fun j=>?_) (by simp) List.nodup_nil (fun i _ hi=>by simp[hi]) (fun j hj=>by cases hj) rfl (GrowC.refl _) (fun j hj=>by cases hj) (fun j hj=>by cases hj)
 constructor
 ·intro h;cases h
 ·rintro⟨_,h⟩
  rw[Array.getElem?_replicate]at h
  split at h<;>simp at h
theorem wp_region_partsDV(W:Nat→Nat→Nat→Prop){P:Program}{id:Nat}{l:List Oper}{Q:Exit→Act→World→Prop}{a:Act}{w:World}(N:Nat)(bs:List (List Nat))(ds:List (Option Tmp))(ne:List (List Nat))(tl:List Nat)(ex:List (Nat×Nat))(hX:exB N bs ne tl ex=true)(hm:P.follows .mixedOrders=true)(hB:partsB l N bs=true)
  (hds:l.map (·.dst)=ds) (Post:Nat→(Nat→Value)→(Nat→Nat)→(Nat→Nat)→Value→Nat→Nat→World→Prop) (cong:∀i,i<N→∀vs vs' lo lo' hi hi' v l h w,(∀j∈bs.getD i [],vs j=vs' j∧lo j=lo' j∧hi j=hi' j)→Post i vs lo hi v l h w→Post i vs' lo' hi' v l h w) (stable:∀i j,i<N→j<N→j≠i→j∉bs.getD i []→(i,j)∉ex→∀vs lo hi v l h w w',Post i vs lo hi v l h w→GrowC (W j) w w'→Post i vs lo hi v l h w')
  (parts:∀i,i<N→∀o,l[i]? = some o→∀(vs:Nat→Value)(lo hi:Nat→Nat)(w':World),GrowC (fun b o=>∃j,j<N∧j≠i∧i∉bs.getD j []∧W j b o) w w'→(∀j∈ne.getD i [],w.heap.size≤lo j∧lo j≤hi j∧hi j≤w'.heap.size∧Post j vs lo hi (vs j) (lo j) (hi j) w')→(∀p∈bs.getD i [],∀q∈bs.getD i [],p≠q→hi p≤lo q∨hi q≤lo p)→
   wpList P l.toArray (PartEndC (W i) (actsD ds vs (bs.getD i []) a) o.dst w' (Post i vs lo hi)) [o] (actsD ds vs (bs.getD i []) a) w')
  (tail:∀(vs:Nat→Value)(lo hi:Nat→Nat)(w':World),GrowC (fun b o=>∃j,j<N∧W j b o) w w'→(∀j,j<N→w.heap.size≤lo j∧lo j≤hi j∧hi j≤w'.heap.size∧(j∈tl→Post j vs lo hi (vs j) (lo j) (hi j) w'))→(∀i j,i<N→j<N→i≠j→hi i≤lo j∨hi j≤lo i)→
   wpList P l.toArray Q (l.drop N) (actsD ds vs (List.range N) a) w'):
  (Code.region id l.toArray true).wp P Q a w:=by
 subst hds
 refine wp_region_partsV W N bs ne tl ex hX hm hB Post cong stable (fun i hi o ho vs lo h w' hg hp hdd=>?_) (fun vs lo hi w' hg hp hd=>?_)
 ·have:=parts i hi o ho vs lo h w' ⟨hg.os,hg.tape,hg.output,hg.size,hg.block,hg.cell,hg.frozen⟩ hp hdd
  rw[actsD_eq]at this
  exact this
 ·have:=tail vs lo hi w' ⟨hg.os,hg.tape,hg.output,hg.size,hg.block,hg.cell,hg.frozen⟩ hp hd
  rw[actsD_eq]at this
  exact this
end
end Go.Proofs.YtpajagkhmodbnaaGreat

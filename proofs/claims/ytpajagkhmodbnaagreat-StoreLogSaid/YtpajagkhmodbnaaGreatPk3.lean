/- Pk: texts of the store seat laid together by program: PartsC. Conditions: each theorem names its own. -/
import Derived.Test.YtpajagkhmodbnaaGreatPk1
namespace Go.Proofs.YtpajagkhmodbnaaGreat
set_option linter.unusedSimpArgs false
set_option linter.unusedVariables false
section
open Go.RowKit
structure GrowC(X:Nat→Nat→Prop)(w w':World):Prop where
  os:w'.os=w.os
  tape:w'.tape=w.tape
  output:w'.output=w.output
  size:w.heap.size≤w'.heap.size
  block:∀k,k<w.heap.size→(∀o,¬X k o)→w'.heap[k]? = w.heap[k]?
  cell:∀k o,k<w.heap.size→¬X k o→w'.cell? ⟨k,o,none⟩=w.cell? ⟨k,o,none⟩
  frozen:∀k o,k<w.heap.size→w'.frozen? ⟨k,o,none⟩=w.frozen? ⟨k,o,none⟩
theorem GrowC.refl{X:Nat→Nat→Prop}(w:World):GrowC X w w:=⟨rfl,rfl,rfl,Nat.le_refl _,fun _ _ _=>rfl,fun _ _ _ _=>rfl,fun _ _ _=>rfl⟩
theorem GrowC.trans{X:Nat→Nat→Prop}{a b c:World}(h:GrowC X a b)(k:GrowC X b c):GrowC X a c:=
  ⟨k.os.trans h.os,k.tape.trans h.tape,k.output.trans h.output,Nat.le_trans h.size k.size,fun i hi hx=>(k.block i (Nat.lt_of_lt_of_le hi h.size) hx).trans (h.block i hi hx),
   fun i o hi hx=>(k.cell i o (Nat.lt_of_lt_of_le hi h.size) hx).trans (h.cell i o hi hx),fun i o hi=>(k.frozen i o (Nat.lt_of_lt_of_le hi h.size)).trans (h.frozen i o hi)⟩
theorem GrowC.mono{X Y:Nat→Nat→Prop}{a b:World}(h:GrowC X a b)(hXY:∀k o,X k o→Y k o):GrowC Y a b:=
  ⟨h.os,h.tape,h.output,h.size,fun k hk hx=>h.block k hk (fun o hX=>hx o (hXY k o hX)),fun k o hk hx=>h.cell k o hk (fun hX=>hx (hXY k o hX)),h.frozen⟩
theorem GrowC.of_grow{X:Nat→Nat→Prop}{a b:World}(h:Grow a b):GrowC X a b:=
  ⟨h.os,h.tape,h.output,h.size,fun i hi _=>h.block i hi,fun i o hi _=>h.cell (p:=⟨i,o,none⟩) hi,fun i o hi=>h.frozen (p:=⟨i,o,none⟩) hi⟩
theorem GrowC.below{X:Nat→Nat→Prop}{B:Nat}{a b:World}(h:GrowC X a b)(hB:∀k,k<B→k<a.heap.size∧∀o,¬X k o):Below B a b:=
  ⟨h.os,h.tape,h.output,h.size,fun k hk=>h.block k (hB k hk).1 (hB k hk).2⟩
theorem GrowC.setCell{X:Nat→Nat→Prop}{a w:World}{b i:Nat}(h:GrowC X a w)(hx:X b i)(hb:b<a.heap.size)(v:Value):GrowC X a (w.setCell ⟨b,i,none⟩ v):=by
  refine⟨h.os,h.tape,h.output,by have:=h.size;simpa[World.setCell]using this,fun k hk hn=>(Below.heap_setCell _ _ _ _ (fun e=>hn i (by subst e;exact hx))).trans (h.block k hk hn),fun k o hk hn=>?_,fun k o hk=>?_⟩
  · rw[World.cell?_setCell_other _ _ _ _ (by intro e;injection e with e1 e2;subst e1 e2;exact hn hx)]
    exact h.cell k o hk hn
  · rw[World.frozen?_setCell]
    exact h.frozen k o hk
def PartEndC(X:Nat→Nat→Prop)(ai:Act)(dst:Option Tmp)(w0:World)(R:Value→Nat→Nat→World→Prop):Exit→Act→World→Prop
  | .normal,a',w'=>∃v,a'=ai.put dst v∧GrowC X w0 w'∧R v w0.heap.size w'.heap.size w'
  | _,_,_=>False
theorem part_runC {X:Nat→Nat→Prop} {P:Program} {ops:Array Oper} {o:Oper} {ai aS:Act} {w:World} {R:Value→Nat→Nat→World→Prop} {Q:Exit→Act→World→Prop} {K:Act→World→Prop} {i:Nat}
    (hi:ops[i]? = some o) (hs:∀cs b,o.op≠.select cs b) (hsize:ai.tmps.size=aS.tmps.size)
    (hag:∀t∈o.looksAt ops,ai.tmps[t]? = aS.tmps[t]?)
    (h:wpList P ops (PartEndC X ai o.dst w R) [o] ai w) (hK:∀v w',GrowC X w w'→R v w.heap.size w'.heap.size w'→K (aS.put o.dst v) w'):wpOp P ops Q i K aS w:=by
  have he:execOp aS.eval o=execOp ai.eval o:=execOp_congr o hs (fun x hx=>by
    cases x with
    | tmp t=>
      have:=hag t (List.mem_append_left _ (List.mem_filterMap.2 ⟨.tmp t,by simpa using hx,rfl⟩))
      simp only[Act.eval]
      simp only[Array.getD_eq_getD_getElem?,this]
    | _=>rfl)
  have hw : Region.wanted o (yielded ops aS.tmps)=Region.wanted o (yielded ops ai.tmps):=by
    unfold Region.wanted
    cases hg:o.guard with
    | none=>rfl
    | some gw=>
      obtain⟨g,want⟩:=gw
      have hy:yielded ops aS.tmps g=yielded ops ai.tmps g:=by
        unfold yielded
        cases ht:(ops[g]?).bind (·.dst)with
        | none=>rfl
        | some t=>
          have:=hag t (by simp[Oper.looksAt,hg,ht])
          simp[this]
      simp only[hy]
  have fin:∀v w',PartEndC X ai o.dst w R .normal (ai.put o.dst v) w'→K (aS.put o.dst v) w':=by
    rintro v w' ⟨v',e,hg,hr⟩
    rw[put_same hsize e]
    exact hK v' w' hg hr
  unfold wpOp
  simp only[hi]
  rw[hw]
  unfold wpList at h
  split
  · rename_i hwant
    rw[if_pos hwant]at h
    rcases h with h|⟨_,a,w',h⟩
    case inr=>exact h.elim
    refine .inl ?_
    unfold Oper.wp at *
    rw[he]
    generalize (execOp ai.eval o).run P w=r at *
    cases r with
    | ok n w'=>
      cases n<;>simp only[Oper.upon]at h⊢
      case value v=>exact fin v w' h
      case skip=>exact fin _ w' h
      case defer d=>
        obtain⟨v',e,_⟩:=h
        have:=congrArg (fun a=>a.defers.length) e
        simp[put_defers]at this
      case enter f args=>
        refine Calls.mono h (fun e w'' he=>?_)
        cases e with
        | returned v=>exact fin v w'' he
        | panicked c=>exact he.elim
        | outgrown=>obtain⟨_,_,h⟩:=he;exact h.elim
      case row r args=>exact Rows.mono h (fun v w'' he=>fin v w'' he)
    | halt x w'=>cases x<;>simp only[Oper.upon]at h⊢ <;> exact h.elim
  · rename_i hwant
    rw[if_neg hwant]at h
    exact fin _ w h
theorem wp_region_partsC (W:Nat→Nat→Nat→Prop) {P:Program} {id:Nat} {l:List Oper} {Q:Exit→Act→World→Prop} {a:Act} {w:World} (N:Nat) (bs:List (List Nat)) (hm:P.follows .mixedOrders=true) (hB:partsB l N bs=true)
    (Post:Nat→Value→Nat→Nat→World→Prop) (stable:∀i j,i<N→j<N→j≠i→j∉bs.getD i []→∀v lo hi w w',Post i v lo hi w→GrowC (W j) w w'→Post i v lo hi w')
    (parts:∀i,i<N→∀o,l[i]? = some o→∀(vs:Nat→Value)(lo hi:Nat→Nat)(w':World),GrowC (fun b o=>∃j,j<N∧j≠i∧i∉bs.getD j []∧W j b o) w.drew w'→(∀j∈bs.getD i [],w.heap.size≤lo j∧lo j≤hi j∧hi j≤w'.heap.size∧Post j (vs j) (lo j) (hi j) w')→
      wpList P l.toArray (PartEndC (W i) (acts l vs (bs.getD i []) a) o.dst w' (Post i)) [o] (acts l vs (bs.getD i []) a) w')
    (tail:∀(vs:Nat→Value)(lo hi:Nat→Nat)(w':World),GrowC (fun b o=>∃j,j<N∧W j b o) w.drew w'→(∀j,j<N→w.heap.size≤lo j∧lo j≤hi j∧hi j≤w'.heap.size∧Post j (vs j) (lo j) (hi j) w')→(∀i j,i<N→j<N→i≠j→hi i≤lo j∨hi j≤lo i)→wpList P l.toArray Q (l.drop N) (acts l vs (List.range N) a) w'):
    (Code.region id l.toArray true).wp P Q a w:=by
  obtain⟨hN,hsel,hlex,hbs,hdst,hself,htail⟩:=partsB_parts hB
  have htail':∀(i:Nat) o,l[i]? = some o→N<i→i-1∈direct o:=fun i o ho hi=>(htail i o ho (by omega) (i-1) (by omega)).elim (fun h=>h) (fun h=>h.elim (fun h=>absurd h.1 (by omega)) (fun h=>h.2))
  refine wp_region_any hm ?_
  have uniq:∀(D:List Nat),(∀j∈D,j<N)→∀j∈D,∀k∈D,∀t,(l[j]?).bind (·.dst)=some t→(l[k]?).bind (·.dst)=some t→k=j:=by
    intro D hD j hj k hk t h1 h2
    apply Classical.byContradiction
    intro hne
    have hjl:j<l.length:=by have:=hD j hj;omega
    have hlj:l[j]? = some l[j]:=List.getElem?_eq_getElem hjl
    have:=(hdst j l[j] hlj (hD j hj) k (hD k hk) hne t h2).1
    rw[hlj]at h1
    exact this h1
  -- what holds while operations of the first N are left
  have key:∀(fuel:Nat)(listed:Array Bool)(b:Act)(w':World)(D:List Nat)(vs:Nat→Value)(lo hi:Nat→Nat),listed.size=l.length→(∀j,j∈D↔j<N∧listed[j]? = some true)→D.length+fuel=l.length→D.Nodup→
      (∀i,N≤i→i<l.length→listed[i]? = some false)→(∀j∈D,∀k∈bs.getD j [],k∈D)→b=acts l vs D a→GrowC (fun b o=>∃j,j∈D∧W j b o) w.drew w'→(∀j∈D,w.heap.size≤lo j∧lo j≤hi j∧hi j≤w'.heap.size∧Post j (vs j) (lo j) (hi j) w')→(∀i∈D,∀j∈D,i≠j→hi i≤lo j∨hi j≤lo i)→
      wpAny P .any l.toArray Q fuel listed b w':=by
    intro fuel
    induction fuel with
    | zero=>
      intro listed b w' D vs lo hi hsz hDm hlen hnd htl hcl hb hg hpost hdis
      -- all are done: then N is the whole
      have hDN:D.length≤N:=by
        have h1:=hnd.length_le_of_subset (fun j hj=>List.mem_range.2 ((hDm j).1 hj).1:D ⊆ List.range N)
        simpa using h1
      have hNl:N=l.length:=by omega
      have hall:∀j,j<N→j∈D:=by
        intro j hj
        apply Classical.byContradiction
        intro hc
        have h1:=(List.nodup_cons.2 ⟨hc,hnd⟩).length_le_of_subset (fun k hk=>List.mem_range.2 (by
          rcases List.mem_cons.1 hk with rfl|hk
          · exact hj
          · exact((hDm k).1 hk).1):(j::D) ⊆ List.range N)
        simp at h1
        omega
      refine tail_run (N:=N) hlex htail' 0 N listed b w' (by omega) (Nat.le_refl _) hsz (fun i hi=>⟨fun _=>by omega,fun h=>((hDm i).1 (hall i h)).2⟩) ?_
      have hE:b=acts l vs (List.range N) a:=by
        rw[hb]
        exact acts_ext l vs vs D (List.range N) a (fun j=>⟨fun h=>List.mem_range.2 ((hDm j).1 h).1,fun h=>hall j (List.mem_range.1 h)⟩) (fun _ _=>rfl) (uniq D (fun j hj=>((hDm j).1 hj).1))
      rw[hE]
      exact tail vs lo hi w' (hg.mono (fun b o h=>h.elim fun j h=>⟨j,((hDm j).1 h.1).1,h.2⟩)) (fun j hj=>hpost j (hall j hj)) (fun i j hi hj=>hdis i (hall i hi) j (hall j hj))
    | succ fuel ih=>
      intro listed b w' D vs lo hi hsz hDm hlen hnd htl hcl hb hg hpost hdis
      by_cases hfull:∀j,j<N→j∈D
      · have hDN:D.length=N:=by
          have h1:D.Perm (List.range N):=by
            refine(List.perm_ext_iff_of_nodup hnd List.nodup_range).2 (fun j=>?_)
            rw[List.mem_range]
            exact⟨fun h=>((hDm j).1 h).1,hfull j⟩
          simpa using h1.length_eq
        refine tail_run (N:=N) hlex htail' (fuel+1) N listed b w' (by omega) (Nat.le_refl _) hsz (fun i hi=>⟨fun h=>?_,fun h=>((hDm i).1 (hfull i h)).2⟩) ?_
        · apply Classical.byContradiction
          intro hc
          rw[htl i (by omega) hi]at h;cases h
        · have hE:b=acts l vs (List.range N) a:=by
            rw[hb]
            exact acts_ext l vs vs D (List.range N) a (fun j=>⟨fun h=>List.mem_range.2 ((hDm j).1 h).1,fun h=>hfull j (List.mem_range.1 h)⟩) (fun _ _=>rfl) (uniq D (fun j hj=>((hDm j).1 hj).1))
          rw[hE]
          exact tail vs lo hi w' (hg.mono (fun b o h=>h.elim fun j h=>⟨j,((hDm j).1 h.1).1,h.2⟩)) (fun j hj=>hpost j (hfull j hj)) (fun i j hi hj=>hdis i (hfull i hi) j (hfull j hj))
      · refine⟨fun hnil=>?_,fun i hir=>?_⟩
        · exfalso
          apply hfull
          intro j hj
          have:=ready_nil (ops:=l.toArray) (by simpa using hsz) (fun i o ho=>hlex i o (by simpa using ho)) hnil j (by simp;omega)
          have hj2:j<listed.size:=by omega
          simp[hj2]at this
          exact(hDm j).2 ⟨hj,by simp[hj2,this]⟩
        · obtain⟨o,ho,hf,hd⟩:=ready_spec hir (by simpa using hsz)
          have ho':l[i]? = some o:=by simpa using ho
          have hlt:i<l.length:=(List.getElem?_eq_some_iff.1 ho').1
          have direct_in:∀k∈direct o,k<N→k∈D:=by
            intro k hk hkN
            have:=hd k hk
            have hk2:k<listed.size:=by omega
            simp[hk2]at this
            exact(hDm k).2 ⟨hkN,by simp[hk2,this]⟩
          have hiN:i<N:=by
            apply Classical.byContradiction
            intro hc
            refine hfull (fun j hj=>?_)
            rcases htail i o ho' (by omega) j (by omega)with h|⟨_,k,hk,hkN,h⟩|⟨hNi,hNd⟩
            · exact direct_in j h hj
            · exact hcl k (direct_in k hk hkN) j h
            · have h1:=hd (i-1) hNd
              have h2:=htl (i-1) (by omega) (by omega)
              rw[Array.getD_eq_getD_getElem?,h2]at h1;cases h1
          have hiD:i∉D:=fun h=>by have:=((hDm i).1 h).2;rw[this]at hf;cases hf
          have hbD:∀j∈bs.getD i [],j∈D:=by
            intro j hj
            obtain⟨_,k,hk,hkN,h⟩:=hbs i o ho' hiN j hj
            have hkD:=direct_in k hk hkN
            rcases h with rfl|h
            · exact hkD
            · exact hcl k hkD j h
          have hrun:=parts i hiN o ho' vs lo hi w' (hg.mono (fun b o h=>h.elim fun j h=>⟨j,((hDm j).1 h.1).1,(fun e=>hiD (e▸h.1)),(fun hib=>hiD (hcl j h.1 i hib)),h.2⟩)) (fun j hj=>hpost j (hbD j hj))
          have hag:∀t∈o.looksAt l.toArray,(acts l vs (bs.getD i []) a).tmps[t]? = b.tmps[t]? := by
            intro t ht
            rw[hb]
            by_cases h:∃j∈D,(l[j]?).bind (·.dst)=some t
            · obtain⟨j,hj,hdj⟩:=h
              have hjN:=((hDm j).1 hj).1
              have hji:j≠i:=fun e=>hiD (e▸hj)
              have hjb:=(hdst i o ho' hiN j hjN hji t hdj).2 ht
              by_cases hts:t<a.tmps.size
              · rw[acts_get_same l vs _ a t hts j hjb hdj (fun k hk he=>uniq D (fun j hj=>((hDm j).1 hj).1) j hj k (hbD k hk) t hdj he),
                  acts_get_same l vs _ a t hts j hj hdj (fun k hk he=>uniq D (fun j hj=>((hDm j).1 hj).1) j hj k hk t hdj he)]
              · rw[Array.getElem?_eq_none (by rw[acts_size];exact Nat.le_of_not_lt hts),Array.getElem?_eq_none (by rw[acts_size];exact Nat.le_of_not_lt hts)]
            · rw[acts_get_other l vs _ a t (fun j hj he=>h ⟨j,hbD j hj,he⟩),acts_get_other l vs _ a t (fun j hj he=>h ⟨j,hj,he⟩)]
          refine part_runC (ops:=l.toArray) ho (hsel o (List.mem_of_getElem? ho')) (by rw[acts_size,hb,acts_size]) hag hrun ?_
          intro v w2 hg2 hp2
          refine ih _ _ w2 (i::D) (fun k=>if k=i then v else vs k) (fun k=>if k=i then w'.heap.size else lo k) (fun k=>if k=i then w2.heap.size else hi k) (by simpa using hsz) (fun j=>?_) (by simp;omega) (List.nodup_cons.2 ⟨hiD,hnd⟩) (fun k hk hkl=>?_) (fun j hj k hk=>?_) ?_ ((hg.mono (fun b o h=>h.elim fun j h=>⟨j,List.mem_cons_of_mem _ h.1,h.2⟩)).trans (hg2.mono (fun b o h=>⟨i,List.mem_cons_self,h⟩))) (fun j hj=>?_) (fun p hp q hq hpq=>?_)
          · rw[List.mem_cons,hDm]
            by_cases e:i=j
            · subst e;simp[show i<listed.size by omega,hiN]
            · rw[Array.getElem?_setIfInBounds_ne e]
              constructor
              · rintro(h|h)
                · exact absurd h.symm e
                · exact h
              · exact .inr
          · rw[Array.getElem?_setIfInBounds_ne (by omega)];exact htl k hk hkl
          · rcases List.mem_cons.1 hj with rfl|hj
            · exact List.mem_cons_of_mem _ (hbD k hk)
            · exact List.mem_cons_of_mem _ (hcl j hj k hk)
          · have h1:acts l (fun k=>if k=i then v else vs k) (D++[i]) a=b.put o.dst v:=by
              unfold acts
              rw[List.foldl_append]
              have h2:acts l (fun k=>if k=i then v else vs k) D a=b:=by
                rw[hb]
                exact acts_ext l _ _ D D a (fun _=>Iff.rfl) (fun j hj=>if_neg (fun e:j=i=>hiD (e▸hj))) (uniq D (fun j hj=>((hDm j).1 hj).1))
              unfold acts at h2
              rw[h2]
              simp[ho']
            rw[←h1]
            refine acts_ext l _ _ _ _ a (fun j=>by simp;exact Or.comm) (fun _ _=>rfl) (uniq (D++[i]) (fun j hj=>?_))
            rcases List.mem_append.1 hj with hj|hj
            · exact((hDm j).1 hj).1
            · simp at hj;omega
          · rcases List.mem_cons.1 hj with rfl|hj
            · have h1:=hg.size
              have h2:=hg2.size
              simp only[if_true]
              exact⟨h1,h2,Nat.le_refl _,hp2⟩
            · have hne:j≠i:=fun e=>hiD (e▸hj)
              obtain⟨h1,h2,h3,h4⟩:=hpost j hj
              have h5:=hg2.size
              simp only[if_neg hne]
              exact⟨h1,h2,by omega,stable j i ((hDm j).1 hj).1 hiN (fun e=>hiD (e▸hj)) (fun hib=>hiD (hcl j hj i hib)) _ _ _ _ _ h4 hg2⟩
          · have h5:=hg2.size
            rcases List.mem_cons.1 hp with ep|hp'
            · rcases List.mem_cons.1 hq with eq|hq'
              · exact absurd (ep.trans eq.symm) hpq
              · have hne:q≠i:=fun e=>hpq (ep.trans e.symm)
                simp only[if_pos ep,if_neg hne]
                exact .inr (hpost q hq').2.2.1
            · have hne:p≠i:=fun e=>hiD (e▸hp')
              rcases List.mem_cons.1 hq with eq|hq'
              · simp only[if_pos eq,if_neg hne]
                exact .inl (hpost p hp').2.2.1
              · have hne2:q≠i:=fun e=>hiD (e▸hq')
                simp only[if_neg hne,if_neg hne2]
                exact hdis p hp' q hq' hpq
  refine key l.toArray.size (Array.replicate l.toArray.size false) a _ [] (fun _=>undef) (fun _=>0) (fun _=>0) (by simp) (fun j=>?_) (by simp) List.nodup_nil (fun i _ hi=>by simp[hi]) (fun j hj=>by cases hj) rfl (GrowC.refl _) (fun j hj=>by cases hj) (fun j hj=>by cases hj)
  constructor
  · intro h;cases h
  · rintro⟨_,h⟩
    rw[Array.getElem?_replicate]at h
    split at h<;>simp at h
theorem wp_region_partsDC(W:Nat→Nat→Nat→Prop){P:Program}{id:Nat}{l:List Oper}{Q:Exit→Act→World→Prop}{a:Act}{w:World}(N:Nat)(bs:List (List Nat))(ds:List (Option Tmp))(hm:P.follows .mixedOrders=true)(hB:partsB l N bs=true)
    (hds:l.map (·.dst)=ds) (Post:Nat→Value→Nat→Nat→World→Prop) (stable:∀i j,i<N→j<N→j≠i→j∉bs.getD i []→∀v lo hi w w',Post i v lo hi w→GrowC (W j) w w'→Post i v lo hi w')
    (parts:∀i,i<N→∀o,l[i]? = some o→∀(vs:Nat→Value)(lo hi:Nat→Nat)(w':World),GrowC (fun b o=>∃j,j<N∧j≠i∧i∉bs.getD j []∧W j b o) w w'→(∀j∈bs.getD i [],w.heap.size≤lo j∧lo j≤hi j∧hi j≤w'.heap.size∧Post j (vs j) (lo j) (hi j) w')→
      wpList P l.toArray (PartEndC (W i) (actsD ds vs (bs.getD i []) a) o.dst w' (Post i)) [o] (actsD ds vs (bs.getD i []) a) w')
    (tail:∀(vs:Nat→Value)(lo hi:Nat→Nat)(w':World),GrowC (fun b o=>∃j,j<N∧W j b o) w w'→(∀j,j<N→w.heap.size≤lo j∧lo j≤hi j∧hi j≤w'.heap.size∧Post j (vs j) (lo j) (hi j) w')→(∀i j,i<N→j<N→i≠j→hi i≤lo j∨hi j≤lo i)→
      wpList P l.toArray Q (l.drop N) (actsD ds vs (List.range N) a) w'):
    (Code.region id l.toArray true).wp P Q a w:=by
  subst hds
  refine wp_region_partsC W N bs hm hB Post stable (fun i hi o ho vs lo h w' hg hp=>?_) (fun vs lo hi w' hg hp hd=>?_)
  · have:=parts i hi o ho vs lo h w' ⟨hg.os,hg.tape,hg.output,hg.size,hg.block,hg.cell,hg.frozen⟩ hp
    rw[actsD_eq]at this
    exact this
  · have:=tail vs lo hi w' ⟨hg.os,hg.tape,hg.output,hg.size,hg.block,hg.cell,hg.frozen⟩ hp hd
    rw[actsD_eq]at this
    exact this
end
end Go.Proofs.YtpajagkhmodbnaaGreat

/- Pr: texts of the store seat laid together by program: PartsC. Conditions: each theorem names its own. -/
import Derived.Test.YtpajagkhmodbnaaGreatPr1
namespace Go.Proofs.YtpajagkhmodbnaaGreat
set_option linter.unusedSimpArgs false
set_option linter.unusedVariables false
section
open Go.RowKit
structure aB(X:Nat->Nat->Prop)(w w':World):Prop where
  os:w'.os=w.os
  tape:w'.tape=w.tape
  output:w'.output=w.output
  size:w.heap.size<=w'.heap.size
  block:∀k,k<w.heap.size->(∀o,¬X k o)->w'.heap[k]? = w.heap[k]?
  cell:∀k o,k<w.heap.size->¬X k o->w'.cell? ⟨k,o,none⟩=w.cell? ⟨k,o,none⟩
  frozen:∀k o,k<w.heap.size->w'.frozen? ⟨k,o,none⟩=w.frozen? ⟨k,o,none⟩
theorem aB.refl{X:Nat->Nat->Prop}(w:World):aB X w w:=⟨rfl,rfl,rfl,Nat.le_refl _,fun _ _ _=>rfl,fun _ _ _ _=>rfl,fun _ _ _=>rfl⟩
theorem aB.trans{X:Nat->Nat->Prop}{a b c:World}(h:aB X a b)(k:aB X b c):aB X a c:=
  ⟨k.os.trans h.os,k.tape.trans h.tape,k.output.trans h.output,Nat.le_trans h.size k.size,fun i hi hx=>(k.block i (Nat.lt_of_lt_of_le hi h.size) hx).trans (h.block i hi hx),
   fun i o hi hx=>(k.cell i o (Nat.lt_of_lt_of_le hi h.size) hx).trans (h.cell i o hi hx),fun i o hi=>(k.frozen i o (Nat.lt_of_lt_of_le hi h.size)).trans (h.frozen i o hi)⟩
theorem aB.mono{X Y:Nat->Nat->Prop}{a b:World}(h:aB X a b)(hXY:∀k o,X k o->Y k o):aB Y a b:=
  ⟨h.os,h.tape,h.output,h.size,fun k hk hx=>h.block k hk (fun o hX=>hx o (hXY k o hX)),fun k o hk hx=>h.cell k o hk (fun hX=>hx (hXY k o hX)),h.frozen⟩
theorem aB.bK{X:Nat->Nat->Prop}{a b:World}(h:Grow a b):aB X a b:=
  ⟨h.os,h.tape,h.output,h.size,fun i hi _=>h.block i hi,fun i o hi _=>h.cell (p:=⟨i,o,none⟩) hi,fun i o hi=>h.frozen (p:=⟨i,o,none⟩) hi⟩
theorem aB.below{X:Nat->Nat->Prop}{B:Nat}{a b:World}(h:aB X a b)(hB:∀k,k<B->k<a.heap.size/\∀o,¬X k o):Below B a b:=
  ⟨h.os,h.tape,h.output,h.size,fun k hk=>h.block k (hB k hk).1 (hB k hk).2⟩
theorem aB.setCell{X:Nat->Nat->Prop}{a w:World}{b i:Nat}(h:aB X a w)(hx:X b i)(hb:b<a.heap.size)(v:Value):aB X a (w.setCell ⟨b,i,none⟩ v):=by
  refine⟨h.os,h.tape,h.output,by have:=h.size;simpa[World.setCell]using this,fun k hk hn=>(Below.heap_setCell _ _ _ _ (fun e=>hn i (by subst e;exact hx))).trans (h.block k hk hn),fun k o hk hn=>?_,fun k o hk=>?_⟩
  · rw[World.cell?_setCell_other _ _ _ _ (by intro e;injection e with e1 e2;subst e1 e2;exact hn hx)]
    exact h.cell k o hk hn
  · rw[World.frozen?_setCell]
    exact h.frozen k o hk
abbrev NY(X:Nat->Nat->Prop):=xH (aB X)
theorem aB.all(W:Nat->Nat->Nat->Prop):VH (fun p=>aB (fun b o=>∃j,p j/\W j b o)) (fun j=>aB (W j)):=
  ⟨fun _ _=>aB.refl _,aB.trans,fun h hg=>hg.mono fun b o ⟨j,a,hw⟩=>⟨j,h j a,hw⟩,aB.size,fun h=>h.mono fun b o hw=>⟨_,rfl,hw⟩,fun h=>⟨h.os,h.tape,h.output,h.size,h.block,h.cell,h.frozen⟩⟩
theorem aQ(W:Nat->Nat->Nat->Prop){P:Program}{id:Nat}{l:List Oper}{Q:Exit->Act->World->Prop}{a:Act}{w:World}(N:Nat)(bs:List (List Nat))(ds:List (Option Tmp))(hm:P.follows .mixedOrders=true)(hB:xE l N bs=true)
    (hds:l.map (·.dst)=ds) (Post:Nat->Value->Nat->Nat->World->Prop) (stable:∀i j,i<N->j<N->j≠i->j∉bs.getD i []->∀v lo hi w w',Post i v lo hi w->aB (W j) w w'->Post i v lo hi w')
    (parts:∀i,i<N->∀o,l[i]? = some o->∀(vs:Nat->Value)(lo hi:Nat->Nat)(w':World),aB (fun b o=>∃j,j<N/\j≠i/\i∉bs.getD j []/\W j b o) w w'->(∀j∈bs.getD i [],w.heap.size<=lo j/\lo j<=hi j/\hi j<=w'.heap.size/\Post j (vs j) (lo j) (hi j) w')->
      wpList P l.toArray (NY (W i) (ak ds vs (bs.getD i []) a) o.dst w' (Post i)) [o] (ak ds vs (bs.getD i []) a) w')
    (tail:∀(vs:Nat->Value)(lo hi:Nat->Nat)(w':World),aB (fun b o=>∃j,j<N/\W j b o) w w'->(∀j,j<N->w.heap.size<=lo j/\lo j<=hi j/\hi j<=w'.heap.size/\Post j (vs j) (lo j) (hi j) w')->(∀i j,i<N->j<N->i≠j->hi i<=lo j\/hi j<=lo i)->
      wpList P l.toArray Q (l.drop N) (ak ds vs (List.range N) a) w'):
    (Code.region id l.toArray true).wp P Q a w:=by
  exact mG (aB.all W) N bs ds (fun k j=>j∈bs.getD k []) (fun j=>j<N) (fun _ _=>False) (fun _ _ _ h=>h) (fun _ _ h=>h.elim) hm hB hds (fun i _ _ _=>Post i) (fun _ _ _ _ _ _ _ _ _ _ _ _ _ h=>h) (fun i j hi hj a b _ _ _ _=>stable i j hi hj a b)
    (fun i hi o ho vs lo h w' hg hp _=>parts i hi o ho vs lo h w' (hg.mono fun b o ⟨j,⟨a,b,c⟩,hw⟩=>⟨j,a,b,c,hw⟩) hp)
    (fun vs lo hi w' hg hp hd=>tail vs lo hi w' hg (fun j hj=>have h:=hp j hj;⟨h.1,h.2.1,h.2.2.1,h.2.2.2 hj⟩) hd)
end
end Go.Proofs.YtpajagkhmodbnaaGreat

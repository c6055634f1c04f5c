/- Pr: texts of the store seat laid together by program: PartsV. Conditions: each theorem names its own. -/
import Derived.Test.YtpajagkhmodbnaaGreatPr3
namespace Go.Proofs.YtpajagkhmodbnaaGreat
set_option linter.unusedSimpArgs false
set_option linter.unusedVariables false
section
open Go.RowKit
theorem eP(W:Nat->Nat->Nat->Prop){P:Program}{id:Nat}{l:List Oper}{Q:Exit->Act->World->Prop}{a:Act}{w:World}(N:Nat)(bs:List (List Nat))(ds:List (Option Tmp))(ne:List (List Nat))(tl:List Nat)(ex:List (Nat×Nat))(hX:YB N bs ne tl ex=true)(hm:P.follows .mixedOrders=true)(hB:xE l N bs=true)
  (hds:l.map (·.dst)=ds) (Post:Nat->(Nat->Value)->(Nat->Nat)->(Nat->Nat)->Value->Nat->Nat->World->Prop) (JD:∀i,i<N->∀vs vs' lo lo' hi hi' v l h w,(∀j∈bs.getD i [],vs j=vs' j/\lo j=lo' j/\hi j=hi' j)->Post i vs lo hi v l h w->Post i vs' lo' hi' v l h w) (stable:∀i j,i<N->j<N->j≠i->j∉bs.getD i []->(i,j)∉ex->∀vs lo hi v l h w w',Post i vs lo hi v l h w->aB (W j) w w'->Post i vs lo hi v l h w')
  (parts:∀i,i<N->∀o,l[i]? = some o->∀(vs:Nat->Value)(lo hi:Nat->Nat)(w':World),aB (fun b o=>∃j,j<N/\j≠i/\i∉bs.getD j []/\W j b o) w w'->(∀j∈ne.getD i [],w.heap.size<=lo j/\lo j<=hi j/\hi j<=w'.heap.size/\Post j vs lo hi (vs j) (lo j) (hi j) w')->(∀p∈bs.getD i [],∀q∈bs.getD i [],p≠q->hi p<=lo q\/hi q<=lo p)->
   wpList P l.toArray (NY (W i) (ak ds vs (bs.getD i []) a) o.dst w' (Post i vs lo hi)) [o] (ak ds vs (bs.getD i []) a) w')
  (tail:∀(vs:Nat->Value)(lo hi:Nat->Nat)(w':World),aB (fun b o=>∃j,j<N/\W j b o) w w'->(∀j,j<N->w.heap.size<=lo j/\lo j<=hi j/\hi j<=w'.heap.size/\(j∈tl->Post j vs lo hi (vs j) (lo j) (hi j) w'))->(∀i j,i<N->j<N->i≠j->hi i<=lo j\/hi j<=lo i)->
   wpList P l.toArray Q (l.drop N) (ak ds vs (List.range N) a) w'):
  (Code.region id l.toArray true).wp P Q a w:=by
 exact mG (aB.all W) N bs ds (fun k j=>j∈ne.getD k []) (fun j=>j∈tl) (fun i j=>(i,j)∈ex) (qR hX).1 (qR hX).2 hm hB hds Post JD stable
  (fun i hi o ho vs lo h w' hg hp hd=>parts i hi o ho vs lo h w' (hg.mono fun b o ⟨j,⟨a,b,c⟩,hw⟩=>⟨j,a,b,c,hw⟩) hp hd)
  tail
end
end Go.Proofs.YtpajagkhmodbnaaGreat

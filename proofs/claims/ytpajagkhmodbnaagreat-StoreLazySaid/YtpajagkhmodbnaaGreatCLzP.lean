/- One transaction that writes and commits, plain: its log, what analysis and redo make of it, what the device holds behind the commit. Conditions: none. -/
import Derived.Test.YtpajagkhmodbnaaGreatPr44
namespace Go.Proofs.YtpajagkhmodbnaaGreat
set_option linter.unusedSimpArgs false
set_option linter.unusedVariables false
open Go.RowKit
def upd(x:Nat×Rc):Bool:=decide (x.2.kind=2\/x.2.kind=3)
def aax(W:Nat->List UInt8)(r:Rc):Nat->List UInt8:=fF W r.page (aX (W r.page) r.off r.after)
def upW(W:Nat->List UInt8)(l:List (Nat×Rc)):Nat->List UInt8:=l.foldl (fun W x=>if upd x=true then aax W x.2 else W) W
structure aaB(l:List (Nat×Rc))(dr:List D2):Prop where
 ex:∀x∈l,upd x=true->∃e∈dr,e.1=x.2.page
 le:∀x∈l,upd x=true->∀e∈dr,e.1=x.2.page->e.2<=x.1
 of:∀e∈dr,∃x∈l,e.2=x.1
theorem ada{dr:List D2}{p:Nat}(h:Gj dr p=none):∀e∈dr,e.1≠p:=fun e he hp=>by
 have:=List.findIdx?_eq_none_iff.1 h e he;simp only[hp]at this;simp at this
theorem ad9{dr:List D2}{p:Nat}(h:Gj dr p≠none):∃e∈dr,e.1=p:=by
 apply Classical.byContradiction;intro hc;refine h (List.findIdx?_eq_none_iff.2 (fun e he=>?_));have:e.1≠p:=fun hp=>hc ⟨e,he,hp⟩;simpa using this
theorem aaB.step{l:List (Nat×Rc)}{dr:List D2}(h:aaB l dr)(x:Nat×Rc)(hx:∀y∈l,y.1<x.1):aaB (l++[x]) (LU dr x.2.page x.1 x.2.kind):=by
 unfold LU;by_cases hu:x.2.kind=2\/x.2.kind=3
 ·by_cases hg:Gj dr x.2.page=none
  ·rw [if_pos ⟨hu,hg⟩];have hn:=ada hg;refine⟨fun y hy hyu=>?_,fun y hy hyu e he hep=>?_,fun e he=>?_⟩
   ·rcases List.mem_append.1 hy with hy|hy
    ·obtain⟨e,he,h2⟩:=h.ex y hy hyu;exact⟨e,List.mem_append_left _ he,h2⟩
    ·rw[List.mem_singleton.1 hy];exact⟨(x.2.page,x.1),List.mem_append_right _ (List.mem_singleton.2 rfl),rfl⟩
   ·rcases List.mem_append.1 hy with hy|hy
    ·rcases List.mem_append.1 he with he|he
     ·exact h.le y hy hyu e he hep
     ·rw[List.mem_singleton.1 he]at hep;obtain⟨f,hf,h2⟩:=h.ex y hy hyu;exact absurd (h2.trans hep.symm) (hn f hf)
    ·rw[List.mem_singleton.1 hy]at hep⊢;rcases List.mem_append.1 he with he|he
     ·exact absurd hep (hn e he)
     ·rw[List.mem_singleton.1 he];exact Nat.le_refl _
   ·rcases List.mem_append.1 he with he|he
    ·obtain⟨y,hy,h2⟩:=h.of e he;exact⟨y,List.mem_append_left _ hy,h2⟩
    ·rw[List.mem_singleton.1 he];exact⟨x,List.mem_append_right _ (List.mem_singleton.2 rfl),rfl⟩
  ·rw[if_neg (fun e=>hg e.2)];refine⟨fun y hy hyu=>?_,fun y hy hyu e he hep=>?_,fun e he=>?_⟩
   ·rcases List.mem_append.1 hy with hy|hy
    ·exact h.ex y hy hyu
    ·rw[List.mem_singleton.1 hy];exact ad9 hg
   ·rcases List.mem_append.1 hy with hy|hy
    ·exact h.le y hy hyu e he hep
    ·rw[List.mem_singleton.1 hy];obtain⟨z,hz,h2⟩:=h.of e he;rw[h2];exact Nat.le_of_lt (hx z hz)
   ·obtain⟨y,hy,h2⟩:=h.of e he;exact⟨y,List.mem_append_left _ hy,h2⟩
 ·rw[if_neg (fun e=>hu e.1)];refine⟨fun y hy hyu=>?_,fun y hy hyu=>?_,fun e he=>?_⟩
  ·rcases List.mem_append.1 hy with hy|hy
   ·exact h.ex y hy hyu
   ·rw[List.mem_singleton.1 hy]at hyu;exact absurd (of_decide_eq_true hyu) hu
  ·rcases List.mem_append.1 hy with hy|hy
   ·exact h.le y hy hyu
   ·rw[List.mem_singleton.1 hy]at hyu;exact absurd (of_decide_eq_true hyu) hu
  ·obtain⟨y,hy,h2⟩:=h.of e he;exact⟨y,List.mem_append_left _ hy,h2⟩
theorem adD:∀(l l1:List (Nat×Rc))(a:An),aaB l1 a.dr->(l1++l).Pairwise (fun x y=>x.1<y.1)->aaB (l1++l) (l.foldl An.step a).dr
 | [],l1,a,h,_=>by rw[List.append_nil];exact h
 | x::l,l1,a,h,hp=>by
  have e:l1++x::l=(l1++[x])++l:=by simp
  rw[e]at hp⊢;refine adD l (l1++[x]) (a.step x) (h.step x (fun y hy=>?_)) hp;have h1:=(List.pairwise_append.1 hp).1;exact(List.pairwise_append.1 h1).2.2 y hy x (List.mem_singleton.2 rfl)
theorem ade:∀(l:List (Nat×Rc))(a:An),(l.foldl An.step a).dr.length<=a.dr.length+l.length
 | [],a=>Nat.le_add_right _ _
 | x::l,a=>by
  refine Nat.le_trans (ade l (a.step x)) ?_;have:(a.step x).dr.length<=a.dr.length+1:=by
   show(LU a.dr x.2.page x.1 x.2.kind).length<=_;unfold LU;split
   ·rw[List.length_append];exact Nat.le_refl _
   ·omega
  rw[List.length_cons];omega
theorem aga{D:List D2}{x:Nat×Rc}{s:(Nat->Nat)×List Nat}(hu:upd x=true->wI D x=true)(hs:∀q,s.1 q<x.1):
  (fC D s x).2=s.2++(if upd x=true then [x.1] else [])/\∀q,(fC D s x).1 q<=x.1:=by
 unfold fC;by_cases h:upd x=true
 ·rw[if_pos ⟨hu h,hs _⟩,if_pos h];refine⟨rfl,fun q=>?_⟩;show(if q=x.2.page then x.1 else s.1 q)<=x.1;split
  ·exact Nat.le_refl _
  ·exact Nat.le_of_lt (hs q)
 ·have hr:¬wI D x=true:=fun e=>h (by
   have:=(of_decide_eq_true e).1;exact decide_eq_true this)
  rw[if_neg (fun e=>hr e.1),if_neg h,List.append_nil];exact⟨rfl,fun q=>Nat.le_of_lt (hs q)⟩
theorem adQ{D:List D2}:∀(l:List (Nat×Rc))(s:(Nat->Nat)×List Nat),l.Pairwise (fun x y=>x.1<y.1)->(∀x∈l,upd x=true->wI D x=true)->(∀x∈l,∀q,s.1 q<x.1)->
  (l.foldl (fC D) s).2=s.2++(l.filter upd).map (·.1)
 | [],s,_,_,_=>by simp
 | x::l,s,hp,hu,hs=>by
  obtain⟨h1,h2⟩:=aga (D:=D) (hu x (List.mem_cons_self ..)) (hs x (List.mem_cons_self ..));obtain⟨hp1,hp2⟩:=List.pairwise_cons.1 hp;have h3:=adQ l (fC D s x) hp2 (fun y hy=>hu y (List.mem_cons_of_mem _ hy)) (fun y hy q=>Nat.lt_of_le_of_lt (h2 q) (hp1 y hy));show(l.foldl (fC D) (fC D s x)).2=_;rw[h3,h1,List.filter_cons];split<;>simp
theorem agX{l:List (Nat×Rc)}{dr D:List D2}(h:aaB l dr)(hD:D.Perm dr):∀x∈l,upd x=true->wI D x=true:=fun x hx hu=>by
 unfold wI;refine decide_eq_true ⟨of_decide_eq_true hu,?_⟩;obtain⟨e,he,hp⟩:=h.ex x hx hu;have hne:Gj D x.2.page≠none:=fun hn=>ada hn e (hD.mem_iff.2 he) hp;obtain⟨k,hk⟩:=Option.ne_none_iff_exists'.1 hne;refine⟨k,hk,?_⟩;obtain⟨h1,h2,_⟩:=List.findIdx?_eq_some_iff_getElem.1 hk;have e1:D.getD k (0,0)=D[k]:=by rw[List.getD_eq_getElem?_getD,List.getElem?_eq_getElem h1];rfl
 rw[e1];exact h.le x hx hu _ (hD.mem_iff.1 (List.getElem_mem h1)) (by simpa using h2)
theorem adf{α:Type}(p:α->Bool)(x:α)(l2:List α)(hx:p x=true):∀l1:List α,(∀y∈l1,p y=false)->(l1++x::l2).findIdx? p=some l1.length
 | [],_=>by simp[List.findIdx?_cons,hx]
 | y::l1,h=>by
  rw[List.cons_append,List.findIdx?_cons,h y (List.mem_cons_self ..),adf p x l2 hx l1 (fun z hz=>h z (List.mem_cons_of_mem _ hz))];simp
theorem adR(l:List (Nat×Rc)):∀(l2 l1:List (Nat×Rc))(W:Nat->List UInt8),l=l1++l2->l.Pairwise (fun x y=>x.1<y.1)->((l2.filter upd).map (·.1)).foldl (Z5 l) W=upW W l2
 | [],_,_,_,_=>rfl
 | x :: l2,l1,W,hl,hp=>by
  have ih:=fun W=>adR l l2 (l1++[x]) W (by rw[hl];simp) hp;unfold upW at ih⊢;rw[List.filter_cons,List.foldl_cons];by_cases h:upd x=true
  ·rw[if_pos h,if_pos h,List.map_cons,List.foldl_cons];have e:Z5 l W x.1=aax W x.2:=by
    have hlt:∀y∈l1,y.1<x.1:=fun y hy=>by
     rw[hl]at hp;exact(List.pairwise_append.1 hp).2.2 y hy x (List.mem_cons_self ..)
    have hf:l.findIdx? (fun y=>decide (y.1=x.1))=some l1.length:=by
     rw[hl];exact adf _ x l2 (by simp) l1 (fun y hy=>by have:=hlt y hy;simpa using by omega)
    have hg:l.getD l1.length (0,Rc.zero)=x:=by
     rw[hl,List.getD_eq_getElem?_getD,List.getElem?_append_right (Nat.le_refl _),Nat.sub_self];rfl
    unfold Z5;rw[hf];simp only[hg];rfl
   rw[e];exact ih _
  ·rw[if_neg h,if_neg h];exact ih _
theorem aas:∀(rs:List Rc)(st:Nat),(dG st rs).Pairwise (fun x y=>x.1<y.1)/\∀x∈dG st rs,st+1<=x.1
 | [],_=>⟨List.Pairwise.nil,fun x hx=>by cases hx⟩
 | r::rs,st=>by
  obtain⟨h1,h2⟩:=aas rs (st+r.size);have hz:96<=r.size:=by unfold Rc.size;omega
  refine⟨List.pairwise_cons.2 ⟨fun y hy=>?_,h1⟩,fun x hx=>?_⟩
  ·have:=h2 y hy;show st+1<y.1;omega
  ·rcases List.mem_cons.1 hx with rfl|hx
   ·exact Nat.le_refl _
   ·have:=h2 x hx;omega
theorem agr(rs:List Rc)(W:Nat->List UInt8)(D:List D2)(hD:D.Perm (bV (dG 0 rs)).dr):AL (dG 0 rs) W (fE D (fun _=>0) (dG 0 rs)).2=upW W (dG 0 rs):=by
 obtain⟨h1,h2⟩:=aas rs 0;have hok:=adD (dG 0 rs) [] ⟨[],[],0⟩ ⟨fun x hx=>(by cases hx),fun x hx=>(by cases hx),fun x hx=>(by cases hx)⟩ h1;unfold fE;rw[adQ (dG 0 rs) _ h1 (agX hok hD) (fun x hx q=>by have:=h2 x hx;show 0<x.1;omega)];exact adR (dG 0 rs) (dG 0 rs) [] W rfl h1
def acD(t l:Nat):Rc:={ Rc.zero with kind:=4,aV:=t,prev:=l }
def Ups(us:List Rc):Prop:=∀r∈us,r.kind=2/\r.aV=1
theorem adT:∀(us:List Rc)(st l:Nat)(dr:List D2),Ups us->∃l' dr',(dG st us).foldl An.step ⟨[(1,l,1)],dr,0⟩=⟨[(1,l',1)],dr',0⟩
 | [],st,l,dr,_=>⟨l,dr,rfl⟩
 | r::us,st,l,dr,h=>by
  obtain⟨k1,k2⟩:=h r (List.mem_cons_self ..);have e:An.step ⟨[(1,l,1)],dr,0⟩ (st+1,r)=⟨[(1,st+1,1)],LU dr r.page (st+1) 2,0⟩:=by
   unfold An.step;simp only[k1,k2];rfl
  obtain⟨l',dr',h2⟩:=adT us (st+r.size) (st+1) (LU dr r.page (st+1) 2) (fun x hx=>h x (List.mem_cons_of_mem _ hx));refine⟨l',dr',?_⟩;show((dG (st+r.size) us).foldl An.step (An.step ⟨[(1,l,1)],dr,0⟩ (st+1,r)))=_;rw[e];exact h2
def aah(us:List Rc)(l:Nat):List Rc:=(jA 1::us)++[acD 1 l]
theorem ae0(us:List Rc)(l:Nat)(h:Ups us):∃dr,bV (dG 0 (aah us l))=⟨[(1,dR (jA 1::us)+1,2)],dr,1⟩:=by
 obtain⟨l',dr',h2⟩:=adT us (jA 1).size 1 [] h;refine⟨dr',?_⟩;unfold bV aah;rw[Jm,List.foldl_append];have e:(dG 0 (jA 1::us)).foldl An.step ⟨[],[],0⟩=⟨[(1,l',1)],dr',0⟩:=by
  show((dG (0+(jA 1).size) us).foldl An.step (An.step ⟨[],[],0⟩ (0+1,jA 1)))=_;rw[Nat.zero_add];exact h2
 rw[e];show An.step ⟨[(1,l',1)],dr',0⟩ (0+dR (jA 1::us)+1,acD 1 l)=_;rw[Nat.zero_add];rfl
theorem agZ(c:Cf)(us:List Rc)(l:Nat)(h:Ups us)(hn:us.length<=12)(hz:dR (jA 1::us)<=1000000)(rm:Nat)(hrm:96<=rm)(T:List T3)(Dd:List D2)(hT:T.Perm (bV (dG 0 (aah us l))).tx)(hD:Dd.Perm (bV (dG 0 (aah us l))).dr):
  X6 c (dG 0 (aah us l)) rm T Dd []:=by
 obtain⟨dr,e⟩:=ae0 us l h;have hdl:=ade (dG 0 (aah us l)) ⟨[],[],0⟩;have hln:(dG 0 (aah us l)).length<=14:=by
  have:∀(rs:List Rc)(st:Nat),(dG st rs).length=rs.length:=fun rs=>by
   induction rs with
   | nil=>intro st;rfl
   | cons r rs ih=>intro st;show(dG (st+r.size) rs).length+1=rs.length+1;rw[ih]
  rw[this];unfold aah;rw[List.length_append,List.length_cons,List.length_singleton];omega
 have hok:=adD (dG 0 (aah us l)) [] ⟨[],[],0⟩ ⟨fun x hx=>(by cases hx),fun x hx=>(by cases hx),fun x hx=>(by cases hx)⟩ (aas _ 0).1;have hlb:∀x∈dG 0 (aah us l),x.1<=dR (jA 1::us)+1:=fun x hx=>by
  have hp:=(aas (aah us l) 0).1;unfold aah at hp hx;rw[Jm]at hp hx;rcases List.mem_append.1 hx with hx|hx
  ·have:=(List.pairwise_append.1 hp).2.2 x hx _ (List.mem_singleton.2 rfl);simp only[Nat.zero_add]at this;omega
  ·rw[List.mem_singleton.1 hx];simp only[Nat.zero_add];exact Nat.le_refl _
 rw[e]at hT;obtain rfl:=List.perm_singleton.1 hT;refine⟨rfl,by show(1:Nat)<=20;decide,fun x hx=>?_,by show(0:Nat)<=100000000;decide,?_,fun x hx=>?_,fun r hr=>(by cases hr),?_,by show(0:Nat)<=_;decide⟩
 ·rw[List.mem_singleton.1 hx];exact⟨by show(1:Nat)<=_;decide,by show dR (jA 1::us)+1<=_;omega,.inl rfl⟩
 ·rw[hD.length_eq];show((dG 0 (aah us l)).foldl An.step ⟨[],[],0⟩).dr.length<=20;simp only[List.length_nil]at hdl;omega
 ·obtain⟨y,hy,h2⟩:=hok.of x (hD.mem_iff.1 hx);have:=hlb y hy;omega
 ·show 0+96*1<=rm;omega
def aat(W:Nat->List UInt8)(us:List Rc):Nat->List UInt8:=us.foldl aax W
theorem adE(W:Nat->List UInt8)(us:List Rc)(r:Rc):aat W (us++[r])=aax (aat W us) r:=by simp[aat]
theorem ady:∀(us:List Rc)(st:Nat)(W:Nat->List UInt8),Ups us->upW W (dG st us)=aat W us
 | [],_,_,_=>rfl
 | r::us,st,W,h=>by
  show upW (if upd (st+1,r)=true then aax W r else W) (dG (st+r.size) us)=aat (aax W r) us;rw[if_pos (by unfold upd;simp[(h r (List.mem_cons_self ..)).1])];exact ady us _ _ (fun x hx=>h x (List.mem_cons_of_mem _ hx))
theorem aes(us:List Rc)(l:Nat)(h:Ups us)(W:Nat->List UInt8):upW W (dG 0 (aah us l))=aat W us:=by
 unfold aah;rw[Jm];unfold upW;rw[List.foldl_append];rw[List.foldl_cons,List.foldl_nil,if_neg (by show ¬decide ((4:Nat)=2\/(4:Nat)=3)=true;decide)];show upW (if upd (0+1,jA 1)=true then aax W (jA 1)else W) (dG (0+(jA 1).size) us)=_;rw[if_neg (by show ¬decide ((1:Nat)=2\/(1:Nat)=3)=true;decide)];exact ady us _ W h
end Go.Proofs.YtpajagkhmodbnaaGreat

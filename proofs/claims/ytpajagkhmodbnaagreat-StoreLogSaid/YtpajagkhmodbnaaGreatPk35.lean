/- Pk: texts of the store seat laid together by program: ScOpen. Conditions: each theorem names its own. -/
import Derived.Test.YtpajagkhmodbnaaGreatPk32
import Derived.Test.YtpajagkhmodbnaaGreatPk11
import Derived.Lib.SmallJoins
namespace Go.Proofs.YtpajagkhmodbnaaGreat
set_option linter.unusedSimpArgs false
set_option linter.unusedVariables false
section
open Go.ChangeShapes Go.WideShapes Go.ChangeAt Go.RowKit Go.Deep Go.Joins
abbrev Op8:=Int×Int
def ocells(l:List Op8):List Value:=l.flatMap fun x=>[.int .i64 x.1,.int .i64 x.2]
instance:Inhabited Op8:=⟨(0,0)⟩
theorem ocells_length(E:List Op8):(ocells E).length=E.length*2:=by
 induction E with
 | nil=>rfl
 | cons a r ih=>simp only[ocells,List.flatMap_cons,List.length_append,List.length_cons,List.length_nil]at *;omega
theorem Op8.at{w:World}{v:Value}{n:Nat}{l:List Op8}(h:Reads 2 w v n (ocells l))(k:Nat)(hk:k<n)(x:Op8)(hx:l[k]? = some x):
  ∃b o c,v=.slice (some ⟨b,o,none⟩) n c∧b<w.heap.size∧w.cell? ⟨b,o+k*2,none⟩=some (.int .i64 x.1)∧w.cell? ⟨b,o+k*2+1,none⟩=some (.int .i64 x.2):=by
 obtain⟨ao,c,rfl,hl,hc,hr⟩:=h
 obtain⟨b,o,rfl,hb,hcell⟩:=hr (by omega)
 obtain⟨hi,he⟩:=List.getElem?_eq_some_iff.1 hx
 have at2:∀(j:Nat)(u:Value),([.int .i64 x.1,.int .i64 x.2]:List Value)[j]? = some u→(ocells l)[k*2+j]? = some u:=fun j u hu=>
  flat_at (fun x:Op8=>[.int .i64 x.1,.int .i64 x.2]) 2 (fun _=>rfl) l k hi j u (by rw[getElem!_pos l k hi,he];exact hu)
 exact⟨b,o,c,rfl,hb,hcell _ _ (at2 0 _ rfl),by rw[Nat.add_assoc];exact hcell _ _ (at2 1 _ rfl)⟩
def okInt(n:Int):Prop := -9223372036854775808≤n∧n≤9223372036854775807
theorem open_op8{H:Type}{enc:TypeId×Value→H}{w:World}{held:Bool}{v:Value}{d:DataW H}{p:List MemPlace}{ao:Option Addr}{n cap:Nat}(hv:v=.slice ao n cap)
  (h:DataW.Trod enc Tryz.prog w 0 (fun _=>true) held 27 v d p):
  ∃l:List Op8,(l.length=n∧∀x∈l,okInt x.2)∧n≤maxLen∧Reads 2 w v n (ocells l):=by
 subst hv
 obtain⟨fuel,hf⟩:=h
 simp only[Value.cells]at hf
 rcases open_slice_fields (fs:=_) Tryz.underlying27 Tryz.underlying34 (by kernel_rfl) (by kernel_rfl) hf with ⟨hcs,hx⟩|⟨a,len,cap',m,D,Pl,hcs,_,hl,hm,hmm,hx,hi⟩
 ·simp only[Array.toList,List.cons.injEq,and_true]at hcs
  injection hcs with e1 e2 e3
  subst e1 e2 e3
  exact⟨[],⟨rfl,fun x hx=>by cases hx⟩,Nat.zero_le _,⟨none,0,rfl,rfl,Nat.le_refl _,fun h=>absurd h (by omega)⟩⟩
 ·simp only[Array.toList,List.cons.injEq,and_true]at hcs
  injection hcs with e1 e2 e3
  subst e1 e2 e3
  simp only[if_true]at hmm
  subst hmm
  have one:∀i,i<n→∃x:Op8,w.cell? (a.add (i*2))=some (.int .i64 x.1)∧w.cell? (a.add (i*2+1))=some (.int .i64 x.2)∧okInt x.2:=by
   intro i hin
   obtain⟨ys,k,hD,_,hlen,hff⟩:=hi i (by omega)
   obtain⟨v0,y0,hc0,hy0,ht0⟩:=hff 0 _ rfl
   obtain⟨v1,y1,hc1,hy1,ht1⟩:=hff 1 _ rfl
   obtain⟨a0,e0,rfl,_⟩:=DataW.trod_int Tryz.underlying3 ht0
   obtain⟨a1,e1,rfl,w1⟩:=DataW.trod_int Tryz.underlying3 ht1
   simp only[List.cons.injEq,and_true]at e0 e1
   subst e0 e1
   exact⟨(a0,a1),hc0,hc1,wf_i64 w1⟩
  obtain⟨X,hX⟩:=choose_lt one
  refine⟨(List.range n).map X,⟨by simp,fun x hx=>?_⟩,by omega,⟨some a,_,rfl,by rw[ocells_length];simp,hl,fun hn=>?_⟩⟩
  ·obtain⟨i,hi1,rfl⟩:=List.mem_map.1 hx
   exact(hX i (List.mem_range.1 hi1)).2.2
  obtain⟨hc0,_⟩:=hX 0 hn
  obtain⟨b,off,spot⟩:=a
  have hsp:spot=none:=by
   have:=World.cell?_spot hc0
   simpa[Addr.add]using this
  subst hsp
  refine⟨b,off,rfl,World.block_lt_of_cell? w _ hc0,fun j u hu=>?_⟩
  have hj:j<n*2:=by
   have:=(List.getElem?_eq_some_iff.1 hu).1
   rw[ocells_length]at this
   simpa using this
  have hq:j / 2<n:=by omega
  obtain⟨hx1,hx2,_⟩:=hX (j / 2) hq
  simp only[Addr.add_lit]at hx1 hx2
  have hu2:(ocells ((List.range n).map X))[j / 2*2+j % 2]? = some u:=by
   rw[show j / 2*2+j % 2=j by omega]
   exact hu
  have hlx:j / 2<((List.range n).map X).length:=by simpa using hq
  have hel:((List.range n).map X)[j / 2]=X (j / 2):=by simp
  rcases(show j % 2=0∨j % 2=1 by omega)with hr|hr
  ·have h0:=flat_at (fun x:Op8=>[.int .i64 x.1,.int .i64 x.2]) 2 (fun _=>rfl) _ _ hlx 0 (.int .i64 (X (j / 2)).1) (by rw[getElem!_pos ((List.range n).map X) (j / 2) hlx,hel];rfl)
   rw[hr]at hu2
   have hu3:=Option.some.inj (h0.symm.trans hu2)
   rw[←hu3,show off+j=off+j / 2*2 by omega]
   exact hx1
  ·have h0:=flat_at (fun x:Op8=>[.int .i64 x.1,.int .i64 x.2]) 2 (fun _=>rfl) _ _ hlx 1 (.int .i64 (X (j / 2)).2) (by rw[getElem!_pos ((List.range n).map X) (j / 2) hlx,hel];rfl)
   rw[hr]at hu2
   have hu3:=Option.some.inj (h0.symm.trans hu2)
   rw[←hu3,show off+j=off+(j / 2*2+1) by omega]
   exact hx2
end
end Go.Proofs.YtpajagkhmodbnaaGreat

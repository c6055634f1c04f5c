/- Pk: texts of the store seat laid together by program: ScOpenI. Conditions: each theorem names its own. -/
import Derived.Test.YtpajagkhmodbnaaGreatPk35
namespace Go.Proofs.YtpajagkhmodbnaaGreat
set_option linter.unusedSimpArgs false
set_option linter.unusedVariables false
section
open Go.ChangeShapes Go.WideShapes Go.ChangeAt Go.RowKit Go.Deep Go.Joins
theorem open_ints8{H:Type}{enc:TypeId×Value→H}{w:World}{held:Bool}{v:Value}{d:DataW H}{p:List MemPlace}{ao:Option Addr}{n cap:Nat}(hv:v=.slice ao n cap)
  (h:DataW.Trod enc Tryz.prog w 0 (fun _=>true) held 47 v d p):
  ∃l:List Int,(l.length=n∧∀x∈l,okInt x)∧n≤maxLen∧Reads 1 w v n (l.map fun p=>Value.int .i64 p):=by
 subst hv
 obtain⟨fuel,hf⟩:=h
 simp only[Value.cells]at hf
 rcases open_ints Tryz.underlying47 Tryz.underlying3 (by kernel_rfl) hf with ⟨hcs,hx⟩|⟨a,len,cap',zs,hcs,_,hl,hm,hz,hx,hcell,hwz⟩
 ·simp only[Array.toList,List.cons.injEq,and_true]at hcs
  injection hcs with e1 e2 e3
  subst e1 e2 e3
  exact⟨[],⟨rfl,fun x hx=>by cases hx⟩,Nat.zero_le _,⟨none,0,rfl,rfl,Nat.le_refl _,fun h=>absurd h (by omega)⟩⟩
 ·simp only[Array.toList,List.cons.injEq,and_true]at hcs
  injection hcs with e1 e2 e3
  subst e1 e2 e3
  simp only[if_true]at hz
  have hlen:(zs.take n).length=n:=by rw[List.length_take];omega
  refine⟨zs.take n,⟨hlen,fun x hx=>wf_i64 (hwz x (List.mem_of_mem_take hx))⟩,by omega,⟨some a,cap,rfl,by rw[List.length_map,hlen,Nat.mul_one],hl,fun hn=>?_⟩⟩
  have hc0:=hcell 0 (by omega)
  obtain⟨b,off,spot⟩:=a
  have hsp:spot=none:=by
   have:=World.cell?_spot hc0
   simpa[Addr.add]using this
  subst hsp
  have hc0':=hc0
  simp only[Addr.add_lit,Nat.add_zero]at hc0'
  refine⟨b,off,rfl,World.block_lt_of_cell? w _ hc0',fun j u hu=>?_⟩
  rw[List.getElem?_map]at hu
  cases hj:(zs.take n)[j]? with
  | none=>rw[hj]at hu;cases hu
  | some z=>
   rw[hj]at hu
   rw[List.getElem?_take]at hj
   split at hj
   ·have:=hcell j (by omega)
    rw[Addr.add_lit]at this
    rw[this,List.getD_eq_getElem?_getD,hj]
    exact hu
   ·cases hj
end
end Go.Proofs.YtpajagkhmodbnaaGreat

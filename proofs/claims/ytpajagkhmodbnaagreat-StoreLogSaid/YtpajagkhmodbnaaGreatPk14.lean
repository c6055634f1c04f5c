/- Pk: texts of the store seat laid together by program: SpNew. Conditions: each theorem names its own. -/
import Derived.Test.YtpajagkhmodbnaaGreatPk11
namespace Go.Proofs.YtpajagkhmodbnaaGreat
set_option linter.unusedSimpArgs false
set_option linter.unusedVariables false
section
open Go.RowKit
def Fm.zero:Fm:=⟨0,[],false,false,0,0⟩
def newE(n k:Nat):List Fe:=List.replicate k (Fm.free,.slice none 0 0)++List.replicate (n-k) (Fm.zero,.slice none 0 0)
theorem newE_len{n k:Nat}(h:k≤n):(newE n k).length=n:=by simp[newE];omega
theorem newE_at{n k:Nat}(h:k<n):(newE n k)[k]? = some (Fm.zero,.slice none 0 0):=by
 unfold newE
 rw[List.getElem?_append_right (by simp),List.length_replicate,Nat.sub_self,List.getElem?_replicate,if_pos (by omega)]
theorem newE_step{n k:Nat}(h:k<n):(newE n k).set k (Fm.free,.slice none 0 0)=newE n (k+1):=by
 unfold newE
 rw[List.set_append_right _ _ (by simp),List.length_replicate,Nat.sub_self,show n-k=(n-(k+1))+1 by omega,List.replicate_succ,List.set_cons_zero,List.replicate_succ',List.append_assoc]
 rfl
theorem newE_mem{n k:Nat}{e:Fe}(h:e∈newE n k):e.1.b=[]∧e.2=.slice none 0 0:=by
 rcases List.mem_append.1 h with h|h<;>rw[List.eq_of_mem_replicate h]<;>exact⟨rfl,rfl⟩
def Z6:Array Value:=#[.int .i64 0,.slice none 0 0,.bool false,.bool false,.int .i64 0,.int .i64 0]
theorem made_frames(n:Nat):(madeCells Z6 (n*6)).toList=fcells (newE n 0):=by
 apply List.ext_getElem?
 intro t
 by_cases ht:t<n*6
 ·have h6:t / 6<n:=by omega
  have e:t=t / 6*6+t % 6:=by omega
  have hz:(encF (Fm.zero,.slice none 0 0))[t % 6]? = some Z6[t % 6]! := by
   have:t % 6<6:=Nat.mod_lt _ (by decide)
   generalize t % 6=r at *
   match r,this with
   | 0,_=>rfl
   | 1,_=>rfl
   | 2,_=>rfl
   | 3,_=>rfl
   | 4,_=>rfl
   | 5,_=>rfl
  have h1:(fcells (newE n 0))[t]? = some Z6[t % 6]! := by
   have:=fcells_at (newE n 0) (t / 6) (Fm.zero,.slice none 0 0) (by unfold newE;rw[List.replicate_zero,List.nil_append,List.getElem?_replicate,if_pos (by omega)]) (t % 6) _ hz
   rwa [←e]at this
  rw[h1]
  simp[madeCells,ht]
  rfl
 ·rw[List.getElem?_eq_none (by simp[madeCells];omega),List.getElem?_eq_none (by rw[fcells_length,newE_len (Nat.zero_le _)];omega)]
theorem infoFr:(Tryz.prog.info? 159).map (fun i=>(i.zero,i.size,i.bytes))=some (some (.agg Z6),6,56):=by kernel_rfl
theorem newE_ok{n pg:Nat}  (h1:1≤n) (h2:n≤64):(Pq.new n).ok pg n:=
 ⟨by simp[Pq.new],h1,h2,h1,fun x hx=>by rw[List.eq_of_mem_replicate hx];exact⟨fun h=>absurd h (by decide),fun h=>by cases h⟩,by simp[Pq.new]⟩
theorem eql_fn{P:Program}(w:World)(t:TypeId)(fn:Nat)(caps:Array Value) {x y z} (h:P.underlying t=some (.func x y z)):(binOp .eql t (.func (.func fn) #[] caps) .nilFunc).run P w=.ok (.bool false) w:=by
 have key:∀d:Nat,(Op.equalIn (d+1) t (.func (.func fn) #[] caps) .nilFunc).run P w=.ok false w:=by
  intro d;simp[Op.equalIn,run_underlying h]
 have h2:(Op.equal t (.func (.func fn) #[] caps) .nilFunc).run P w=.ok false w:=key 9999
 simp[binOp,h2]
end
end Go.Proofs.YtpajagkhmodbnaaGreat

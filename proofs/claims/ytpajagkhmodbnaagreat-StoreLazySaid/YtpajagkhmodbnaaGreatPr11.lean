/- Pr: texts of the store seat laid together by program: SpDirty SpNew. Conditions: each theorem names its own. -/
import Derived.Test.YtpajagkhmodbnaaGreatPr9
import Derived.Test.YtpajagkhmodbnaaGreatPr10
import Derived.Test.YtpajagkhmodbnaaGreatShelf
namespace Go.Proofs.YtpajagkhmodbnaaGreat
set_option linter.unusedSimpArgs false
set_option linter.unusedVariables false
section
open Go.RowKit
abbrev Dr:={ x:Int×Int // 0<=x.1/\x.1<=8192 }
instance:Inhabited Dr:=⟨⟨(0,0),by decide⟩⟩
def jM(l:List (Int×Int)):List Value:=l.flatMap fun x=>[.int .i64 x.1,.int .i64 x.2]
def Dn(x:Dr):List Value:=[.int .i64 x.1.1,.int .i64 x.1.2]
theorem MV(a b:List (Int×Int)):jM (a++b)=jM a++jM b:=by simp[jM]
def iU(F:List Fm):List (Int×Int):=(F.filter (·.dirty)).map fun x=>(x.page,x.rc)
structure afi(F:List Fm)(c:List (Int×Int)):Prop where
 perm:c.Perm (iU F)
 ord:c.Pairwise fun a b=>a.1<=b.1
def cfD(x y:Dr):Int:=x.1.1-y.1.1
theorem Iq(x y:Dr):ltOf cfD x y=decide (x.1.1<y.1.1):=by
 unfold ltOf cfD;by_cases h:x.1.1<y.1.1
 ·simp[h];omega
 ·simp[h];omega
theorem afj:Go.Sort.SWO (ltOf cfD) where
 irrefl x:=by rw[Iq];simp
 trans x y z h1 h2:=by rw[Iq]at *;simp at *;omega
 ntrans x y z h1 h2:=by rw[Iq]at *;simp at *;omega
theorem aoZ(W:World)(x y:Dr):Calls Tryz.prog 123 #[.agg (Dn x).toArray,.agg (Dn y).toArray] W fun e w'=>e=.returned (.int .i64 (cfD x y))/\∃q os',w'=Go.Sort.grow (W.drewN q) os':=by
 obtain⟨⟨a,b⟩,h1,h2⟩:=x;obtain⟨⟨c,d⟩,h3,h4⟩:=y;show Calls Tryz.prog _ #[.agg #[.int .i64 a,.int .i64 b],.agg #[.int .i64 c,.int .i64 d]] W fun e w'=>e=.returned (.int .i64 (a-c))/\_;simp only at h1 h2 h3 h4;go_enter Tryz.func123,Tryz.ntmps123;go_wp2;go_ret;exact⟨rfl,0,_,by rw[Go.Sort.alloc_eq_grow,Go.Sort.alloc_eq_grow,Go.Sort.grow_grow];rfl⟩
theorem V7(w:World):(isAgg 123).run Tryz.prog w=.ok true w:=by kernel_rfl
theorem OT(w:World):(Go.sizeOf 123).run Tryz.prog w=.ok 2 w:=by kernel_rfl
theorem YV(O:List Dr)(v:Value)(n base e:Nat)(hl:O.length=n)(hn:n<=1152921504606846976)(W0 w:World)(hown:w.ownsRow base e 2 v n (O.flatMap Dn))(hbel:Below base W0 w):
  Calls Tryz.prog 122 #[v,.func (.func 123) #[] #[]] w (OQ Dn 2 (ltOf cfD) O v n base e W0):=by
 have eg:∀args w,(callFunc 123 args).run Tryz.prog w=.ok (.enter 123 args) w:=enters_of Tryz.func123 (by kernel_rfl) rfl;exact YU (α:=Dr) Tryz.sortDy 2 (by omega) V7 OT Dn (fun _=>rfl) (fun x v hv=>by simp[Dn]at hv;rcases hv with rfl|rfl<;>rfl) cfD afj 123 eg aoZ O v n base e hl hn W0 w hown hbel
theorem KU(ao:Option Addr)(n cap:Nat)(w:World)(h:n<=cap):Calls Tryz.prog 73 #[.slice ao n cap] w fun e w'=>e=.returned (.slice ao n n)/\w=w':=by
 by_cases h0:n=0
 ·subst h0;go_enter Tryz.func73,Tryz.ntmps73;go_wp2;go_ret;exact⟨rfl,rfl⟩
 ·go_enter Tryz.func73,Tryz.ntmps73;go_wp2;go_ret;exact⟨rfl,rfl⟩
theorem Ir:∀(O:List (Int×Int)),(∀x∈O,0<=x.1/\x.1<=8192)->∃O':List Dr,O'.map (·.1)=O
 | [],_=>⟨[],rfl⟩
 | x::r,h=>by
  obtain⟨r',hr⟩:=Ir r (fun y hy=>h y (List.mem_cons_of_mem _ hy));exact⟨⟨x,h x (List.mem_cons_self ..)⟩::r',by simp[hr]⟩
theorem OU(O:List Dr):O.flatMap Dn=jM (O.map (·.1)):=by
 rw[jM,List.flatMap_map];rfl
theorem adn:SliceOf Tryz.prog 83 123 (.agg #[.int .i64 0,.int .i64 0]) 2 16:=⟨Tryz.underlying83,by kernel_rfl,rfl,by decide⟩
end
section
open Go.RowKit
def Fm.zero:Fm:=⟨0,[],false,false,0,0⟩
def newE(n k:Nat):List Fe:=List.replicate k (Fm.free,.slice none 0 0)++List.replicate (n-k) (Fm.zero,.slice none 0 0)
theorem OV{n k:Nat}(h:k<=n):(newE n k).length=n:=by simp[newE];omega
theorem UF{n k:Nat}(h:k<n):(newE n k)[k]? = some (Fm.zero,.slice none 0 0):=by
 unfold newE;rw[List.getElem?_append_right (by simp),List.length_replicate,Nat.sub_self,List.getElem?_replicate,if_pos (by omega)]
theorem YW{n k:Nat}(h:k<n):(newE n k).set k (Fm.free,.slice none 0 0)=newE n (k+1):=by
 unfold newE;rw[List.set_append_right _ _ (by simp),List.length_replicate,Nat.sub_self,show n-k=(n-(k+1))+1 by omega,List.replicate_succ,List.set_cons_zero,List.replicate_succ',List.append_assoc];rfl
theorem aa5{n k:Nat}{e:Fe}(h:e∈newE n k):e.1.b=[]/\e.2=.slice none 0 0:=by
 rcases List.mem_append.1 h with h|h<;>rw[List.eq_of_mem_replicate h]<;>exact⟨rfl,rfl⟩
def Z6:Array Value:=#[.int .i64 0,.slice none 0 0,.bool false,.bool false,.int .i64 0,.int .i64 0]
theorem TN(n:Nat):(madeCells Z6 (n*6)).toList=nC (newE n 0):=by
 apply List.ext_getElem?;intro t;by_cases ht:t<n*6
 ·have h6:t / 6<n:=by omega
  have e:t=t / 6*6+t % 6:=by omega
  have hz:(qJ (Fm.zero,.slice none 0 0))[t % 6]? = some Z6[t % 6]! := by
   have:t % 6<6:=Nat.mod_lt _ (by decide);generalize t % 6=r at *
   match r,this with
   | 0,_=>rfl
   | 1,_=>rfl
   | 2,_=>rfl
   | 3,_=>rfl
   | 4,_=>rfl
   | 5,_=>rfl
  have h1:(nC (newE n 0))[t]? = some Z6[t % 6]! := by
   have:=KO (newE n 0) (t / 6) (Fm.zero,.slice none 0 0) (by unfold newE;rw[List.replicate_zero,List.nil_append,List.getElem?_replicate,if_pos (by omega)]) (t % 6) _ hz
   rwa [<-e]at this
  rw[h1];simp[madeCells,ht];rfl
 ·rw[List.getElem?_eq_none (by simp[madeCells];omega),List.getElem?_eq_none (by rw[MR,OV (Nat.zero_le _)];omega)]
theorem agL:(Tryz.prog.info? 159).map (fun i=>(i.zero,i.size,i.bytes))=some (some (.agg Z6),6,56):=by kernel_rfl
theorem afk{n pg:Nat}  (h1:1<=n) (h2:n<=64):(Pq.new n).ok pg n:=
 ⟨by simp[Pq.new],h1,h2,h1,fun x hx=>by rw[List.eq_of_mem_replicate hx];exact⟨fun h=>absurd h (by decide),fun h=>by cases h⟩,by simp[Pq.new]⟩
theorem agM{P:Program}(w:World)(t:TypeId)(fn:Nat)(caps:Array Value) {x y z} (h:P.underlying t=some (.func x y z)):(binOp .eql t (.func (.func fn) #[] caps) .nilFunc).run P w=.ok (.bool false) w:=by
 have key:∀d:Nat,(Op.equalIn (d+1) t (.func (.func fn) #[] caps) .nilFunc).run P w=.ok false w:=by
  intro d;simp[Op.equalIn,run_underlying h]
 have h2:(Op.equal t (.func (.func fn) #[] caps) .nilFunc).run P w=.ok false w:=key 9999;simp[binOp,h2]
end
end Go.Proofs.YtpajagkhmodbnaaGreat

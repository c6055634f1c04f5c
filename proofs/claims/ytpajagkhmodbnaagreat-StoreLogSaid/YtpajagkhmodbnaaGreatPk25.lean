/- Pk: texts of the store seat laid together by program: SvClean. Conditions: each theorem names its own. -/
import Derived.Test.YtpajagkhmodbnaaGreatPk24
import Derived.Test.YtpajagkhmodbnaaGreatPk13
namespace Go.Proofs.YtpajagkhmodbnaaGreat
set_option linter.unusedSimpArgs false
set_option linter.unusedVariables false
section
open Go.RowKit
section
variable{W0 w w' w2:World}{A:Adr}{c:Cf}{σ:St}{S:Nat→Prop}{vl vo vo':Value}{EL:List Le}{EO:List Te}{K S1:Nat→Prop}{X:Nat→Prop}
set_option maxRecDepth 100000 in
set_option maxHeartbeats 3200000 in
theorem clean0_at(h:SvAt W0 w A c σ vl vo EL EO K S1)(hnd:∀x∈σ.p.F,x.dirty=false):
  Calls Tryz.prog 90 #[.pointer (some ⟨A.sb,0,none⟩)] w fun er w'=>er=.returned (.int .i64 0)∧Below w.heap.size w w':=by
 have c3:=h.sbx.cell 3 _ rfl
 have clt:=h.sbx.lt
 have hcall:=dirty_pv h.sp.io h.sp.1
 have HC:=Lib.hid hcall
 have HND:=Lib.hid hnd
 clear h hcall hnd
 go_enter Tryz.func90,Tryz.ntmps90
 go_wp2_with fail
 refine HC.out.mono ?_
 rintro e wh ⟨cc,ao,m3,rfl,hc,hm3,_,hr,_,hbl⟩
 have hz:cc=[]:=by
  have h1:=hc.perm
  have h2:dirtyRaw σ.p.F=[]:=by
   unfold dirtyRaw
   rw[List.map_eq_nil_iff,List.filter_eq_nil_iff]
   intro x hx
   rw[HND.out x hx];decide
  rw[h2]at h1
  exact List.perm_nil.1 h1
 subst hz
 obtain rfl:m3=0:=by simpa using hm3.symm
 have HB:=Lib.hid hbl
 clear hc hm3 hr hbl
 go_wp2_with fail
 go_loopw [12] (fun i wr=>i=.int .i64 (0:Nat)∧wr=wh) (fun _ _=>0)
 case atStart=>exact⟨rfl,rfl⟩
 case round=>
  obtain⟨rfl,hy⟩:=hrel
  obtain rfl:wh=wr:=hy.symm
  go_wp2_with fail
  go_ret
  exact⟨rfl,HB.out⟩
end
end
end Go.Proofs.YtpajagkhmodbnaaGreat

/- Pk: texts of the store seat laid together by program: PartsN. Conditions: each theorem names its own. -/
import Derived.Test.YtpajagkhmodbnaaGreatPk3
namespace Go.Proofs.YtpajagkhmodbnaaGreat
set_option linter.unusedSimpArgs false
set_option linter.unusedVariables false
section
open Go.RowKit
def exB(N:Nat)(bs ne:List (List Nat))(tl:List Nat)(ex:List (Nat×Nat)):Bool:=
 (List.range N).all (fun k=>(ne.getD k []).all (fun j=>(bs.getD k []).contains j)) &&
 ex.all (fun p=>!tl.contains p.1&&(List.range N).all (fun k=>!(ne.getD k []).contains p.1 || k==p.2 || (bs.getD p.2 []).contains k))
theorem exB_parts{N:Nat}{bs ne:List (List Nat)}{tl:List Nat}{ex:List (Nat×Nat)}(h:exB N bs ne tl ex=true):
  (∀k j,k<N→j∈ne.getD k []→j∈bs.getD k [])∧(∀i j,(i,j)∈ex→i∉tl∧∀k,k<N→i∈ne.getD k []→k=j∨k∈bs.getD j []):=by
 unfold exB at h
 obtain⟨h1,h2⟩:=Bool.and_eq_true_iff.1 h
 constructor
 ·intro k j hk hj
  have:=List.all_eq_true.1 (List.all_eq_true.1 h1 k (List.mem_range.2 hk)) j hj
  simpa using this
 ·intro i j hij
  obtain⟨h3,h4⟩:=Bool.and_eq_true_iff.1 (List.all_eq_true.1 h2 (i,j) hij)
  refine⟨by simpa using h3,fun k hk hik=>?_⟩
  have h5:=List.all_eq_true.1 h4 k (List.mem_range.2 hk)
  have h6:(ne.getD k []).contains i=true:=by simpa using hik
  simp only[h6,Bool.not_true,Bool.false_or,Bool.or_eq_true,beq_iff_eq,List.contains_iff_mem]at h5
  exact h5
end
end Go.Proofs.YtpajagkhmodbnaaGreat

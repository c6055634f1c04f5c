/- Pr: texts of the store seat laid together by program: DvNew. Conditions: each theorem names its own. -/
import Derived.Test.YtpajagkhmodbnaaGreatPr5
import Derived.Deep.OwnRows
import Derived.OwnWalk
namespace Go.Proofs.YtpajagkhmodbnaaGreat
set_option maxRecDepth 100000
open Lib(hid)
set_option linter.unusedSimpArgs false
set_option linter.unusedVariables false
section
open Go.RowKit
def Dv.new(n:Nat):Dv:=⟨List.replicate n [],[],-1,false,0⟩
theorem Dv.YC{n:Nat}(h:n<=8192):(Dv.new n).ok:=⟨fun s hs=>.inl (List.eq_of_mem_replicate hs),(fun x hx=>by cases hx),by simpa[Dv.new]using h,by simp[Dv.new],by simp[Dv.new]⟩
theorem ae8{w:World}{w0:World}{G:Nat}(hG:G<=w.heap.size){vl:Value}{n:Nat}(h2:n<=8192)(ho:w0.ownsRow G 48 1 vl n (List.replicate n (.slice none 0 0)))(hv:∀q,vl.ownBlock=some q->w.heap.size<=q)(ty:TypeId):
  iJ (w0.alloc (.cells #[vl,.slice none 0 0,.int .i64 (-1),.bool false,.int .i64 0] ty)) G w0.heap.size (Dv.new n) vl (.slice none 0 0) (List.replicate n ([],.slice none 0 0)) [] (fun _=>False):=by
 refine⟨Box.new w0 #[vl,.slice none 0 0,.int .i64 (-1),.bool false,.int .i64 0] ty rfl,?_,World.ownsRow_nil _ _ _ _,?_,rfl,?_,(fun e he=>by cases he),(fun k h=>h.elim),(fun h=>h),?_,(fun q e=>by cases e),Dv.YC h2⟩
 ·rw[List.length_replicate,List.map_replicate];exact ho.alloc _
 ·rw[List.map_replicate];rfl
 ·intro e he;rw[List.eq_of_mem_replicate he];exact⟨⟨none,0,rfl,rfl,Nat.le_refl _,fun h=>absurd h (Nat.lt_irrefl 0)⟩,fun q e=>by cases e⟩
 ·intro q e;refine⟨fun h=>h,?_,fun e=>by cases e⟩;have:=(ho.lt q e).2;omega
theorem afY:(Tryz.prog.info? 48).map (fun i=>(i.zero,i.size,i.bytes))=some (some (.slice none 0 0),1,24):=by kernel_rfl
theorem ae9(W0:World)(w:World)(hb:Below W0.heap.size W0 w)(n:Nat)(h1:1<=n)(h2:n<=8192):
  Calls Tryz.prog 52 #[.int .i64 (n:Nat)] w fun e w'=>∃(d:Nat)(S:Nat->Prop),e=.returned (.tuple #[.pointer (some ⟨d,0,none⟩),.int .i64 0])/\DV W0 d (Dv.new n) S w'/\(∀k,S k->w.heap.size<=k)/\Below w.heap.size w w':=by
 have hb1:decide ((n:Int)<1)=false:=by simp;omega
 have hb2:decide ((n:Int)>8192)=false:=by simp;omega
 have hb3:decide (8192<n)=false:=by simp;omega
 have hb4:decide (n<1)=false:=by simp;omega
 have hb5:decide ((8192:Int)<(n:Int))=false:=by simp;omega
 obtain⟨i0,hi,hz0,hz1,hz2⟩:=info_parts afY;have HB:=hid hb;have hbs:=hb.size;clear hb;go_enter Tryz.func52,Tryz.ntmps52;go_wp2_with (at_make;refine wpList_make_full _ rfl _ _ 125 rfl w.heap.size 48 i0 (.slice none 0 0) 1 Tryz.underlying125 hi hz0 hz1 .i64 .i64 _ _ n rfl rfl rfl rfl (by rw[hz2];omega) (by unfold maxLen;omega) (Nat.le_refl _) ?_;intro w0 hown0 hgrow0);go_ret2;have ho:w0.ownsRow w.heap.size 48 1 (.slice (some ⟨w.heap.size,0,none⟩) n n) n (List.replicate n (.slice none 0 0)):=by
  have e:(madeCells (Value.slice none 0 0).cells (n*1)).toList=List.replicate n (.slice none 0 0):=by rw[Nat.mul_one];exact toList_madeCells_one _ n
  rw[<-e];exact hown0
 have hb0:Below w.heap.size w w0:=(Below.refl w.heap.size w).grown hgrow0 (Nat.le_refl _) (fun q e=>by cases e);have hs0:=hb0.size;have hv:∀q,(Value.slice (some ⟨w.heap.size,0,none⟩) n n).ownBlock=some q->w.heap.size<=q:=fun q e=>by
  have:w.heap.size=q:=by simpa[Value.ownBlock]using e
  omega
 have hal:=hb0.alloc hs0 (.cells #[.slice (some ⟨w.heap.size,0,none⟩) n n,.slice none 0 0,.int .i64 (-1),.bool false,.int .i64 0] 128);refine⟨w0.heap.size,_,rfl,⟨_,_,_,_,_,ae8 (w:=w) hbs h2 (own_base ho hbs) hv _,by omega,HB.out.trans (hal.mono hbs),rfl⟩,?_,hal⟩;rintro k (rfl|e|e|e)
 ·exact hs0
 ·exact hv k e
 ·cases e
 ·exact e.elim
end
end Go.Proofs.YtpajagkhmodbnaaGreat

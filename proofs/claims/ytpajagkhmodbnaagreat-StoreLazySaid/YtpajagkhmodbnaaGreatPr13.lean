/- Pr: texts of the store seat laid together by program: AppZ. Conditions: each theorem names its own. -/
import Derived.Test.YtpajagkhmodbnaaGreatPr12
import Derived.Lib.AppendZerosOnto
namespace Go.Proofs.YtpajagkhmodbnaaGreat
set_option linter.unusedSimpArgs false
set_option linter.unusedVariables false
section
open Go.RowKit
theorem uq(k:Nat):(Builtin.zeroCells (Value.int .u8 0).cells k).toList=(List.replicate k (0:UInt8)).map B:=by
 apply List.ext_getElem
 ·simp[Builtin.zeroCells,Value.cells]
 ·intro j h1 h2;simp[Builtin.zeroCells,Value.cells,B,Nat.mod_one]
theorem Bc{P:Program}{w:World}{t tn e:TypeId}(T:SliceOf P t e (.int .u8 0) 1 1)(ty:TypeId)(htn:P.underlying tn=some (.int .i64))
  {base g n cap:Nat} {l:List UInt8} (hown:w.ownsRow base e 1 (.slice (some ⟨g,0,none⟩) n cap) n (l.map B)) (k:Nat)
  (h63:n+k<=1099511627776) (hbase:base<=w.heap.size):
  ∃ao c' w',(Builtin.append_ #[t,tn] ty #[.slice (some ⟨g,0,none⟩) n cap,.int .i64 k]).run P w=.ok (.slice ao (n+k) c') w'/\
   w'.ownsRow base e 1 (.slice ao (n+k) c') (n+k) ((l++List.replicate k 0).map B)/\((ao=some ⟨g,0,none⟩/\w.grownBy w' (some g))\/(ao=some ⟨w.heap.size,0,none⟩/\w.grownBy w' none)):=by
 obtain⟨i,hi,hz0,hz1,hz2⟩:=info_parts T.info;have hown':=hown;rcases hown.2 with ⟨h,_⟩|⟨kb',cap',cur,he,hb,hg,hnc,hcm,hcs,ht⟩
 ·cases h
 injection he with e1 _ e3;injection e1 with e1;injection e1 with e1;subst e1 e3;have hll:l.length=n:=by simpa using hown'.1
 have hw:IntKind.i64.wrap (k:Int)=k:=by rw[IntKind.wrap_i64];omega
 have hneg:¬((k:Int)<0):=by omega
 have hlen:((l++List.replicate k 0).map B).length=(n+k)*1:=by simp[hll]
 have h48i:¬(281474976710656<(k:Int)):=by omega
 by_cases hroom:n+k<=cap
 ·have hst:=run_storeCells_at P g n e ((List.replicate k (0:UInt8)).map B) 0 cur w hg (by simp;omega) (eU _);simp only[Nat.add_zero]at hst;have hzl:=uq k;have hrun:(Builtin.append_ #[t,tn] ty #[.slice (some ⟨g,0,none⟩) n cap,.int .i64 k]).run P w =
    .ok (.slice (some ⟨g,0,none⟩) (n+k) cap) (w.setRow g (cur.toList.take n++(List.replicate k (0:UInt8)).map B++cur.toList.drop (n+((List.replicate k (0:UInt8)).map B).length)).toArray):=by
   by_cases hk:k=0
   ·subst hk;have hw0:IntKind.i64.wrap 0=0:=hw;simp only[List.replicate_zero,List.map_nil]at hst⊢;simp[Builtin.append_,run_underlying T.und,run_underlying htn,sizeOf,typeInfo,zeroValue,hi,hz0,hz1,hz2,asInt,asIntOf,hw0,hnc,Addr.add_lit];simp at hst;rw[hst];rfl
   ·simp[Builtin.append_,run_underlying T.und,run_underlying htn,sizeOf,typeInfo,zeroValue,hi,hz0,hz1,hz2,asInt,asIntOf,hw,hneg,h48i,hroom,hk,Addr.add_lit,hzl];simp at hst;rw[hst];rfl
  refine⟨_,_,_,hrun,⟨hlen,.inr ⟨g,cap,_,rfl,hb,setRow_heap w g cur _ e _ hg,hroom,hcm,?_,?_⟩⟩,.inl ⟨rfl,rfl,rfl,rfl,by simp,fun j _ hj=>setRow_other w g j _ (fun e=>hj (by rw[e]))⟩⟩
  ·simp only[List.size_toArray,List.length_append,List.length_take,List.length_drop,Array.length_toList,List.length_map,List.length_replicate];omega
  ·have ht':cur.toList.take n=l.map B:=by simpa using ht
   rw[ht',<-hlen,List.map_append];exact List.take_left
 ·have hge:=grownCap_ge w (n+k) cap e;have hcm2:grownCap w (n+k) cap e<=maxLen:=grownCap_le_maxLen w (n+k) cap e (by unfold maxLen;omega);have hold:=run_firstCells_some (P:=P) w.drew i.size n ⟨g,0,none⟩ n cap (l.map B) (by simp[hll,hz1]) (fun j u hu=>(Yy hown' j u hu:w.cell? _=some u));have hrun:=Lib.run_append_grow_zeros (P:=P) (ty:=ty) w t tn e i (.int .u8 0) .i64 .i64 T.und htn hi hz0 (some ⟨g,0,none⟩) n cap (l.map B) hold k (by omega) (by omega) (by omega) (by omega) (by rw[hz2];omega) (by rw[hz2];exact growslice_fits (by omega) (by omega));refine⟨_,_,_,hrun,⟨hlen,.inr ⟨w.heap.size,_,_,rfl,hbase,heap_alloc_new w.drew _,hge,hcm2,?_,?_⟩⟩,.inr ⟨rfl,rfl,rfl,rfl,by simp,fun j hj _=>Below.heap_alloc w.drew _ j (by exact hj)⟩⟩
  ·have hzc:(Value.int IntKind.u8 0).cells.size=1:=rfl;simp only[Array.size_append,List.size_toArray,size_zeroCells,hzc,List.length_map,hll];omega
  ·simp only[Array.toList_append,uq,List.append_assoc];rw[<-List.append_assoc,<-hlen,List.map_append];exact List.take_left
theorem tJ{P:Program}{w:World}{ops:Array Oper}{rest:List Oper}{o:Oper}{a:Act}{Q:Exit->Act->World->Prop}
  {t tn e:TypeId} (T:SliceOf P t e (.int .u8 0) 1 1) (htn:P.underlying tn=some (.int .i64)) (s x:Operand) (hgd:o.guard=none)
  (ho:o.op=.call { callee:=.builtin .append,args:=#[s,x],argTypes:=#[t,tn] })
  {base g n cap:Nat} {l:List UInt8} (hs:a.eval s=.slice (some ⟨g,0,none⟩) n cap) (hown:w.ownsRow base e 1 (.slice (some ⟨g,0,none⟩) n cap) n (l.map B))
  {k:Nat} (hx:a.eval x=.int .i64 (k:Int)) (h63:n+k<=1099511627776) (hbase:base<=w.heap.size)
  (h:∀g2 cap w',w'.ownsRow base e 1 (.slice (some ⟨g2,0,none⟩) (n+k) cap) (n+k) ((l++List.replicate k 0).map B)->aB (fun b _=>b=g) w w'->(g2=g\/w.heap.size<=g2)->
   wpList P ops Q rest (a.put o.dst (.slice (some ⟨g2,0,none⟩) (n+k) cap)) w'):wpList P ops Q (o::rest) a w:=by
 obtain⟨ao,c',w',hrun,hown',hor⟩:=Bc (P:=P) T o.type htn hown k h63 hbase;refine wpList_plain hgd fun K hK=>?_;unfold Oper.wp;simp[execOp,ho,resolve,invoke,builtin,hs,hx,hrun,Result.andThen];rcases hor with ⟨rfl,hgr⟩|⟨rfl,hgr⟩
 ·refine hK _ _ (h g c' w' hown' ⟨hgr.os,hgr.tape,hgr.output,hgr.size,fun k hk hx=>hgr.block k hk (fun e=>hx 0 (Option.some.inj e)),fun k o hk hx=>?_,fun k o hk=>?_⟩ (.inl rfl))
  ·have:=hgr.block k hk (fun e=>hx (Option.some.inj e));simp only[World.cell?,this]
  ·by_cases hkk:k=g
   ·subst hkk;rw[mJ hown' rfl,mJ hown rfl]
   ·have:=hgr.block k hk (fun e=>hkk (Option.some.inj e));simp only[World.frozen?,this]
 ·exact hK _ _ (h w.heap.size c' w' hown' (aB.bK ⟨hgr.os,hgr.tape,hgr.output,hgr.size,fun k hk=>hgr.block k hk (fun e=>by cases e)⟩) (.inr (Nat.le_refl _)))
theorem Buf.own{w:World}{g n base:Nat}{l:List UInt8}(h:Buf w g l)(hl:l.length=n)(hb:base<=g)(hn:n<=1099511627776):w.ownsRow base 5 1 (.slice (some ⟨g,0,none⟩) n n) n (l.map B):=
 ⟨by rw[List.length_map,hl,Nat.mul_one],.inr ⟨g,n,_,rfl,hb,h,Nat.le_refl _,by unfold maxLen;omega,by simp[hl],by simp[hl,List.take_of_length_le]⟩⟩
theorem Reads.lit{w:World}{arr:Array Value}{T m c K:Nat}{l:List Value}(hl:arr.toList=l)(hm:l.length=m*K)(hc:m<=c){g:Nat}(hg:g=w.heap.size):Reads K (w.alloc (.cells arr T)) (.slice (some ⟨g,0,none⟩) m c) m l:=by
 subst hg hl;refine⟨_,c,rfl,hm,hc,fun _=>⟨w.heap.size,0,rfl,by simp,fun j u hu=>?_⟩⟩;rw[World.cell?_alloc_at _ _ _ _ rfl];simpa using hu
end
end Go.Proofs.YtpajagkhmodbnaaGreat

/- Pr: texts of the store seat laid together by program: Box AppF AppK PartsN. Conditions: each theorem names its own. -/
import Derived.Test.YtpajagkhmodbnaaGreatPr2
import Derived.Test.YtpajagkhmodbnaaGreatPr1
import Derived.ArgAppend
namespace Go.Proofs.YtpajagkhmodbnaaGreat
set_option linter.unusedSimpArgs false
set_option linter.unusedVariables false
section
open Go.RowKit
structure Box(w:World)(g:Nat)(vs:List Value):Prop where
 lt:g<w.heap.size
 cell:∀i v,vs[i]? = some v->w.cell? ⟨g,i,none⟩=some v
 free:∀o,w.frozen? ⟨g,o,none⟩=false
theorem Box.new(w:World)(arr:Array Value)(T:Nat){g:Nat}(hg:g=w.heap.size):Box (w.alloc (.cells arr T)) g arr.toList:=by
 subst hg;refine⟨by simp,fun i v h=>?_,fun o=>?_⟩
 ·rw[World.cell?_alloc_at _ _ _ _ rfl];simpa using h
 ·exact lJ (heap_alloc_new w (.cells arr T)) o
theorem Box.alloc{w:World}{g:Nat}{vs:List Value}(h:Box w g vs)(o:Obj):Box (w.alloc o) g vs:=by
 have hb:=(Below.refl (w.heap.size) w).alloc (Nat.le_refl _) o;refine⟨by have:=h.lt;simp;omega,fun i v hi=>?_,fun o=>?_⟩
 ·exact(hb.cell (p:=⟨g,i,none⟩) h.lt).trans (h.cell i v hi)
 ·exact(hb.frozen (p:=⟨g,o,none⟩) h.lt).trans (h.free o)
theorem Box.below{w w':World}{B g:Nat}{vs:List Value}(h:Box w g vs)(hb:Below B w w')(hB:w.heap.size<=B):Box w' g vs:=by
 have hl:=h.lt;refine⟨by have:=hb.size;omega,fun i v hi=>?_,fun o=>?_⟩
 ·exact(hb.cell (p:=⟨g,i,none⟩) (by show g<B;omega)).trans (h.cell i v hi)
 ·exact(hb.frozen (p:=⟨g,o,none⟩) (by show g<B;omega)).trans (h.free o)
theorem Box.grow{w w':World}{X:Nat->Nat->Prop}{g:Nat}{vs:List Value}(h:Box w g vs)(hg:aB X w w')(hX:∀i,i<vs.length->¬X g i):Box w' g vs:=by
 refine⟨Nat.lt_of_lt_of_le h.lt hg.size,fun i v hi=>?_,fun o=>?_⟩
 ·exact(hg.cell g i h.lt (hX i (List.getElem?_eq_some_iff.1 hi).1)).trans (h.cell i v hi)
 ·exact(hg.frozen g o h.lt).trans (h.free o)
theorem Box.upd{w w':World}{X:Nat->Nat->Prop}{g:Nat}{vs us:List Value}(h:Box w g vs)(hg:aB X w w')(hX:∀i v,us[i]? = some v->w'.cell? ⟨g,i,none⟩=some v\/(¬X g i/\vs[i]? = some v)):Box w' g us:=by
 refine⟨Nat.lt_of_lt_of_le h.lt hg.size,fun i v hi=>?_,fun o=>(hg.frozen g o h.lt).trans (h.free o)⟩;rcases hX i v hi with h1|⟨h1,h2⟩
 ·exact h1
 ·exact(hg.cell g i h.lt h1).trans (h.cell i v h2)
theorem Box.setCell{w:World}{g:Nat}{vs:List Value}(h:Box w g vs)(i:Nat)(v:Value):Box (w.setCell ⟨g,i,none⟩ v) g (vs.set i v):=by
 refine⟨by have:=h.lt;simpa[World.setCell]using this,fun k u hk=>?_,fun o=>?_⟩
 ·by_cases e:i=k
  ·subst e;rw[List.getElem?_set]at hk;split at hk
   ·rename_i hi;split at hk
    ·obtain rfl:=Option.some.inj hk;have hx:=h.cell i _ (List.getElem?_eq_getElem (by assumption));exact World.cell?_setCell_same _ _ _ hx
    ·cases hk
   ·rename_i hi;exact absurd rfl hi
  ·rw[List.getElem?_set_ne e]at hk;rw[World.cell?_setCell_other _ _ _ _ (by intro he;injection he with _ e2;exact e e2)];exact h.cell k u hk
 ·rw[World.frozen?_setCell];exact h.free o
theorem Box.MQ{w:World}{g b:Nat}{vs:List Value}(h:Box w g vs)(hne:b≠g)(i:Nat)(v:Value):Box (w.setCell ⟨b,i,none⟩ v) g vs:=by
 refine⟨by have:=h.lt;simpa[World.setCell]using this,fun k u hk=>?_,fun o=>?_⟩
 ·rw[World.cell?_setCell_other _ _ _ _ (by intro he;injection he with e1 _;exact hne e1)];exact h.cell k u hk
 ·rw[World.frozen?_setCell];exact h.free o
theorem Box.set1{w:World}{g:Nat}{vs:List Value}(h:Box w g vs)(i:Nat)(v:Value):Box (w.setCell ⟨g,i,none⟩ v) g (vs.set i v)/\aB (fun b o=>b=g/\o=i) w (w.setCell ⟨g,i,none⟩ v):=
 ⟨h.setCell i v,(aB.refl w).setCell ⟨rfl,rfl⟩ h.lt v⟩
theorem aj.aK{X:Nat->Nat->Prop}{Y:Nat->Prop}{w w':World}(h:aB X w w')(hY:∀k o,X k o->Y k):aj Y w w':=
 ⟨h.os,h.tape,h.output,h.size,fun k hk hn=>h.block k hk (fun o hx=>hn (hY k o hx))⟩
theorem aj.mono{X Y:Nat->Prop}{w w':World}(h:aj X w w')(hY:∀k,X k->Y k):aj Y w w':=
 ⟨h.os,h.tape,h.output,h.size,fun k hk hn=>h.block k hk (fun hx=>hn (hY k hx))⟩
end
section
open Go.RowKit
theorem kJ{P:Program}{w:World}(t ty e:TypeId)(i:TypeInfo)(ht:P.underlying t=some (.slice e))(hi:P.info? e=some i)(ao pV:Option Addr)(n c c2:Nat)(hc:n<=c)(hno:ao=none->n=0/\c=0):
  (Builtin.append_ #[t,t] ty #[.slice ao n c,.slice pV 0 c2]).run P w=.ok (.slice ao n c) w:=by
 have hl0:∀a:Addr,(loadCells a 0).run P w=.ok #[] w:=fun a=>rfl;have hs0:∀a:Addr,(storeCells a []).run P w=.ok () w:=fun a=>rfl;cases ao with
 | none=>
  obtain⟨rfl,rfl⟩:=hno rfl;cases pV<;>simp[Builtin.append_,run_underlying ht,sizeOf,typeInfo,hi,Builtin.lenOf,Builtin.firstCells,hl0,Result.andThen]
 | some a=>
  cases pV<;>simp[Builtin.append_,run_underlying ht,sizeOf,typeInfo,hi,Builtin.lenOf,Builtin.firstCells,hl0,hs0,hc,Result.andThen]
theorem Ic{P:Program}{w:World}{t e:TypeId}{z:Value}{bytes:Nat}(T:SliceOf P t e z 1 bytes)(ty:TypeId)
  {ao:Option Addr} {n:Nat} {xs:List Value} (hr:Reads 1 w (.slice ao n n) n xs) {pV:Option Addr} {m c2:Nat} {ys:List Value} (hr2:Reads 1 w (.slice pV m c2) m ys) (h1:∀u∈ys,u.oneCell'=true)
  (h63:n+m<=1152921504606846976) (hbytes:(n+m)*bytes<=140737488355328):
  ∃ao' c' w',(Builtin.append_ #[t,t] ty #[.slice ao n n,.slice pV m c2]).run P w=.ok (.slice ao' (n+m) c') w'/\n+m<=c'/\Grow w w'/\
   ((m=0/\ao'=ao/\c'=n/\w'=w)\/(∃g,ao'=some ⟨g,0,none⟩/\w.heap.size<=g/\w'.ownsRow w.heap.size e 1 (.slice ao' (n+m) c') (n+m) (xs++ys))):=by
 obtain⟨i,hi,hz0,hz1,hz2⟩:=info_parts T.info;rcases Nat.eq_zero_or_pos m with e0|hm
 ·subst e0;by_cases hno:ao=none/\0<n
  ·exfalso;obtain⟨e1,h2⟩:=hno;obtain⟨_,_,b,off,h,_⟩:=hr.gG h2;rw[e1]at h;cases h
  ·refine⟨ao,n,w,kJ t ty e i T.und hi ao pV n n c2 (Nat.le_refl _) (fun h=>?_),Nat.le_refl _,Grow.refl _,.inl ⟨rfl,rfl,rfl,rfl⟩⟩;have:n=0:=by
    rcases Nat.eq_zero_or_pos n with h1|h1
    ·exact h1
    ·exact absurd ⟨h,h1⟩ hno
   exact⟨this,this⟩
 ·obtain⟨hle,hl2,b2,off2,rfl,hb2,hc2⟩:=hr2.gG hm;have hnews:∀j u,ys[j]? = some u->w.cell? ((⟨b2,off2,none⟩:Addr).add j)=some u:=fun j u h=>by rw[Addr.add_lit];exact hc2 j u h
  have fin:∀v' w',(Builtin.append_ #[t,t] ty #[.slice ao n n,.slice (some ⟨b2,off2,none⟩) m c2]).run P w=.ok v' w'->w'.ownsRow w.heap.size e 1 v' (n+m) (xs++ys)->w.grownBy w' none->
    ∃ao' c' w',(Builtin.append_ #[t,t] ty #[.slice ao n n,.slice (some ⟨b2,off2,none⟩) m c2]).run P w=.ok (.slice ao' (n+m) c') w'/\n+m<=c'/\Grow w w'/\
   ((m=0/\ao'=ao/\c'=n/\w'=w)\/(∃g,ao'=some ⟨g,0,none⟩/\w.heap.size<=g/\w'.ownsRow w.heap.size e 1 (.slice ao' (n+m) c') (n+m) (xs++ys))):=by
   intro v' w' hrun hown hgr;obtain⟨g,cap,rfl,hb,hlt,hnc,hcm⟩:=AU hown (fun e=>by
    rcases hown.2 with ⟨_,h0⟩|⟨g,cap,cur,h',_⟩
    ·omega
    ·rw[e]at h';cases h')
   exact⟨_,cap,w',hrun,hnc,⟨hgr.os,hgr.tape,hgr.output,hgr.size,fun k hk=>hgr.block k hk (by simp)⟩,.inr ⟨g,rfl,hb,hown⟩⟩
  cases ao with
  | none=>
   have hn:n=0:=by
    rcases Nat.eq_zero_or_pos n with h|h
    ·exact h
    ·obtain⟨_,_,b,off,h,_⟩:=hr.gG h;cases h
   subst hn;have hx:xs=[]:=by
    obtain⟨_,_,he,hl,_⟩:=hr;exact List.eq_nil_of_length_eq_zero (by simpa using hl)
   subst hx;obtain⟨v',w',hrun,hown,hgr,_⟩:=run_append_own w w.heap.size t ty e i z 1 bytes T.und hi hz0 hz1 hz2 T.cells T.pos (.slice none 0 0) 0 [] (World.ownsRow_nil _ _ _ _) ⟨b2,off2,none⟩ m c2 ys hl2 hnews h1 (by unfold maxLen;omega) hbytes (Nat.le_refl _);exact fin v' w' hrun hown hgr
  | some a=>
   obtain⟨ao',cap',he,hl,_,hcell⟩:=hr;injection he with e1 _ e3;subst e1 e3;have hcx:∀j u,xs[j]? = some u->w.cell? (a.add j)=some u:=by
    intro j u hu;have hn:0<n:=by
     rcases Nat.eq_zero_or_pos n with h|h
     ·subst h;have:xs=[]:=List.eq_nil_of_length_eq_zero (by simpa using hl);subst this;cases hu
     ·exact h
    obtain⟨b,off,hb,_,hc⟩:=hcell hn;obtain rfl:=Option.some.inj hb;rw[Addr.add_lit];exact hc j u hu
   obtain⟨v',w',hrun,hown,hgr⟩:=run_append_arg_grows (P:=P) w t ty e i z 1 bytes T.und hi hz0 hz1 hz2 T.cells T.pos a n n xs hl hcx ⟨b2,off2,none⟩ m c2 ys hl2 hnews (by omega) (by unfold maxLen;omega) hbytes;exact fin v' w' hrun hown hgr
theorem CU{P:Program}{w:World}{ops:Array Oper}{rest:List Oper}{o:Oper}{a:Act}{Q:Exit->Act->World->Prop}
  {t e:TypeId} {z:Value} {bytes:Nat} (T:SliceOf P t e z 1 bytes) (s x:Operand) (hgd:o.guard=none)
  (ho:o.op=.call { callee:=.builtin .append,args:=#[s,x],argTypes:=#[t,t] })
  {ao:Option Addr} {n:Nat} {xs:List Value} (hs:a.eval s=.slice ao n n) {X:Nat->Prop} (hr:Kept X w (fun w2=>Reads 1 w2 (.slice ao n n) n xs)) (hB0:∀k,X k->k<w.heap.size)
  {pV:Option Addr} {m c2:Nat} {ys:List Value} (hx:a.eval x=.slice pV m c2) (hr2:Reads 1 w (.slice pV m c2) m ys) (h1:∀u∈ys,u.oneCell'=true)
  (h63:n+m<=1152921504606846976) (hbytes:(n+m)*bytes<=140737488355328)
  (h:∀ao' c' w',n+m<=c'->Grow w w'->Kept X w' (fun w2=>Reads 1 w2 (.slice ao' (n+m) c') (n+m) (xs++ys))->
   (0<m->∃g,ao'=some ⟨g,0,none⟩/\w.heap.size<=g/\w'.ownsRow w.heap.size e 1 (.slice ao' (n+m) c') (n+m) (xs++ys))->
   wpList P ops Q rest (a.put o.dst (.slice ao' (n+m) c')) w'):wpList P ops Q (o::rest) a w:=by
 obtain⟨ao',c',w',hrun,hle,hgr,hor⟩:=Ic (P:=P) T o.type hr.now hr2 h1 h63 hbytes;refine wpList_plain hgd fun K hK=>?_;unfold Oper.wp;simp[execOp,ho,resolve,invoke,builtin,hs,hx,hrun,Result.andThen];refine hK _ _ (h ao' c' w' hle hgr ?_ (fun hm=>?_))
 ·rcases hor with ⟨rfl,rfl,rfl,rfl⟩|⟨g,rfl,hg,hown⟩
  ·have:ys=[]:=by
    obtain⟨_,_,_,hl,_⟩:=hr2;exact List.eq_nil_of_length_eq_zero (by simpa using hl)
   subst this;simpa using hr
  ·exact(aaQ hown).mono (fun k _ h=>hB0 k h)
 ·rcases hor with ⟨rfl,_⟩|h
  ·omega
  ·exact h
end
section
open Go.RowKit
theorem xI{P:Program}(w:World)(base:Nat)(t ty e:TypeId)(i:TypeInfo)(z:Value)(size bytes:Nat)(ht:P.underlying t=some (.slice e))(hi:P.info? e=some i)(hz:i.zero=some z)
  (hsize:i.size=size) (hby:i.bytes=bytes) (hzs:z.cells.size=size) (hsz:0<size)
  (v:Value) (n:Nat) (xs:List Value) (hown:w.ownsRow base e size v n xs)
  (a:Addr) (m c:Nat) (news:List Value) (hl:news.length=m*size) (hnews:∀j u,news[j]? = some u->w.cell? (a.add j)=some u) (h1:∀u∈news,u.oneCell'=true)
  (h63:n+m<=maxLen) (hbytes:(n+m)*bytes<=140737488355328) (hbase:base<=w.heap.size) (hpos:0<n+m):
  ∃g cap w',(Builtin.append_ #[t,t] ty #[v,.slice (some a) m c]).run P w=.ok (.slice (some ⟨g,0,none⟩) (n+m) cap) w'/\w'.ownsRow base e size (.slice (some ⟨g,0,none⟩) (n+m) cap) (n+m) (xs++news)/\
   aB (fun b _=>v.ownBlock=some b/\b=g) w w'/\(v.ownBlock=some g\/w.heap.size<=g):=by
 obtain⟨v',w',hrun,hown',hgrow,hiff⟩:=run_append_own w base t ty e i z size bytes ht hi hz hsize hby hzs hsz v n xs hown a m c news hl hnews h1 h63 hbytes hbase;obtain⟨g,cap,rfl,hb,hlt,hnc,hcm⟩:=AU hown' (fun e=>by
  obtain⟨rfl,rfl⟩:=hiff.1 e;rcases hown.2 with ⟨_,h0⟩|⟨g,cap,cur,h',_⟩
  ·omega
  ·simp at h')
 refine⟨g,cap,w',hrun,hown',?_⟩;rcases hown.2 with ⟨rfl,rfl⟩|⟨g0,cap0,cur,rfl,hb0,hg0,auf,hcm0,hcs0,ht0⟩
 ·refine⟨aB.bK ⟨hgrow.os,hgrow.tape,hgrow.output,hgrow.size,fun k hk=>hgrow.block k hk (by simp[Value.ownBlock])⟩,.inr ?_⟩;obtain⟨v2,w2,hrun2,hown2,_,_⟩:=run_append_own w w.heap.size t ty e i z size bytes ht hi hz hsize hby hzs hsz _ 0 [] (World.ownsRow_nil _ _ _ _) a m c news hl hnews h1 h63 hbytes (Nat.le_refl _);rw[hrun]at hrun2;injection hrun2 with e1 e2;subst e1;exact(hown2.lt g rfl).1
 ·by_cases hroom:n+m<=cap0
  ·subst hsize;have hfit:n*i.size+news.length<=cur.size:=by rw[hcs0,hl,<-Nat.add_mul];exact Nat.mul_le_mul_right _ hroom
   have hrun2:=run_append_room (P:=P) w t ty e i ht hi g0 n cap0 cur hg0 a m c news hl hnews h1 hroom hfit;rw[hrun]at hrun2;injection hrun2 with e1 e2;injection e1 with e1;injection e1 with e1;injection e1 with e1;subst e1;rcases hown'.2 with ⟨h,_⟩|⟨kb',cap',cur',he,_,hg',_⟩
   ·cases h
   injection he with e1 _ _;injection e1 with e1;injection e1 with e1;subst e1;refine⟨⟨hgrow.os,hgrow.tape,hgrow.output,hgrow.size,fun k hk hx=>hgrow.block k hk (fun e=>hx 0 ⟨e.symm,by injection e⟩),fun k o hk hx=>?_,fun k o hk=>?_⟩,.inl rfl⟩
   ·have:=hgrow.block k hk (fun e=>hx ⟨e.symm,by injection e⟩);simp only[World.cell?,this]
   ·by_cases hkk:k=g
    ·subst hkk;rw[frozen_of_row w' k o cur' e hg',frozen_of_row w k o cur e hg0]
    ·have:=hgrow.block k hk (fun e=>hkk (Option.some.inj e));simp only[World.frozen?,this]
  ·obtain⟨v2,w2,hrun2,hown2,fV⟩:=run_append_arg_grows (P:=P) w t ty e i z size bytes ht hi hz hsize hby hzs hsz ⟨g0,0,none⟩ n cap0 xs hown.1 (dh hown) a m c news hl hnews (by omega) h63 hbytes;rw[hrun]at hrun2;injection hrun2 with e1 e2;subst e1 e2;exact⟨aB.bK ⟨fV.os,fV.tape,fV.output,fV.size,fun k hk=>fV.block k hk (by simp)⟩,.inr (hown2.lt g rfl).1⟩
theorem dX{P:Program}{w:World}{ops:Array Oper}{rest:List Oper}{o:Oper}{a:Act}{Q:Exit->Act->World->Prop}
  {t e:TypeId} {z:Value} {size bytes:Nat} (T:SliceOf P t e z size bytes) (s x:Operand) (hgd:o.guard=none)
  (ho:o.op=.call { callee:=.builtin .append,args:=#[s,x],argTypes:=#[t,t] })
  {base:Nat} {v:Value} {n:Nat} {xs:List Value} (hs:a.eval s=v) (hown:w.ownsRow base e size v n xs)
  {ad:Addr} {m c:Nat} {news:List Value} (hx:a.eval x=.slice (some ad) m c) (hl:news.length=m*size) (hnews:∀j u,news[j]? = some u->w.cell? (ad.add j)=some u) (h1:∀u∈news,u.oneCell'=true)
  (h63:n+m<=1152921504606846976) (hbytes:(n+m)*bytes<=140737488355328) (hbase:base<=w.heap.size) (hpos:0<n+m)
  (h:∀g cap w',w'.ownsRow base e size (.slice (some ⟨g,0,none⟩) (n+m) cap) (n+m) (xs++news)->aB (fun b _=>v.ownBlock=some b/\b=g) w w'->(v.ownBlock=some g\/w.heap.size<=g)->
   wpList P ops Q rest (a.put o.dst (.slice (some ⟨g,0,none⟩) (n+m) cap)) w'):wpList P ops Q (o::rest) a w:=by
 obtain⟨i,hi,hz0,hz1,hz2⟩:=info_parts T.info;obtain⟨g,cap,w',hrun,h2,h3,h4⟩:=xI (P:=P) w base t o.type e i z size bytes T.und hi hz0 hz1 hz2 T.cells T.pos v n xs hown ad m c news hl hnews h1 (by unfold maxLen;omega) hbytes hbase hpos;refine wpList_plain hgd fun K hK=>?_;unfold Oper.wp;simp[execOp,ho,resolve,invoke,builtin,hs,hx,hrun,Result.andThen];exact hK _ _ (h g cap w' h2 h3 h4)
end
section
open Go.RowKit
def YB(N:Nat)(bs ne:List (List Nat))(tl:List Nat)(ex:List (Nat×Nat)):Bool:=
 (List.range N).all (fun k=>(ne.getD k []).all (fun j=>(bs.getD k []).contains j)) &&
 ex.all (fun p=>!tl.contains p.1&&(List.range N).all (fun k=>!(ne.getD k []).contains p.1 || k==p.2 || (bs.getD p.2 []).contains k))
theorem qR{N:Nat}{bs ne:List (List Nat)}{tl:List Nat}{ex:List (Nat×Nat)}(h:YB N bs ne tl ex=true):
  (∀k j,k<N->j∈ne.getD k []->j∈bs.getD k [])/\(∀i j,(i,j)∈ex->i∉tl/\∀k,k<N->i∈ne.getD k []->k=j\/k∈bs.getD j []):=by
 unfold YB at h;obtain⟨h1,h2⟩:=Bool.and_eq_true_iff.1 h;constructor
 ·intro k j hk hj;have:=List.all_eq_true.1 (List.all_eq_true.1 h1 k (List.mem_range.2 hk)) j hj;simpa using this
 ·intro i j hij;obtain⟨h3,h4⟩:=Bool.and_eq_true_iff.1 (List.all_eq_true.1 h2 (i,j) hij);refine⟨by simpa using h3,fun k hk hik=>?_⟩;have h5:=List.all_eq_true.1 h4 k (List.mem_range.2 hk);have h6:(ne.getD k []).contains i=true:=by simpa using hik
  simp only[h6,Bool.not_true,Bool.false_or,Bool.or_eq_true,beq_iff_eq,List.contains_iff_mem]at h5;exact h5
end
end Go.Proofs.YtpajagkhmodbnaaGreat

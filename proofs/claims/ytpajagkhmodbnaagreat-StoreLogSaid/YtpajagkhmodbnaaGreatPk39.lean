/- Pk: texts of the store seat laid together by program: SvOpen7. Conditions: each theorem names its own. -/
import Derived.Test.YtpajagkhmodbnaaGreatPk35
namespace Go.Proofs.YtpajagkhmodbnaaGreat
set_option linter.unusedSimpArgs false
set_option linter.unusedVariables false
section
open Go.ChangeShapes Go.WideShapes Go.ChangeAt Go.RowKit Go.Deep Go.Joins
structure Op7 where
 kind:Int
 t:Int
 p:Int
 off:Int
 n:Int
 a:Int
 vd:Value
 bs:List UInt8
instance:Inhabited Op7:=⟨⟨0,0,0,0,0,0,.slice none 0 0,[]⟩⟩
def o7cell(x:Op7):List Value:=[.int .i64 x.kind,.int .i64 x.t,.int .i64 x.p,.int .i64 x.off,.int .i64 x.n,.int .i64 x.a,x.vd]
def o7cells(l:List Op7):List Value:=l.flatMap o7cell
theorem o7cells_length(E:List Op7):(o7cells E).length=E.length*7:=by
 induction E with
 | nil=>rfl
 | cons a r ih=>simp only[o7cells,o7cell,List.flatMap_cons,List.length_append,List.length_cons,List.length_nil]at *;omega
structure Op7.ok(w:World)(x:Op7):Prop where
 t:okInt x.t
 p:okInt x.p
 off:okInt x.off
 rd:Reads 1 w x.vd x.bs.length (x.bs.map B)
 le:x.bs.length≤9223372036854775807
theorem Op7.at{w:World}{v:Value}{n:Nat}{l:List Op7}(h:Reads 7 w v n (o7cells l))(k:Nat)(hk:k<n)(x:Op7)(hx:l[k]? = some x):
  ∃b o c,v=.slice (some ⟨b,o,none⟩) n c∧b<w.heap.size∧∀j u,(o7cell x)[j]? = some u→w.cell? ⟨b,o+k*7+j,none⟩=some u:=by
 obtain⟨ao,c,rfl,hl,hc,hr⟩:=h
 obtain⟨b,o,rfl,hb,hcell⟩:=hr (by omega)
 obtain⟨hi,he⟩:=List.getElem?_eq_some_iff.1 hx
 refine⟨b,o,c,rfl,hb,fun j u hu=>?_⟩
 rw[Nat.add_assoc]
 exact hcell _ _ (flat_at o7cell 7 (fun _=>rfl) l k hi j u (by rw[getElem!_pos l k hi,he];exact hu))
section
variable{H:Type}{enc:TypeId×Value→H}{w:World}{held:Bool}
theorem byte7{z:Int}(h:(Lit.int .u8 z).wf=true):B (UInt8.ofNat z.toNat)=.int .u8 z:=by
 have h1:0≤z∧z<256:=by
  simp only[Lit.wf,decide_eq_true_eq]at h
  have h2:IntKind.u8.min≤z∧z≤IntKind.u8.max:=by simpa using h
  have h3:(0:Int)≤z:=h2.1
  have h4:z≤(255:Int):=h2.2
  omega
 unfold B
 congr 1
 rw[UInt8.toNat_ofNat']
 omega
theorem open_bytes7{fuel:Nat}{v:Value}{x:DataW H×List MemPlace}(hf:DataW.trod enc Tryz.prog w 0 (fun _=>true) held fuel 48 [v]=some x):
  ∃L:List UInt8,Reads 1 w v L.length (L.map B)∧L.length≤9223372036854775807:=by
 rcases open_ints Tryz.underlying48 Tryz.underlying5 (by kernel_rfl) hf with ⟨hcs,hx⟩|⟨a,len,cap',zs,hcs,_,hl,hm,hz,hx,hcell,hwz⟩
 ·simp only[List.cons.injEq,and_true]at hcs
  subst hcs hx
  exact⟨[],⟨none,0,rfl,rfl,Nat.le_refl _,fun h=>absurd h (by simp)⟩,by simp⟩
 ·simp only[List.cons.injEq,and_true]at hcs
  subst hcs
  simp only[if_true]at hz
  have hlen:((zs.take len).map (fun z=>UInt8.ofNat z.toNat)).length=len:=by simp;omega
  refine⟨(zs.take len).map (fun z=>UInt8.ofNat z.toNat),?_,by rw[hlen];unfold maxLen at hm;omega⟩
  rw[hlen]
  refine⟨some a,cap',rfl,by simp;omega,hl,fun hn=>?_⟩
  have hc0:=hcell 0 (by omega)
  obtain⟨b,off,spot⟩:=a
  have hsp:spot=none:=by
   have:=World.cell?_spot hc0
   simpa[Addr.add]using this
  subst hsp
  have hc0':=hc0
  simp only[Addr.add_lit,Nat.add_zero]at hc0'
  refine⟨b,off,rfl,World.block_lt_of_cell? w _ hc0',fun j u hu=>?_⟩
  rw[List.map_map,List.getElem?_map]at hu
  cases hj:(zs.take len)[j]? with
  | none=>rw[hj]at hu;cases hu
  | some z=>
   rw[hj]at hu
   have hjn:j<len∧zs[j]? = some z:=by
    rw[List.getElem?_take]at hj
    split at hj
    ·exact⟨by assumption,hj⟩
    ·cases hj
   have hz':z∈zs:=List.mem_of_getElem? hjn.2
   simp only[Option.map_some,Function.comp_apply,Option.some.injEq]at hu
   rw[byte7 (hwz z hz')]at hu
   have:=hcell j (by omega)
   rw[Addr.add_lit]at this
   rw[this,←hu,List.getD_eq_getElem?_getD,hjn.2]
   rfl
theorem open_op7{v:Value}{d:DataW H}{p:List MemPlace}{ao:Option Addr}{n cap:Nat}(hv:v=.slice ao n cap)
  (h:DataW.Trod enc Tryz.prog w 0 (fun _=>true) held 43 v d p):
  ∃l:List Op7,(l.length=n∧∀x∈l,x.ok w)∧n≤maxLen∧Reads 7 w v n (o7cells l):=by
 subst hv
 obtain⟨fuel,hf⟩:=h
 simp only[Value.cells]at hf
 rcases open_slice_fields (fs:=_) Tryz.underlying43 Tryz.underlying50 (by kernel_rfl) (by kernel_rfl) hf with ⟨hcs,hx⟩|⟨a,len,cap',m,D,Pl,hcs,_,hl,hm,hmm,hx,hi⟩
 ·simp only[Array.toList,List.cons.injEq,and_true]at hcs
  injection hcs with e1 e2 e3
  subst e1 e2 e3
  exact⟨[],⟨rfl,fun x hx=>by cases hx⟩,Nat.zero_le _,⟨none,0,rfl,rfl,Nat.le_refl _,fun h=>absurd h (by omega)⟩⟩
 ·simp only[Array.toList,List.cons.injEq,and_true]at hcs
  injection hcs with e1 e2 e3
  subst e1 e2 e3
  simp only[if_true]at hmm
  subst hmm
  have one:∀i,i<n→∃x:Op7,x.ok w∧∀j u,(o7cell x)[j]? = some u→w.cell? (a.add (i*7+j))=some u:=by
   intro i hin
   obtain⟨ys,k,hD,_,hlen,hff⟩:=hi i (by omega)
   obtain⟨v0,y0,hc0,hy0,ht0⟩:=hff 0 _ rfl
   obtain⟨v1,y1,hc1,hy1,ht1⟩:=hff 1 _ rfl
   obtain⟨v2,y2,hc2,hy2,ht2⟩:=hff 2 _ rfl
   obtain⟨v3,y3,hc3,hy3,ht3⟩:=hff 3 _ rfl
   obtain⟨v4,y4,hc4,hy4,ht4⟩:=hff 4 _ rfl
   obtain⟨v5,y5,hc5,hy5,ht5⟩:=hff 5 _ rfl
   obtain⟨v6,y6,hc6,hy6,ht6⟩:=hff 6 _ rfl
   obtain⟨a0,e0,rfl,_⟩:=DataW.trod_int Tryz.underlying3 ht0
   obtain⟨a1,e1,rfl,w1⟩:=DataW.trod_int Tryz.underlying3 ht1
   obtain⟨a2,e2,rfl,w2⟩:=DataW.trod_int Tryz.underlying3 ht2
   obtain⟨a3,e3,rfl,w3⟩:=DataW.trod_int Tryz.underlying3 ht3
   obtain⟨a4,e4,rfl,_⟩:=DataW.trod_int Tryz.underlying3 ht4
   obtain⟨a5,e5,rfl,_⟩:=DataW.trod_int Tryz.underlying3 ht5
   obtain⟨L,h1,h2⟩:=open_bytes7 ht6
   simp only[List.cons.injEq,and_true]at e0 e1 e2 e3 e4 e5
   subst e0 e1 e2 e3 e4 e5
   refine⟨⟨a0,a1,a2,a3,a4,a5,v6,L⟩,⟨wf_i64 w1,wf_i64 w2,wf_i64 w3,h1,h2⟩,fun j u hu=>?_⟩
   have hj:j<7:=(List.getElem?_eq_some_iff.1 hu).1
   match j,hj,hu with
   | 0,_,hu=>obtain rfl:=Option.some.inj hu;exact hc0
   | 1,_,hu=>obtain rfl:=Option.some.inj hu;exact hc1
   | 2,_,hu=>obtain rfl:=Option.some.inj hu;exact hc2
   | 3,_,hu=>obtain rfl:=Option.some.inj hu;exact hc3
   | 4,_,hu=>obtain rfl:=Option.some.inj hu;exact hc4
   | 5,_,hu=>obtain rfl:=Option.some.inj hu;exact hc5
   | 6,_,hu=>obtain rfl:=Option.some.inj hu;exact hc6
  obtain⟨X,hX⟩:=choose_lt one
  refine⟨(List.range n).map X,⟨by simp,fun x hx=>?_⟩,by omega,⟨some a,_,rfl,by rw[o7cells_length];simp,hl,fun hn=>?_⟩⟩
  ·obtain⟨i,hi1,rfl⟩:=List.mem_map.1 hx
   exact(hX i (List.mem_range.1 hi1)).1
  have hc0:=(hX 0 hn).2 0 _ rfl
  obtain⟨b,off,spot⟩:=a
  have hsp:spot=none:=by
   have:=World.cell?_spot hc0
   simpa[Addr.add]using this
  subst hsp
  refine⟨b,off,rfl,World.block_lt_of_cell? w _ hc0,fun j u hu=>?_⟩
  have hj:j<n*7:=by
   have:=(List.getElem?_eq_some_iff.1 hu).1
   rw[o7cells_length]at this
   simpa using this
  have hq:j / 7<n:=by omega
  have hx1:=(hX (j / 7) hq).2
  have hlx:j / 7<((List.range n).map X).length:=by simpa using hq
  have hel:((List.range n).map X)[j / 7]=X (j / 7):=by simp
  have hm7:j % 7<(o7cell (X (j / 7))).length:=Nat.mod_lt _ (by decide)
  have h0:=flat_at o7cell 7 (fun _=>rfl) _ _ hlx (j % 7) _ (by rw[getElem!_pos ((List.range n).map X) (j / 7) hlx,hel];exact List.getElem?_eq_getElem hm7)
  rw[show j / 7*7+j % 7=j by omega]at h0
  have hu3:=Option.some.inj (h0.symm.trans hu)
  have h9:=hx1 (j % 7) _ (List.getElem?_eq_getElem hm7)
  simp only[Addr.add_lit]at h9
  rw[show j / 7*7+j % 7=j by omega]at h9
  rw[←hu3]
  exact h9
theorem open_bools{v:Value}{d:DataW H}{p:List MemPlace}{ao:Option Addr}{n cap:Nat}(hv:v=.slice ao n cap)
  (h:DataW.Trod enc Tryz.prog w 0 (fun _=>true) held 32 v d p):
  ∃l:List Bool,l.length=n∧n≤maxLen∧Reads 1 w v n (l.map Value.bool):=by
 subst hv
 obtain⟨fuel,hf⟩:=h
 simp only[Value.cells]at hf
 rcases open_slice Tryz.underlying32 hf with ⟨hcs,hx⟩|⟨a,len,cap',m,k,D,Pl,hcs,_,hl,hm,hmm,hx,hi⟩
 ·simp only[Array.toList,List.cons.injEq,and_true]at hcs
  injection hcs with e1 e2 e3
  subst e1 e2 e3
  exact⟨[],rfl,Nat.zero_le _,⟨none,0,rfl,rfl,Nat.le_refl _,fun h=>absurd h (by omega)⟩⟩
 ·simp only[Array.toList,List.cons.injEq,and_true]at hcs
  injection hcs with e1 e2 e3
  subst e1 e2 e3
  simp only[if_true]at hmm
  subst hmm
  have hco:Tryz.prog.cellsOf 4=1:=by kernel_rfl
  have one:∀i,i<n→∃x:Bool,w.cell? (a.add i)=some (.bool x):=by
   intro i hin
   obtain⟨cs',hc,ht⟩:=hi i (by omega)
   obtain⟨b,rfl,_⟩:=DataW.trod_bool Tryz.underlying4 ht
   rw[hco,Nat.mul_one]at hc
   obtain⟨_,hcl,hat⟩:=World.cells?_some hc
   have h9:=hat 0 (by decide)
   exact⟨b,by simpa[Addr.add]using h9⟩
  obtain⟨X,hX⟩:=choose_lt one
  refine⟨(List.range n).map X,by simp,by omega,⟨some a,_,rfl,by simp,hl,fun hn=>?_⟩⟩
  have hc0:=hX 0 hn
  obtain⟨b,off,spot⟩:=a
  have hsp:spot=none:=by
   have:=World.cell?_spot hc0
   simpa[Addr.add]using this
  subst hsp
  refine⟨b,off,rfl,World.block_lt_of_cell? w _ hc0,fun j u hu=>?_⟩
  have hj:j<n:=by
   have:=(List.getElem?_eq_some_iff.1 hu).1
   simpa using this
  have h1:=hX j hj
  simp only[Addr.add_lit]at h1
  rw[List.getElem?_map,List.getElem?_map,List.getElem?_range hj]at hu
  obtain rfl:=Option.some.inj hu
  exact h1
end
end
end Go.Proofs.YtpajagkhmodbnaaGreat

/- Pr: texts of the store seat laid together by program: ScOpen SvOpen7. Conditions: each theorem names its own. -/
import Derived.Test.YtpajagkhmodbnaaGreatPr41
import Derived.Test.YtpajagkhmodbnaaGreatPr9
import Derived.Lib.SmallJoins
namespace Go.Proofs.YtpajagkhmodbnaaGreat
set_option linter.unusedSimpArgs false
set_option linter.unusedVariables false
section
open Go.ChangeShapes Go.WideShapes Go.ChangeAt Go.RowKit Go.Deep Go.Joins
abbrev VF:=Int×Int
def aaf(l:List VF):List Value:=l.flatMap fun x=>[.int .i64 x.1,.int .i64 x.2]
instance:Inhabited VF:=⟨(0,0)⟩
theorem VF.at{w:World}{v:Value}{n:Nat}{l:List VF}(h:Reads 2 w v n (aaf l))(k:Nat)(hk:k<n)(x:VF)(hx:l[k]? = some x):
  ∃b o c,v=.slice (some ⟨b,o,none⟩) n c/\b<w.heap.size/\w.cell? ⟨b,o+k*2,none⟩=some (.int .i64 x.1)/\w.cell? ⟨b,o+k*2+1,none⟩=some (.int .i64 x.2):=by
 obtain⟨ao,c,rfl,hl,hc,hr⟩:=h;obtain⟨b,o,rfl,hb,hcell⟩:=hr (by omega);obtain⟨hi,he⟩:=List.getElem?_eq_some_iff.1 hx;have at2:∀(j:Nat)(u:Value),([.int .i64 x.1,.int .i64 x.2]:List Value)[j]? = some u->(aaf l)[k*2+j]? = some u:=fun j u hu=>
  uh (fun x:VF=>[.int .i64 x.1,.int .i64 x.2]) 2 (fun _=>rfl) l k hi j u (by rw[getElem!_pos l k hi,he];exact hu)
 exact⟨b,o,c,rfl,hb,hcell _ _ (at2 0 _ rfl),by rw[Nat.add_assoc];exact hcell _ _ (at2 1 _ rfl)⟩
def Yp(n:Int):Prop := -9223372036854775808<=n/\n<=9223372036854775807
end
section
open Go.ChangeShapes Go.WideShapes Go.ChangeAt Go.RowKit Go.Deep Go.Joins
structure MK where
 kind:Int
 t:Int
 p:Int
 off:Int
 n:Int
 a:Int
 vd:Value
 bs:List UInt8
instance:Inhabited MK:=⟨⟨0,0,0,0,0,0,.slice none 0 0,[]⟩⟩
def Tt(x:MK):List Value:=[.int .i64 x.kind,.int .i64 x.t,.int .i64 x.p,.int .i64 x.off,.int .i64 x.n,.int .i64 x.a,x.vd]
def afR(l:List MK):List Value:=l.flatMap Tt
theorem aar(E:List MK):(afR E).length=E.length*7:=by
 induction E with
 | nil=>rfl
 | cons a r ih=>simp only[afR,Tt,List.flatMap_cons,List.length_append,List.length_cons,List.length_nil]at *;omega
structure MK.ok(w:World)(x:MK):Prop where
 t:Yp x.t
 p:Yp x.p
 off:Yp x.off
 rd:Reads 1 w x.vd x.bs.length (x.bs.map B)
 le:x.bs.length<=9223372036854775807
theorem MK.at{w:World}{v:Value}{n:Nat}{l:List MK}(h:Reads 7 w v n (afR l))(k:Nat)(hk:k<n)(x:MK)(hx:l[k]? = some x):
  ∃b o c,v=.slice (some ⟨b,o,none⟩) n c/\b<w.heap.size/\∀j u,(Tt x)[j]? = some u->w.cell? ⟨b,o+k*7+j,none⟩=some u:=by
 obtain⟨ao,c,rfl,hl,hc,hr⟩:=h;obtain⟨b,o,rfl,hb,hcell⟩:=hr (by omega);obtain⟨hi,he⟩:=List.getElem?_eq_some_iff.1 hx;refine⟨b,o,c,rfl,hb,fun j u hu=>?_⟩;rw[Nat.add_assoc];exact hcell _ _ (uh Tt 7 (fun _=>rfl) l k hi j u (by rw[getElem!_pos l k hi,he];exact hu))
section
variable{H:Type}{enc:TypeId×Value->H}{w:World}{held:Bool}
theorem amg{z:Int}(h:(Lit.int .u8 z).wf=true):B (UInt8.ofNat z.toNat)=.int .u8 z:=by
 have h1:0<=z/\z<256:=by
  simp only[Lit.wf,decide_eq_true_eq]at h;have h2:IntKind.u8.min<=z/\z<=IntKind.u8.max:=by simpa using h
  have h3:(0:Int)<=z:=h2.1;have h4:z<=(255:Int):=h2.2;omega
 unfold B;congr 1;rw[UInt8.toNat_ofNat'];omega
theorem Ur{fuel:Nat}{v:Value}{x:DataW H×List MemPlace}(hf:DataW.trod enc Tryz.prog w 0 (fun _=>true) held fuel 48 [v]=some x):
  ∃L:List UInt8,Reads 1 w v L.length (L.map B)/\L.length<=9223372036854775807:=by
 rcases open_ints Tryz.underlying48 Tryz.underlying5 (by kernel_rfl) hf with ⟨hcs,hx⟩|⟨a,len,cap',zs,hcs,_,hl,hm,hz,hx,hcell,hwz⟩
 ·simp only[List.cons.injEq,and_true]at hcs;subst hcs hx;exact⟨[],⟨none,0,rfl,rfl,Nat.le_refl _,fun h=>absurd h (by simp)⟩,by simp⟩
 ·simp only[List.cons.injEq,and_true]at hcs;subst hcs;simp only[if_true]at hz;have hlen:((zs.take len).map (fun z=>UInt8.ofNat z.toNat)).length=len:=by simp;omega
  refine⟨(zs.take len).map (fun z=>UInt8.ofNat z.toNat),?_,by rw[hlen];unfold maxLen at hm;omega⟩;rw[hlen];refine⟨some a,cap',rfl,by simp;omega,hl,fun hn=>?_⟩;have hc0:=hcell 0 (by omega);obtain⟨b,off,spot⟩:=a;have hsp:spot=none:=by
   have:=World.cell?_spot hc0;simpa[Addr.add]using this
  subst hsp;have hc0':=hc0;simp only[Addr.add_lit,Nat.add_zero]at hc0';refine⟨b,off,rfl,World.block_lt_of_cell? w _ hc0',fun j u hu=>?_⟩;rw[List.map_map,List.getElem?_map]at hu;cases hj:(zs.take len)[j]? with
  | none=>rw[hj]at hu;cases hu
  | some z=>
   rw[hj]at hu;have hjn:j<len/\zs[j]? = some z:=by
    rw[List.getElem?_take]at hj;split at hj
    ·exact⟨by assumption,hj⟩
    ·cases hj
   have hz':z∈zs:=List.mem_of_getElem? hjn.2;simp only[Option.map_some,Function.comp_apply,Option.some.injEq]at hu;rw[amg (hwz z hz')]at hu;have:=hcell j (by omega);rw[Addr.add_lit]at this;rw[this,<-hu,List.getD_eq_getElem?_getD,hjn.2];rfl
theorem ad8{v:Value}{d:DataW H}{p:List MemPlace}{ao:Option Addr}{n cap:Nat}(hv:v=.slice ao n cap)
  (h:DataW.Trod enc Tryz.prog w 0 (fun _=>true) held 43 v d p):
  ∃l:List MK,(l.length=n/\∀x∈l,x.ok w)/\n<=maxLen/\Reads 7 w v n (afR l):=by
 subst hv;obtain⟨fuel,hf⟩:=h;simp only[Value.cells]at hf;rcases aaw (fs:=_) Tryz.underlying43 Tryz.underlying50 (by kernel_rfl) (by kernel_rfl) hf with ⟨hcs,hx⟩|⟨a,len,cap',m,D,Pl,hcs,_,hl,hm,hmm,hx,hi⟩
 ·simp only[Array.toList,List.cons.injEq,and_true]at hcs;injection hcs with e1 e2 e3;subst e1 e2 e3;exact⟨[],⟨rfl,fun x hx=>by cases hx⟩,Nat.zero_le _,⟨none,0,rfl,rfl,Nat.le_refl _,fun h=>absurd h (by omega)⟩⟩
 ·simp only[Array.toList,List.cons.injEq,and_true]at hcs;injection hcs with e1 e2 e3;subst e1 e2 e3;simp only[if_true]at hmm;subst hmm;have one:∀i,i<n->∃x:MK,x.ok w/\∀j u,(Tt x)[j]? = some u->w.cell? (a.add (i*7+j))=some u:=by
   intro i hin;obtain⟨ys,k,hD,_,hlen,Zp⟩:=hi i (by omega);obtain⟨v0,y0,hc0,hy0,ht0⟩:=Zp 0 _ rfl;obtain⟨v1,y1,hc1,hy1,ht1⟩:=Zp 1 _ rfl;obtain⟨v2,y2,hc2,hy2,ht2⟩:=Zp 2 _ rfl;obtain⟨v3,y3,hc3,hy3,ht3⟩:=Zp 3 _ rfl;obtain⟨v4,y4,hc4,hy4,Am⟩:=Zp 4 _ rfl;obtain⟨v5,y5,hc5,zn,Lp⟩:=Zp 5 _ rfl;obtain⟨v6,y6,hc6,hy6,ZG⟩:=Zp 6 _ rfl;obtain⟨a0,e0,rfl,_⟩:=DataW.trod_int Tryz.underlying3 ht0;obtain⟨a1,e1,rfl,w1⟩:=DataW.trod_int Tryz.underlying3 ht1;obtain⟨a2,e2,rfl,w2⟩:=DataW.trod_int Tryz.underlying3 ht2;obtain⟨a3,e3,rfl,w3⟩:=DataW.trod_int Tryz.underlying3 ht3;obtain⟨a4,e4,rfl,_⟩:=DataW.trod_int Tryz.underlying3 Am;obtain⟨a5,e5,rfl,_⟩:=DataW.trod_int Tryz.underlying3 Lp;obtain⟨L,h1,h2⟩:=Ur ZG;simp only[List.cons.injEq,and_true]at e0 e1 e2 e3 e4 e5;subst e0 e1 e2 e3 e4 e5;refine⟨⟨a0,a1,a2,a3,a4,a5,v6,L⟩,⟨wf_i64 w1,wf_i64 w2,wf_i64 w3,h1,h2⟩,fun j u hu=>?_⟩;have hj:j<7:=(List.getElem?_eq_some_iff.1 hu).1
   match j,hj,hu with
   | 0,_,hu=>obtain rfl:=Option.some.inj hu;exact hc0
   | 1,_,hu=>obtain rfl:=Option.some.inj hu;exact hc1
   | 2,_,hu=>obtain rfl:=Option.some.inj hu;exact hc2
   | 3,_,hu=>obtain rfl:=Option.some.inj hu;exact hc3
   | 4,_,hu=>obtain rfl:=Option.some.inj hu;exact hc4
   | 5,_,hu=>obtain rfl:=Option.some.inj hu;exact hc5
   | 6,_,hu=>obtain rfl:=Option.some.inj hu;exact hc6
  obtain⟨X,hX⟩:=choose_lt one;refine⟨(List.range n).map X,⟨by simp,fun x hx=>?_⟩,by omega,⟨some a,_,rfl,by rw[aar];simp,hl,fun hn=>?_⟩⟩
  ·obtain⟨i,hi1,rfl⟩:=List.mem_map.1 hx;exact(hX i (List.mem_range.1 hi1)).1
  have hc0:=(hX 0 hn).2 0 _ rfl;obtain⟨b,off,spot⟩:=a;have hsp:spot=none:=by
   have:=World.cell?_spot hc0;simpa[Addr.add]using this
  subst hsp;refine⟨b,off,rfl,World.block_lt_of_cell? w _ hc0,fun j u hu=>?_⟩;have hj:j<n*7:=by
   have:=(List.getElem?_eq_some_iff.1 hu).1;rw[aar]at this;simpa using this
  have hq:j / 7<n:=by omega
  have hx1:=(hX (j / 7) hq).2;have hlx:j / 7<((List.range n).map X).length:=by simpa using hq
  have hel:((List.range n).map X)[j / 7]=X (j / 7):=by simp
  have hm7:j % 7<(Tt (X (j / 7))).length:=Nat.mod_lt _ (by decide);have h0:=uh Tt 7 (fun _=>rfl) _ _ hlx (j % 7) _ (by rw[getElem!_pos ((List.range n).map X) (j / 7) hlx,hel];exact List.getElem?_eq_getElem hm7);rw[show j / 7*7+j % 7=j by omega]at h0;have hu3:=Option.some.inj (h0.symm.trans hu);have h9:=hx1 (j % 7) _ (List.getElem?_eq_getElem hm7);simp only[Addr.add_lit]at h9;rw[show j / 7*7+j % 7=j by omega]at h9;rw[<-hu3];exact h9
end
end
end Go.Proofs.YtpajagkhmodbnaaGreat

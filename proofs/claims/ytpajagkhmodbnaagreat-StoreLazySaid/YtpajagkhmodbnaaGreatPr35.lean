/- Pr: texts of the store seat laid together by program: ReLoop ReStart. Conditions: each theorem names its own. -/
import Derived.Test.YtpajagkhmodbnaaGreatPr31
import Derived.Test.YtpajagkhmodbnaaGreatPr32
import Derived.Test.YtpajagkhmodbnaaGreatPr34
import Derived.Test.YtpajagkhmodbnaaGreatPr21
namespace Go.Proofs.YtpajagkhmodbnaaGreat
set_option maxRecDepth 100000
set_option maxHeartbeats 25600000
open Lib(hid)
set_option linter.unusedSimpArgs false
set_option linter.unusedVariables false
section
open Go.RowKit
structure zW(W0 w0:World)(A:bG)(c:Cf)(σ2:St)(S0:Nat->Prop)(vo:Value)(T:List T3)(v2 vT vU:Value)(OE:List (Rc×Value))(Kn:Nat->Prop)(W:Nat->List UInt8)(n k:Nat)(σk:St)(jv:Value)(nY:List Le)(Kk Sk:Nat->Prop)(Tk:List T3)(w:World):Prop where
 sv:aP W0 w A c σk jv vo nY [] Kk Sk
 br:sV c A.nf σ2 σk W ((OE.map (·.1)).take k)
 ft:aG S0 (aO Sk jv vo [] Kk) w0 w
 row:T≠[]->∃g c,vT=.slice (some ⟨g,0,none⟩) T.length c/\w.ownsRow W0.heap.size 120 3 vT T.length (fB Tk)/\¬aO Sk jv vo [] Kk g/\¬Kn g/\w0.heap.size<=g
 ids:Tk.map (·.1)=T.map (·.1)
 tb:∀x∈Tk,x.2.1<=1099511627776
 rd:Reads 11 w vU OE.length (jY OE)
 nv:∀q,vU.ownBlock=some q->¬aO Sk jv vo [] Kk q/\vT.ownBlock≠some q/\q<w.heap.size/\¬Kn q
 oe:∀x∈OE,bH w Kn x.1.after x.2
 kd:∀q,Kn q->(¬Sk q/\¬dS jv q/\¬bZ vo [] q)/\w0.heap.size<=q/\q<w.heap.size
 el:nY.length=n+k
 r2:Reads 3 w v2 T.length (fB T)
 n2:∀q,v2.ownBlock=some q->¬aO Sk jv vo [] Kk q/\vT.ownBlock≠some q/\q<w.heap.size/\¬Kn q
section
variable{W0 w0 w w':World}{A:bG}{c:Cf}{σ2 σk:St}{S0:Nat->Prop}{vo:Value}{T Tk:List T3}{v2 vT vU jv:Value}{OE:List (Rc×Value)}{Kn Kk Sk:Nat->Prop}{W:Nat->List UInt8}{n k:Nat}{nY:List Le}
theorem zW.below(h:zW W0 w0 A c σ2 S0 vo T v2 vT vU OE Kn W n k σk jv nY Kk Sk Tk w)(hb:Below w.heap.size w w'):zW W0 w0 A c σ2 S0 vo T v2 vT vU OE Kn W n k σk jv nY Kk Sk Tk w':=
 ⟨h.sv.below hb,h.br,h.ft.trans (aG.below (aC hb)),fun hT=>by
  obtain⟨g,c,e,h1,h2⟩:=h.row hT;exact⟨g,c,e,own_below h1 hb (fun q e=>(h1.lt q e).2),h2⟩,h.ids,h.tb,h.rd.below hb (Nat.le_refl _),fun q e=>⟨(h.nv q e).1,(h.nv q e).2.1,Nat.lt_of_lt_of_le (h.nv q e).2.2.1 hb.size,(h.nv q e).2.2.2⟩,
  fun x hx=>(h.oe x hx).grow (aC hb) (fun _ _ h=>h),fun q hq=>⟨(h.kd q hq).1,(h.kd q hq).2.1,Nat.lt_of_lt_of_le (h.kd q hq).2.2 hb.size⟩,h.el,h.r2.below hb (Nat.le_refl _),fun q e=>⟨(h.n2 q e).1,(h.n2 q e).2.1,Nat.lt_of_lt_of_le (h.n2 q e).2.2.1 hb.size,(h.n2 q e).2.2.2⟩⟩
theorem zW.step(hc:c.ok)(h:zW W0 w0 A c σ2 S0 vo T v2 vT vU OE Kn W n k σk jv nY Kk Sk Tk w)(r:Rc)(va:Value)(hx:OE[k]? = some (r,va))(hrt:r.lQ=[]/\r.dirty=[])(hp:r.page<c.pg)(ho:r.off+r.after.length<=504)
  (g cT:Nat) (Vz:vT=.slice (some ⟨g,0,none⟩) T.length cT) (pI:¬aO Sk jv vo [] Kk g/\¬Kn g/\w0.heap.size<=g) (hgl:g<w.heap.size) (b:Nat) (gJ:Value) (jq:List Le) (hel:jq.length=nY.length+1) (S':Nat->Prop) (q a st t1:Nat) (hq:Tk[q]? = some (a,b,st)) (ht1:t1<=1099511627776)
  (hs:aP W0 w' A c (wJ c σk { r with prev:=b }) gJ vo jq [] (fun q=>Kk q\/Kn q) S') (hrow:w'.ownsRow W0.heap.size 120 3 vT T.length (fB (Tk.set q (a,t1,st))))
  (hg:aj (fun q=>(Sk q\/dS jv q)\/q=g) w w') (hn:∀q,aO S' gJ vo [] (fun q=>Kk q\/Kn q) q->aO Sk jv vo [] Kk q\/Kn q\/w.heap.size<=q):
  zW W0 w0 A c σ2 S0 vo T v2 vT vU OE Kn W n (k+1) (wJ c σk { r with prev:=b }) gJ jq (fun q=>Kk q\/Kn q) S' (Tk.set q (a,t1,st)) w':=by
 have hw:∀q,¬aO Sk jv vo [] Kk q->vT.ownBlock≠some q->¬((Sk q\/dS jv q)\/q=g):=fun q h1 h2 h3=>by
  rcases h3 with (h3|h3)|h3
  ·exact h1 (.inl h3)
  ·exact h1 (.inr (.inl h3))
  ·apply h2;rw[Vz,h3];rfl
 have hnn:∀q,q<w.heap.size->¬aO Sk jv vo [] Kk q->¬Kn q->¬aO S' gJ vo [] (fun q=>Kk q\/Kn q) q:=fun q h1 h2 h3 h4=>by
  rcases hn q h4 with h5|h5|h5
  ·exact h2 h5
  ·exact h3 h5
  ·omega
 refine⟨hs,?_,⟨h.ft.grow.step hg (fun q hq2 h3=>?_),fun q hq2=>?_⟩,fun hT=>⟨g,cT,Vz,hrow,hnn g hgl pI.1 pI.2.1,pI.2.1,pI.2.2⟩,?_,?_,h.rd.aH hg (fun q e=>hw q (h.nv q e).1 (h.nv q e).2.1),fun q e=>⟨hnn q (h.nv q e).2.2.1 (h.nv q e).1 (h.nv q e).2.2.2,(h.nv q e).2.1,Nat.lt_of_lt_of_le (h.nv q e).2.2.1 hg.size,(h.nv q e).2.2.2⟩,
  fun x hx=>(h.oe x hx).grow hg (fun q hq2 h3=>?_),fun q hq2=>⟨⟨fun h3=>hs.k1 q (.inr hq2) h3,fun h3=>hs.k2 q (.inr hq2) h3,fun h3=>hs.k3 q (.inr hq2) h3⟩,(h.kd q hq2).2.1,Nat.lt_of_lt_of_le (h.kd q hq2).2.2 hg.size⟩,by rw[hel,h.el];omega,
  h.r2.aH hg (fun q e=>hw q (h.n2 q e).1 (h.n2 q e).2.1),fun q e=>⟨hnn q (h.n2 q e).2.2.1 (h.n2 q e).1 (h.n2 q e).2.2.2,(h.n2 q e).2.1,Nat.lt_of_lt_of_le (h.n2 q e).2.2.1 hg.size,(h.n2 q e).2.2.2⟩⟩
 ·have h1:=h.br.step hc r b hrt hp ho;have e:(OE.map (·.1)).take (k+1)=(OE.map (·.1)).take k++[r]:=by
   rw[List.take_add_one,List.getElem?_map,hx];rfl
  rw[e];exact h1
 ·rcases h3 with (h3|h3)|h3
  ·exact(h.ft.new q (.inl h3)).elim id (fun h4=>by omega)
  ·exact(h.ft.new q (.inr (.inl h3))).elim id (fun h4=>by omega)
  ·have:=pI.2.2;omega
 ·rcases hn q hq2 with h5|h5|h5
  ·exact h.ft.new q h5
  ·exact .inr (h.kd q h5).2.1
  ·exact .inr (Nat.le_trans h.ft.grow.size h5)
 ·rw[List.map_set,<-h.ids];have h1:(Tk.map (·.1))[q]? = some a:=by rw[List.getElem?_map,hq];rfl
  exact set_self h1
 ·intro x hx;rcases List.mem_or_eq_of_mem_set hx with hx|rfl
  ·exact h.tb x hx
  ·exact ht1
 ·rcases h3 with (h3|h3)|h3
  ·exact(h.kd q hq2).1.1 h3
  ·exact(h.kd q hq2).1.2.1 h3
  ·exact pI.2.1 (h3▸hq2)
end
def dW(T:List T3):List Rc:=(T.filter fun x=>decide (x.2.2=2)).map fun x=>{ gB x.1 with prev:=x.2.1 }
theorem zX(T:List T3)(x:T3):dW (T++[x])=dW T++(if x.2.2=2 then [{ gB x.1 with prev:=x.2.1 }] else []):=by
 unfold dW;rw[List.filter_append,List.map_append];by_cases h:x.2.2=2
 ·rw[if_pos h];simp[h]
 ·rw[if_neg h];simp[h]
structure yT(W0 w0:World)(A:bG)(c:Cf)(σ2:St)(S0:Nat->Prop)(vo:Value)(T:List T3)(v2:Value)(W:Nat->List UInt8)(U:List Rc)(n k:Nat)(σk:St)(jv:Value)(nY:List Le)(Kk Sk:Nat->Prop)(w:World):Prop where
 sv:aP W0 w A c σk jv vo nY [] Kk Sk
 br:sV c A.nf σ2 σk W (U++dW (T.take k))
 ft:aG S0 (aO Sk jv vo [] Kk) w0 w
 el:nY.length<=n+U.length+k
 r2:Reads 3 w v2 T.length (fB T)
 n2:∀q,v2.ownBlock=some q->¬aO Sk jv vo [] Kk q/\q<w.heap.size
section
variable{W0 w0 w w':World}{A:bG}{c:Cf}{σ2 σk:St}{S0:Nat->Prop}{vo:Value}{T Tk:List T3}{v2 vT vU jv gJ:Value}{OE:List (Rc×Value)}{Kn Kk Sk S':Nat->Prop}{W:Nat->List UInt8}{n k:Nat}{nY jq:List Le}{U:List Rc}
theorem zW.ends(h:zW W0 w0 A c σ2 S0 vo T v2 vT vU OE Kn W n k σk jv nY Kk Sk Tk w)(hk:OE.length=k)(hU:OE.map (·.1)=U):yT W0 w0 A c σ2 S0 vo T v2 W U n 0 σk jv nY Kk Sk w:=by
 refine⟨h.sv,?_,h.ft,by rw[h.el,<-hU,List.length_map,hk];exact Nat.le_refl _,h.r2,fun q e=>⟨(h.n2 q e).1,(h.n2 q e).2.2.1⟩⟩;have h1:=h.br;rw[List.take_of_length_le (by rw[List.length_map,hk];exact Nat.le_refl _),hU]at h1;rw[List.take_zero];show sV c A.nf σ2 σk W (U++[]);rw[List.append_nil];exact h1
theorem yT.below(h:yT W0 w0 A c σ2 S0 vo T v2 W U n k σk jv nY Kk Sk w)(hb:Below w.heap.size w w'):yT W0 w0 A c σ2 S0 vo T v2 W U n k σk jv nY Kk Sk w':=
 ⟨h.sv.below hb,h.br,h.ft.trans (aG.below (aC hb)),h.el,h.r2.below hb (Nat.le_refl _),fun q e=>⟨(h.n2 q e).1,Nat.lt_of_lt_of_le (h.n2 q e).2 hb.size⟩⟩
theorem yT.skip(h:yT W0 w0 A c σ2 S0 vo T v2 W U n k σk jv nY Kk Sk w)(x:T3)(hx:T[k]? = some x)(h2:¬x.2.2=2):yT W0 w0 A c σ2 S0 vo T v2 W U n (k+1) σk jv nY Kk Sk w:=by
 refine⟨h.sv,?_,h.ft,by have:=h.el;omega,h.r2,h.n2⟩;have e:T.take (k+1)=T.take k++[x]:=by rw[List.take_add_one,hx];rfl
 rw[e,zX,if_neg h2,List.append_nil];exact h.br
theorem yT.step(hc:c.ok)(hpg:1<=c.pg)(h:yT W0 w0 A c σ2 S0 vo T v2 W U n k σk jv nY Kk Sk w)(a b:Nat)(hx:T[k]? = some (a,b,2))(hel:jq.length=nY.length+1)
  (hs:aP W0 w' A c { σk with io:={ σk.io with R:=σk.io.R.app (Rc.enc { gB a with prev:=b }) },lines:=σk.lines++[(σk.io.R.tail+1,{ gB a with prev:=b })] } gJ vo jq [] Kk S')
  (hg:aj (fun q=>Sk q\/dS jv q) w w') (hn1:∀q,S' q->Sk q\/w.heap.size<=q) (hn2:∀q,dS gJ q->dS jv q\/w.heap.size<=q):
  yT W0 w0 A c σ2 S0 vo T v2 W U n (k+1) { σk with io:={ σk.io with R:=σk.io.R.app (Rc.enc { gB a with prev:=b }) },lines:=σk.lines++[(σk.io.R.tail+1,{ gB a with prev:=b })] } gJ jq Kk S' w':=by
 have hf:aG (aO Sk jv vo [] Kk) (aO S' gJ vo [] Kk) w w':=fQ (hg.mono (fun k h=>h.elim .inl (fun h=>.inr (.inl h)))) hn1 hn2 (fun k h=>.inl h) (fun k h=>.inl h);refine⟨hs,?_,h.ft.trans hf,by have:=h.el;omega,h.r2.aH hf.grow (fun q e=>(h.n2 q e).1),fun q e=>⟨fun hs=>(hf.new q hs).elim (h.n2 q e).1 (fun h3=>by have:=(h.n2 q e).2;omega),Nat.lt_of_lt_of_le (h.n2 q e).2 hf.grow.size⟩⟩;have e:T.take (k+1)=T.take k++[(a,b,2)]:=by rw[List.take_add_one,hx];rfl
 rw[e,zX,if_pos rfl,<-List.append_assoc];exact h.br.step hc { gB a with prev:=b } b ⟨rfl,rfl⟩ (by show 0<_;omega) (by show 0+0<=504;omega)
end
end
section
open Go.RowKit
theorem Me:∀(rs:List Rc)(st:Nat)(x:Nat×Rc),x∈dG st rs->x.2∈rs/\st+1<=x.1/\x.1+x.2.size<=st+dR rs+1
 | [],_,x,h=>by cases h
 | r::rs,st,x,h=>by
  have hs:dR (r::rs)=r.size+dR rs:=by simp[dR]
  rcases List.mem_cons.1 h with rfl|h
  ·exact⟨List.mem_cons_self ..,Nat.le_refl _,by rw[hs];show st+1+r.size<=_;omega⟩
  ·obtain⟨h1,h2,h3⟩:=Me rs (st+r.size) x h;exact⟨List.mem_cons_of_mem _ h1,by omega,by rw[hs];omega⟩
theorem MB:∀(rs:List Rc)(st:Nat),(dG st rs).length=rs.length
 | [],_=>rfl
 | r::rs,st=>by show(dG _ rs).length+1=_;rw[MB rs];rfl
theorem MC:∀(l:List (Nat×Rc))(a:An),(l.foldl An.step a).cm<=a.cm+l.length
 | [],a=>Nat.le_refl _
 | x::l,a=>by
  rw[List.foldl_cons,List.length_cons];have h1:=MC l (a.step x);have h2:(a.step x).cm<=a.cm+1:=by
   show Jq _ _<=_;unfold Jq;split<;>omega
  omega
theorem acA(l:List (Nat×Rc)):(bV l).cm<=l.length:=by
 have:=MC l ⟨[],[],0⟩;simpa[bV]using this
theorem Gl(x:T3)(T:List T3):dW (x::T)=if x.2.2=2 then { gB x.1 with prev:=x.2.1 }::dW T else dW T:=by
 unfold dW;rw[List.filter_cons];by_cases h:x.2.2=2
 ·rw[if_pos h,if_pos (by simp[h])];rfl
 ·rw[if_neg h,if_neg (by simp[h])]
theorem uY(T:List T3):dR (dW T)=96*(dW T).length:=by
 induction T with
 | nil=>rfl
 | cons x r ih=>
  rw[Gl];split
  ·have:dR (({ gB x.1 with prev:=x.2.1 }:Rc)::dW r)=96+dR (dW r):=by simp[dR];rfl
   rw[this,ih,List.length_cons];omega
  ·exact ih
theorem Sz(T:List T3):((dW T).filter fun r=>decide (r.kind=3)).length=0:=by
 rw[List.length_eq_zero_iff,List.filter_eq_nil_iff];intro r hr;unfold dW at hr;obtain⟨x,_,rfl⟩:=List.mem_map.1 hr;show ¬decide ((6:Nat)=3)=true;decide
theorem acB(W:Nat->List UInt8)(U:List Rc)(T:List T3):yS W (U++dW T)=yS W U:=by
 unfold yS;rw[List.foldl_append];generalize U.foldl _ W=W1
 induction T with
 | nil=>rfl
 | cons x r ih=>
  rw[Gl];split
  ·rw[List.foldl_cons];exact ih
  ·exact ih
theorem uZ(a b:List Rc):dR (a++b)=dR a+dR b:=by simp[dR]
theorem aao(T:List T3)(k a b:Nat)(h:T[k]? = some (a,b,2)):(dW (T.take k)).length+1<=(dW T).length:=by
 have e1:T=T.take (k+1)++T.drop (k+1):=(List.take_append_drop _ _).symm;have e2:T.take (k+1)=T.take k++[(a,b,2)]:=by rw[List.take_add_one,h];rfl
 have e3:dW T=dW (T.take k)++[{ gB a with prev:=b }]++dW (T.drop (k+1)):=by
  have h2:dW T=dW (T.take (k+1))++dW (T.drop (k+1)):=by
   conv=>lhs;rw[e1]
   unfold dW;rw[List.filter_append,List.map_append]
  rw[h2,e2,zX,if_pos rfl]
 rw[e3,List.length_append,List.length_append];show _+1<=_+1+_;omega
theorem MF:∀(U:List Rc)(k:Nat)(r:Rc),U[k]? = some r->dR (U.take k)+r.size<=dR U
 | [],k,r,h=>by cases h
 | x::U,0,r,h=>by
  obtain rfl:=Option.some.inj h;simp[dR]
 | x::U,k+1,r,h=>by
  have h1:=MF U k r h;have e1:dR (x::U)=x.size+dR U:=by simp[dR]
  have e2:dR ((x::U).take (k+1))=x.size+dR (U.take k):=by simp[dR]
  rw[e1,e2];omega
structure X6(c:Cf)(l:List (Nat×Rc))(rm:Nat)(T:List T3)(D:List D2)(U:List Rc):Prop where
 un:lH l (fH (gX T)+1) (gX T)=U
 tn:T.length<=20
 tb:∀x∈T,x.1<=1099511627776/\x.2.1<=1099511627776/\(x.2.2=2\/1<=x.2.1)
 ms:fH (gX T)<=100000000
 dn:D.length<=20
 db:∀x∈D,x.2<=1099511627776
 us:∀r∈U,(r.kind=3\/r.kind=6)/\r.page<c.pg/\r.off+r.after.length<=504/\∃x∈T,x.1=r.aV
 rm:dR U+96*(dW T).length<=rm
 ul:U.length<=100000
theorem fG.mark{c:Cf}{nf:Nat}{σ:St}{W:Nat->List UInt8}(hc:c.ok)(h:fG c nf σ W)(st:Nat):fG c nf (σ.mark st) W:=by
 obtain⟨V,hV,hW⟩:=h;have hg:=hV.J.1;have hl:=hV.J.2;have hcf:=hc.fr;have hml:(dw (σ.master+1) st (σ.commits-((σ.lines.filter fun x=>decide (st<x.1)).filter fun x=>decide (x.2.kind=4)).length) σ.next).length=128:=by unfold dw;simp only[List.length_append,dL,List.length_replicate]
 have hi:(σ.master+1) % 2<σ.io.D.l.length:=by omega
 obtain⟨w1,w2,w3⟩:=hg.write ((σ.master+1) % 2) _ hi hml;obtain⟨v1,v2,v3,v4⟩:=w1.sync;have eH:∀j,2<=j->(σ.mark st).io.D.sec j=σ.io.D.sec j:=fun j hj=>by
  show((σ.io.D.write _ _).sync).sec j=_;rw[v4,hg.jV _ _ hi hml,if_neg (by omega)]
 refine⟨V,⟨⟨v1,?_⟩,hV.hok,?_⟩,hW⟩
 ·show _<=((σ.io.D.write _ _).sync).l.length;rw[v2,w2];exact hl
 ·refine hV.inv.disk (fun q hq=>?_);show dO _ _ 4=dO _ _ 4;exact kP (fun i i1 i2=>eH i (by omega))
section
variable{W0 w w' w2:World}{A:bG}{c:Cf}{σ:St}{S:Nat->Prop}{V:Nat->List UInt8}{vl vo:Value}{EL:List Le}{EO:List Te}{K S1:Nat->Prop}{X:Nat->Prop}
theorem X7(hc:c.ok)(hpg:1<=c.pg/\c.pg<=8192/\c.n<=8192)(h:aP W0 w A c σ vl vo [] [] K S1)(hV:mF c A.nf σ V)(Vt:∀p,p<c.pg->dN ((V p).take 8)<=1099511627776)(recs:List Rc)(hmid:∀r∈recs,r.mid)(st nb cm:Nat)
  (hst:σ.io.R.start=st) (hfi:σ.io.R.fin=st+nb) (hft:σ.io.R.tail=st+nb) (hby:(σ.io.R.bytes.drop (st-σ.io.R.base)).take nb=cZ recs) (hlen:(cZ recs).length=nb) (hnb:nb<=900000) (Xv:st<=549755813888)
  (hrn:recs.length<=10000) (hrec:∀r∈recs,r.kind≠7/\1<=r.aV/\r.page<c.pg/\r.off+r.after.length<=504/\(r.kind=2->0<r.before.length)) (htx:(bV (dG st recs)).tx.length<=20) (hdr:(bV (dG st recs)).dr.length<=20)
  (hok:∀T D,T.Perm (bV (dG st recs)).tx->T.Pairwise (fun a b=>a.1<=b.1)->D.Perm (bV (dG st recs)).dr->D.Pairwise (fun a b=>a.1<=b.1)->∃U,X6 c (dG st recs) (σ.io.R.room c.n) T D U)
  (hwr:σ.p.wr+300000+A.nf<=1000000000) (hma:σ.master<=1099511627776) (hnx:σ.next<=1099511627775) (hnr:∀r∈recs,r.aV<=1099511627775) (hcm:cm<=1000000000) (hre:σ.aW<=1000000000) (hud:σ.aZ<=1000000000):
  Calls Tryz.prog 84 #[.pointer (some ⟨A.sb,0,none⟩),.int .i64 (cm:Nat)] w fun er w'=>er=.returned (.int .i64 0)/\∃(T:List T3)(D:List D2)(U:List Rc)(σ5:St)(K' aT:Nat->Prop),
   T.Perm (bV (dG st recs)).tx/\D.Perm (bV (dG st recs)).dr/\D.Pairwise (fun a b=>a.1<=b.1)/\lH (dG st recs) (fH (gX T)+1) (gX T)=U/\
   aP W0 w' A c (σ5.mark σ5.io.R.fin) (.slice none 0 0) vo [] [] K' aT/\aG (aO S1 vl vo [] K) (aO aT (.slice none 0 0) vo [] K') w w'/\
   fG c A.nf (σ5.mark σ5.io.R.fin) (yS (AL (dG st recs) (fun q=>(V q).drop 8) (fE D (fun p=>dN ((V p).take 8)) (dG st recs)).2) U)/\
   σ5.commits=cm+(bV (dG st recs)).cm/\σ5.aZ=σ.aZ+(U.filter fun r=>decide (r.kind=3)).length/\σ5.aW=σ.aW+(fE D (fun p=>dN ((V p).take 8)) (dG st recs)).2.length/\
   σ5.io.R.fin=σ.io.R.tail+dR U+96*(dW T).length/\σ5.io.R.tail=σ5.io.R.fin/\σ5.master=σ.master/\σ5.next=lW σ.next recs/\σ5.p.wr<=σ.p.wr+300000+A.nf:=by
 have hl0:σ.lines=[]:=h.lZ;have hread:=Vg h recs hmid st nb hst hfi (by rw[hfi,hft];exact Nat.le_refl _) hby hlen (by omega) Xv (by show 0+_<=_;omega) (by omega);rw[hl0]at hread;have aqH:dR recs=nb:=by rw[<-vZ recs hmid];exact hlen
 obtain⟨l,hl⟩:∃x,dG st recs=x:=⟨_,rfl⟩
 rw[hl]at hread htx hdr hok⊢;have hlm:∀x∈l,x.2∈recs/\1<=x.1/\x.1<=st+nb:=fun x hx=>by
  obtain⟨h1,h2,h3⟩:=Me recs st x (by rw[hl];exact hx);have:96<=x.2.size:=by unfold Rc.size;omega
  exact⟨h1,by omega,by omega⟩
 have hll:l.length=recs.length:=by rw[<-hl];exact MB recs st
 obtain⟨nx,Ht⟩:∃x,lW σ.next recs=x:=⟨_,rfl⟩
 have aki:nx<=1099511627776:=by rw[<-Ht];exact Eb _ recs _ (fun r hr=>by have:=hnr r hr;omega) (by omega)
 rw[Ht]at hread⊢;have jD:=hid hread;have HC:=hid hc;have Zv:=hid h.bel.size;have lN:=hid hpg;have HV:=hid hV;have HVN:=hid Vt;have HST:=hid hst;have xP:=hid hfi;have iQ:=hid hft;have HLM:=hid hlm;have nS:=hid hll;have HRN:=hid hrn;have X8:=hid hrec;have UD:=hid htx;have HDR:=hid hdr;have KQ:=hid hok;have nK:=hid hwr;have LZ:=hid hma;have sH:=hid aki;have wo:=hid hre;have HUD:=hid hud;have tK:=hid hnb;have acC:=hid Xv;clear h hV Vt hmid hst hfi hft hby hlen hnr hrn hrec htx hdr hok hwr hma hnx hre hud hread aqH hl hlm hll Ht aki hc hpg hl0 hnb Xv;go_enter Tryz.func84,Tryz.ntmps84;go_wp2_with fail;refine jC 0 rfl ?_;go_wp2_with fail;refine jD.out.mono ?_;rintro er w1 ⟨rfl,vl1,zL,K1,S2,hs1,hf1,hl1⟩;obtain⟨n,hn⟩:∃x,zL.length=x:=⟨_,rfl⟩
 obtain⟨al,cl,hvl⟩:=bF hs1.ln.row;rw[hn]at hvl;subst hvl;have X9:l=zL.map fun e=>(e.aN,e.r):=hs1.lZ;have hnn:n<=10000:=by
  have h1:=congrArg List.length X9;rw[List.length_map,hn,nS.out]at h1;have:=HRN.out;omega
 have hem:∀e∈zL,e.r∈recs/\1<=e.aN/\e.aN<=st+nb:=fun e he=>HLM.out (e.aN,e.r) (by rw[X9];exact List.mem_map_of_mem he);have gY:=hid hs1;have Df:=hid hf1;have SA:=hid X9;have KT:=hid hem;have HN:=hid hn;have kC:=hid hnn;have c4:=hs1.bC.cell 4 _ rfl;have bU:=hs1.bC.lt;clear hs1 hf1 hl1 X9 hem hn jD;go_wp2_with fail;go_loopw [8,10,24] (fun z8 z10 i wr=>∃k:Nat,k<=n/\i=.int .i64 (k:Nat)/\z8=.bool false/\Below w1.heap.size w1 wr) (fun _ _ i _=>n-(intOf i).toNat)
 case atStart=>exact⟨0,Nat.zero_le _,rfl,rfl,Below.refl _ _⟩
 case round=>
  obtain⟨k,hk,rfl,rfl,hbl⟩:=hrel;have dP:=hid hbl;have qY:=hid (gY.out.below hbl);clear hbl;by_cases hkn:k<n
  ·obtain⟨e,he⟩:∃e,zL[k]? = some e:=⟨_,List.getElem?_eq_getElem (by rw[HN.out];exact hkn)⟩
   have hrow:=qY.out.ln.row;obtain⟨g,Qi,e1,_,_⟩:=dV hrow (by have:=HN.out;omega);injection e1 with e3 e4 e5;subst e3 e5;rw[HN.out]at hrow;have hkd:=(X8.out e.r (KT.out e (List.mem_of_getElem? he)).1).1;have htb:=qY.out.ln.tb e (List.mem_of_getElem? he);obtain⟨aN,r,vb,va⟩:=e;obtain⟨ab,cb,hvb⟩:=Reads.shape htb.1.1;obtain⟨aa,ca,hva⟩:=Reads.shape htb.2.1;simp only at hvb hva hkd;subst hvb hva;have hcl:∀j u,(eG ⟨aN,r,.slice ab r.before.length cb,.slice aa r.after.length ca⟩)[j]? = some u->wr.cell? ⟨g,k*12+j,none⟩=some u:=fun j u hu=>by
    have h1:=dh hrow (k*12+j) u (oK zL k _ he j u hu);rw[Addr.add_lit,Nat.zero_add]at h1;exact h1
   have z0:=hcl 0 _ rfl;rw[Nat.add_zero]at z0;have z1:=hcl 1 _ rfl;have z2:=hcl 2 _ rfl;have z3:=hcl 3 _ rfl;have z4:=hcl 4 _ rfl;have z5:=hcl 5 _ rfl;have z6:=hcl 6 _ rfl;have z7:=hcl 7 _ rfl;have z8:=hcl 8 _ rfl;have z9:=hcl 9 _ rfl;have z10:=hcl 10 _ rfl;have z11:=hcl 11 _ rfl;have b1:((r.kind:Int)==7)=false:=by simpa using (by omega:¬(r.kind:Int)=7)
   have b2:decide ((r.kind:Int)=7)=false:=by simpa using (by omega:¬(r.kind:Int)=7)
   clear hcl hrow htb he e4 hkd;go_wp2_with fail;go_roundw
   case rel=>exact⟨k+1,by omega,by go_num,rfl,dP.out.trans (((Below.refl wr.heap.size wr).alloc (Nat.le_refl _) _).mono dP.out.size)⟩
   case measure=>simp[intOf];omega
  obtain rfl:n=k:=by omega
  clear c4 bU;have auW:=qY;have c4:=qY.out.bC.cell 4 _ rfl;have bU:=qY.out.bC.lt;obtain⟨ca,hca⟩:∃x,(bV l).cm=x:=⟨_,rfl⟩
  have hcab:ca<=10000:=by
   have h1:=acA l;have h2:=nS.out;have h3:=HRN.out;omega
  have haz:=Uj wr zL n W0.heap.size (.slice al n cl) HN.out (by omega) (by have:=qY.out.ln.row;rw[HN.out]at this;exact this) (fun e he=>by
   have h1:=X8.out e.r (KT.out e he).1;have h2:=qY.out.ln.tb e he;exact⟨h1.1,h1.2.1,(Reads.shape h2.1.1).imp fun a ⟨k,hk⟩=>⟨_,k,hk⟩,(Reads.shape h2.2.1).imp fun a ⟨k,hk⟩=>⟨_,k,hk⟩⟩) l SA.out.symm UD.out HDR.out
  rw[hca]at haz;have cO:=hid hca;have HAZ:=hid haz;clear hca haz;go_wp2_with fail;refine HAZ.out.mono ?_;rintro er w2 ⟨v2,v3,T,D,rfl,hpT,hsT,hpD,hsD,hr2,hr3,hnew,hbel⟩;have HS2:=hid (qY.out.below hbel);have HF2:=hid (Df.out.trans ((aG.below (aC dP.out)).trans (aG.below (aC hbel))));obtain⟨U,hU⟩:=KQ.out T D hpT hsT hpD hsD;have HU:=hid hU;have HPT:=hid hpT;have HPD:=hid hpD;have HSD:=hid hsD;obtain⟨σ1,hσ1⟩:∃x,({ σ with lines:=[]++l,next:=nx }:St)=x:=⟨_,rfl⟩
  have SB:Hid (aP W0 w2 A c σ1 (.slice al n cl) vo zL [] K1 S2):=hid (by rw[<-hσ1];exact HS2.out);obtain⟨S3,hs3,hf3⟩:=SB.out.xq (σ':={ σ1 with commits:=ca }) 8 (by decide) (.int .i64 (ca:Nat)) rfl rfl rfl rfl rfl;obtain⟨S4,hs4,hf4⟩:=hs3.xq (σ':={ σ1 with commits:=ca+cm }) 8 (by decide) (.int .i64 ((ca:Int)+(cm:Int))) rfl rfl rfl rfl rfl;have aqI:=SB.out.pG;have rF:aj (fun k=>k=A.sb) w2 ((w2.setCell ⟨A.sb,8,none⟩ (.int .i64 (ca:Nat))).setCell ⟨A.sb,8,none⟩ (.int .i64 ((ca:Int)+(cm:Int)))):=(aF w2 A.sb 8 _).trans (aF _ A.sb 8 _);have KF:∀q,v2.ownBlock=some q\/v3.ownBlock=some q->q≠A.sb:=fun q e=>by have h1:=(hnew q e).1;have h2:=(qY.out.lt A.sb (.inl qY.out.pG)).2;omega
  have hr2':=hr2.aH rF (fun q e=>KF q (.inl e));have akn:=hr3.aH rF (fun q e=>KF q (.inr e));have Y0:=hid (hf3.trans hf4);have uF:=hid hnew;have hnf:∀q,v2.ownBlock=some q\/v3.ownBlock=some q->¬aO S4 (.slice al n cl) vo [] K1 q/\q<w2.heap.size:=fun q e=>⟨fun hs=>by
   have h1:=(hnew q e).1;have h3:aO S2 (.slice al n cl) vo [] K1 q\/w2.heap.size<=q:=(uK (vl:=.slice al n cl) (vo:=vo) (EO:=[]) (K:=K1) Y0.out).new q hs;have h2:=(hnew q e).2;rcases h3 with h3|h3
   ·have:=(qY.out.lt q h3).2;omega
   ·omega,(hnew q e).2⟩
  have Eo:=hid hnf;have hb0:σ1.aW=σ.aW/\σ1.aZ=σ.aZ/\σ1.p=σ.p/\σ1.io=σ.io/\σ1.master=σ.master/\σ1.next=nx:=by rw[<-hσ1];exact⟨rfl,rfl,rfl,rfl,rfl,rfl⟩
  have HB0:=hid hb0;obtain⟨out,hout⟩:∃x,(fE D (fun p=>dN ((V p).take 8)) l).2=x:=⟨_,rfl⟩
  have hlw:out.length<=n:=by
   have h1:=Ei D l ((fun p=>dN ((V p).take 8)),[]);have h2:=congrArg List.length SA.out;rw[List.length_map,HN.out]at h2;rw[<-hout];unfold fE;simp only[List.length_nil,Nat.zero_add]at h1;omega
  have hag:=again_at (nf:=A.nf) (V:=V) (vd:=v3) (dr:=D) HC.out hs4 (HV.out.congr (by show σ1.p=_;exact hb0.2.2.1) (by show σ1.io.D=_;rw[hb0.2.2.2.1])) HVN.out akn (fun q e=>⟨(hnf q (.inr e)).1,by have:=(hnf q (.inr e)).2;have:=rF.size;omega⟩)
   (by rw[HN.out];omega) (by have:=HU.out.dn;omega) (by have:=lN.out;omega) HU.out.db (fun e he=>by
    have h1:=X8.out e.r (KT.out e he).1;exact⟨(KT.out e he).2.1,h1.2.2.1,h1.2.2.2.1⟩) (by show σ1.p.wr+_<=_;rw[hb0.2.2.1,HN.out];have:=nK.out;omega) (by show σ1.aW+_<=_;rw[hb0.1,HN.out];have:=wo.out;omega) out (by rw[<-SA.out];exact hout)
  have HAG:=hid hag;have c8:=SB.out.bC.cell 8 _ rfl;have cfz:=SB.out.bC.free;have Sr:=SB.out.bC.lt;have XF:=hid hout;have HLW:=hid hlw;have HR2:=hid hr2';clear hpT hsT hpD hsD hr2 hr3 hnew hbel hU hs3 hf3 hs4 hf4 aqI KF hr2' akn hnf hb0 hout hlw hag rF HAZ HS2 c4 bU;go_wp2_with fail;refine HAG.out.mono ?_;rintro er w3 ⟨rfl,σ2,S5,hs5,acE,SC,hf5⟩;obtain⟨a2,c2,hv2⟩:=Reads.shape HR2.out;have hr3:=HR2.out.aH hf5.grow (fun q e=>(Eo.out q (.inl e)).1);have hn3:∀q,v2.ownBlock=some q->¬aO S5 (.slice al n cl) vo [] K1 q/\q<w3.heap.size:=fun q e=>⟨fun hs=>(hf5.new q hs).elim (Eo.out q (.inl e)).1 (fun h=>by
   have h1:=(Eo.out q (.inl e)).2;have h2:=h;rw[World.size_setCell,World.size_setCell]at h2;omega),by
   have h1:=(Eo.out q (.inl e)).2;have h2:=hf5.grow.size;rw[World.size_setCell,World.size_setCell]at h2;omega⟩
  have hws:w.heap.size<=w2.heap.size:=HF2.out.grow.size;have ako:w2.heap.size<=w3.heap.size:=by
   have h2:=hf5.grow.size;rw[World.size_setCell,World.size_setCell]at h2;exact h2
  have tN:=(HF2.out.trans (uK (vl:=.slice al n cl) (vo:=vo) (EO:=[]) (K:=K1) Y0.out)).trans hf5;rw[HN.out]at acE;have akp:(zL.map fun e=>(e.aN,e.r))=l:=SA.out.symm;rw[akp]at SC;have sK:=hid hs5;have sW:=hid acE;have aqJ:=hid SC;have HF6:=hid tN;have HR3:=hid hr3;have HN3:=hid hn3;have HWS:=hid (Nat.le_trans hws ako);have akr:=afM T (by have:=HU.out.tn;omega) v2 w3 hr3;have aks:=hid akr;have l7:=hid hv2;have c4:=hs5.bC.cell 4 _ rfl;have bU:=hs5.bC.lt;clear hv2 hr3 hn3 hws ako tN akp hs5 acE SC hf5 akr c8 cfz Sr HAG Eo HR2 Y0 HF2 Df qY dP gY;go_wp2_with fail;refine aks.out.mono ?_;rintro er w4 ⟨vT,rfl,hb4,hT4,hv4⟩;have ql:=hid (sK.out.below hb4);have acF:=HR3.out.below hb4 (Nat.le_refl _);have hUL:UnL w4 zL n (.slice al n cl) K1:=⟨by have:=Reads.aY ql.out.ln.row;rw[HN.out]at this;exact this,HN.out,fun e he=>⟨(ql.out.ln.tb e he).1,(Reads.shape (ql.out.ln.tb e he).2.1).imp fun a ⟨k,hk⟩=>⟨_,k,hk⟩,(X8.out e.r (KT.out e he).1).2.2.2.2,(ql.out.ln.sm e he).1⟩,fun k hk=>(ql.out.kin k hk).2⟩
  have akt:=aae w4 zL n (.slice al n cl) K1 hUL (by omega) T v2 acF HU.out.tb (by have:=HU.out.tn;omega) HU.out.ms l SA.out.symm U HU.out.un;have aku:=hid akt;have c4':=ql.out.bC.cell 4 _ rfl;have abu:=ql.out.bC.lt;have HB4:=hid hb4;have HT4:=hid hT4;have vO:=hid hv4;have HR4:=hid acF;clear acF hUL akt hb4 hT4 hv4 c4 bU aks;go_wp2_with fail;refine aku.out.mono ?_;rintro er w5 ⟨vU,OE,Kn,rfl,VA,hrU,hmU,hsU,hkU,hvU⟩;have zN:=sK.out.lt;have hrb:zW W0 w A c σ2 (aO S1 vl vo [] K) vo T v2 vT vU OE Kn (AL l (fun q=>(V q).drop 8) out) n 0 σ2 (.slice al n cl) zL K1 S5 T w5:=by
   have auX:=HB4.out.size;have auY:=VA.size;have hws:=HWS.out;refine⟨ql.out.below VA,sV.refl aqJ.out,(HF6.out.trans (aG.below (aC HB4.out))).trans (aG.below (aC VA)),fun hT=>?_,rfl,fun x hx=>(HU.out.tb x hx).2.1,hrU,fun q e=>?_,fun x hx=>(hsU x hx).2.1,fun q hq=>?_,by rw[HN.out];rfl,HR4.out.below VA (Nat.le_refl _),fun q e=>?_⟩
   ·obtain⟨g,c',e,ho⟩:=HT4.out hT;have h1:=vO.out g (by rw[e];rfl);refine⟨g,c',e,own_base (own_below ho VA (fun q e=>(ho.lt q e).2)) sK.out.bel.size,fun hs=>by have:=(zN g hs).2;omega,fun hk=>by have:=(hkU g hk).1;omega,by omega⟩
   ·have h1:=hvU q e;exact⟨fun hs=>by have:=(zN q hs).2;omega,fun e2=>by have:=(vO.out q e2).2;omega,h1.2,fun hk=>(hkU q hk).2.2 e⟩
   ·have h1:=hkU q hq;exact⟨⟨fun hs=>by have:=(zN q (.inl hs)).2;omega,fun hs=>by have:=(zN q (.inr (.inl hs))).2;omega,fun hs=>by have:=(zN q (.inr (.inr (.inl hs)))).2;omega⟩,by omega,h1.2.1⟩
   ·have h1:=HN3.out q e;exact⟨h1.1,fun e2=>by have:=(vO.out q e2).1;omega,by omega,fun hk=>by have:=(hkU q hk).1;omega⟩
  obtain⟨aU,cU,acG⟩:=Reads.shape hrU;obtain⟨mU,acH⟩:∃x,OE.length=x:=⟨_,rfl⟩
  have hmu:mU<=100000:=by
   have h1:=HU.out.ul;rw[<-hmU,List.length_map]at h1;omega
  rw[acH]at acG;have fK:=hid hrb;have HMU:=hid hmU;have U9:Hid (∀x∈OE,x.1.before=[]/\x.1.small):=hid (fun x hx=>⟨(hsU x hx).1,(hsU x hx).2.2⟩);have IJ:=hid acH;have FP:=hid acG;have SE:=hid hmu;clear VA hrU hmU hsU hkU hvU zN hrb acH acG c4' abu aku ql HB4 HT4 vO HR4;rw[FP.out];go_wp2_with fail;go_loopw [4,12,72] (fun z4 z12 i wq=>∃(k:Nat)(σk:St)(jv:Value)(nY:List Le)(Kk Sk:Nat->Prop)(Tk:List T3),k<=mU/\i=.int .i64 (k:Nat)/\z4=.int .i64 0/\zW W0 w A c σ2 (aO S1 vl vo [] K) vo T v2 vT vU OE Kn (AL l (fun q=>(V q).drop 8) out) n k σk jv nY Kk Sk Tk wq) (fun _ _ i _=>mU-(intOf i).toNat)
  case atStart=>exact⟨0,σ2,_,zL,K1,S5,T,Nat.zero_le _,rfl,rfl,fK.out⟩
  case round=>
   obtain⟨k,σk,jv,nY,Kk,Sk,Tk,hk,rfl,rfl,akw⟩:=hrel;have Gm:=hid akw;clear akw;by_cases hkn:k<mU
   ·obtain⟨⟨r,va⟩,hx⟩:∃x,OE[k]? = some x:=⟨_,List.getElem?_eq_getElem (by rw[IJ.out];exact hkn)⟩
    have hsu:=U9.out _ (List.mem_of_getElem? hx);have hoe:=Gm.out.oe _ (List.mem_of_getElem? hx);simp only at hsu hoe;have hur:U[k]? = some r:=by rw[<-HMU.out,List.getElem?_map,hx];rfl
    have hus:=HU.out.us r (List.mem_of_getElem? hur);obtain⟨aa,ca2,hva⟩:=Reads.shape hoe.1;subst hva;have akx:T≠[]:=fun e=>by
     obtain⟨x,hx2,_⟩:=hus.2.2.2;rw[e]at hx2;cases hx2
    obtain⟨g,cT,Vz,hrow,aky,akz,akA⟩:=Gm.out.row akx;have aqK:∃q a b st,Tk.findIdx? (fun x=>decide (x.1=r.aV))=some q/\Tk[q]? = some (a,b,st):=by
     obtain⟨x,hx2,hx3⟩:=hus.2.2.2;have h1:r.aV∈Tk.map (·.1):=by rw[Gm.out.ids,<-hx3];exact List.mem_map_of_mem hx2
     obtain⟨y,hy,hy2⟩:=List.mem_map.1 h1;have h3:(Tk.findIdx? fun x=>decide (x.1=r.aV)).isSome:=by
      rw[List.findIdx?_isSome];exact List.any_eq_true.2 ⟨y,hy,by simp[hy2]⟩
     obtain⟨j,hj⟩:=Option.isSome_iff_exists.1 h3;obtain⟨h4,_⟩:=List.findIdx?_eq_some_iff_getElem.1 hj;exact⟨j,Tk[j].1,Tk[j].2.1,Tk[j].2.2,hj,List.getElem?_eq_getElem h4⟩
    obtain⟨q,a,b,st2,hq1,hq2⟩:=aqK;have hTl:Tk.length=T.length:=by
     have:=congrArg List.length Gm.out.ids;rw[List.length_map,List.length_map]at this;exact this
    have aqL:dR (U.take k)+r.size<=dR U:=MF U k r hur;have hbr:=Gm.out.br;rw[HMU.out]at hbr;have SG:σ2.io.R.room c.n=σ.io.R.room c.n/\σ2.io.R.tail=st+nb:=by
     have h1:=sW.out.R.room c.n;have h2:=sW.out.R.tail;have h3:=HB0.out.2.2.2.1;have h4:({ ({ σ1 with commits:=ca+cm }:St)with aW:=σ1.aW+out.length }:St).io=σ.io:=h3;rw[h4]at h1 h2;exact⟨h1,h2.trans iQ.out⟩
    have akB:r.size<=σk.io.R.room c.n/\σk.io.R.tail+r.size<=1099511627775:=by
     have h1:=hbr.room c.n;have h2:=hbr.tail;have h3:=HU.out.rm;have h5:σ.io.R.room c.n=(st / 118+c.n-1)*118-(st+nb):=by unfold Rg.room;rw[HST.out,iQ.out]
     have h6:=lN.out;have h7:=acC.out;have h8:=tK.out;rw[SG.1]at h1;rw[SG.2]at h2;have h9:96<=r.size:=by unfold Rc.size;omega
     refine⟨by omega,?_⟩;have h10:(st / 118+c.n-1)*118<=st+8192*118:=by omega
     omega
    have hwk:σk.p.wr+2<=1000000000:=by
     have h1:=hbr.wr;have h2:=sW.out.wr;have h3:=nK.out;have h4:({ ({ σ1 with commits:=ca+cm }:St)with aW:=σ1.aW+out.length }:St).p.wr=σ.p.wr:=by show σ1.p.wr=_;rw[HB0.out.2.2.1]
     rw[h4]at h2;have h5:(U.take k).length<=k:=by rw[List.length_take];omega
     have h6:=SE.out;have h7:=HLW.out;have h8:=kC.out;omega
    have huk:σk.aZ<=1099511627776:=by
     have h1:=hbr.aZ;have h2:=sW.out.aZ;have h4:({ ({ σ1 with commits:=ca+cm }:St)with aW:=σ1.aW+out.length }:St).aZ=σ.aZ:=HB0.out.2.1;rw[h4]at h2;have h5:((U.take k).filter fun r=>decide (r.kind=3)).length<=k:=Nat.le_trans (List.length_filter_le _ _) (by rw[List.length_take];omega);have h6:=SE.out;have h7:=HUD.out;omega
    obtain⟨gU,oU,aqM,cU2⟩:∃gU oU,aU=some ⟨gU,oU,none⟩/\∀j u,(jY OE)[j]? = some u->wr.cell? ⟨gU,oU+j,none⟩=some u:=by
     have h1:=Gm.out.rd;rw[FP.out,IJ.out]at h1;obtain⟨_,_,gU,oU,e,_,hcd⟩:=h1.gG (by omega);exact⟨gU,oU,e,hcd⟩
    subst aqM;have hcl:∀j u,(Jt (r,.slice aa r.after.length ca2))[j]? = some u->wr.cell? ⟨gU,oU+k*11+j,none⟩=some u:=fun j u hu=>by
     rw[Nat.add_assoc];refine cU2 (k*11+j) u ?_;obtain⟨h2,h3⟩:=List.getElem?_eq_some_iff.1 hx;unfold jY;rw[uO Jt 11 (fun _=>rfl) OE k h2 j (by
      have:=(List.getElem?_eq_some_iff.1 hu).1;exact this),h3]
     exact hu
    have z0:=hcl 0 _ rfl;rw[Nat.add_zero]at z0;have z1:=hcl 1 _ rfl;have z2:=hcl 2 _ rfl;have z3:=hcl 3 _ rfl;have z4:=hcl 4 _ rfl;have z5:=hcl 5 _ rfl;have z6:=hcl 6 _ rfl;have z7:=hcl 7 _ rfl;have z8:=hcl 8 _ rfl;have z9:=hcl 9 _ rfl;have z10:=hcl 10 _ rfl;have HX:=hid hx;have AO:=hid hkn;have Ya:=hid hsu;have yR:=hid hus;have HVT:=hid Vz;have FK:=hid (And.intro aky (And.intro akz akA));have Ux:=hid (hrow.lt g (by rw[Vz];rfl)).2;have UN:=hid hq1;have Za:=hid hq2;have En:=hid hTl;have acI:=hid akB;have HWK:=hid hwk;have HUK:=hid huk;have HKM:Hid (k<=100000):=hid (by have:=SE.out;omega);clear hx hsu hoe hur hus akx Vz hrow aky akz akA hq1 hq2 hTl aqL hbr SG akB hwk huk hcl cU2 hkn;go_upto_region 21 with (fail);have hal:=(Below.refl wr.heap.size wr).alloc (Nat.le_refl _) (.cells #[.int .i64 (r.kind:Nat),.int .i64 (r.aV:Nat),.int .i64 (r.prev:Nat),.int .i64 (r.next:Nat),.int .i64 (r.page:Nat),.int .i64 (r.off:Nat),.slice none 0 0,.slice aa r.after.length ca2,.slice none 0 0,.slice none 0 0,.int .i64 (r.count:Nat)] 85);have hbx:=Box.new wr #[.int .i64 (r.kind:Nat),.int .i64 (r.aV:Nat),.int .i64 (r.prev:Nat),.int .i64 (r.next:Nat),.int .i64 (r.page:Nat),.int .i64 (r.off:Nat),.slice none 0 0,.slice aa r.after.length ca2,.slice none 0 0,.slice none 0 0,.int .i64 (r.count:Nat)] 85 rfl;obtain⟨w6,hw6⟩:∃x,wr.alloc (.cells #[.int .i64 (r.kind:Nat),.int .i64 (r.aV:Nat),.int .i64 (r.prev:Nat),.int .i64 (r.next:Nat),.int .i64 (r.page:Nat),.int .i64 (r.off:Nat),.slice none 0 0,.slice aa r.after.length ca2,.slice none 0 0,.slice none 0 0,.int .i64 (r.count:Nat)] 85)=x:=⟨_,rfl⟩
    obtain⟨t12,Hr⟩:∃x,wr.heap.size=x:=⟨_,rfl⟩
    have BX:=hid (Gm.out.below hal);rw[hw6]at hbx BX;rw[Hr]at hbx
    try rw[hw6]
    try rw[Hr]
    have akD:g<w6.heap.size:=by rw[<-hw6];have:=Ux.out;simp;omega
    have Ja:w6.ownsRow W0.heap.size 120 3 (.slice (some ⟨g,0,none⟩) T.length cT) T.length (fB Tk):=by
     have aqN:T≠[]:=fun e=>by
      obtain⟨x,hx2,_⟩:=yR.out.2.2.2;rw[e]at hx2;cases hx2
     obtain⟨g',c',e',h1,_⟩:=BX.out.row aqN;rw[HVT.out]at h1;exact h1
    have hbk:=afJ BX.out.sv Tk T.length g cT Ja En.out (FK.out.1) (by have:=HU.out.tn;omega) r Ya.out.2 Ya.out.1 yR.out.1 aa r.after.length ca2 rfl Kn (BX.out.oe _ (List.mem_of_getElem? HX.out)) (fun q hq=>by
      have h1:=BX.out.kd q hq;have h2:=sK.out.bel.size;exact⟨by have:=Zv.out;omega,h1.2.2⟩) (fun q hq=>(BX.out.kd q hq).1) FK.out.2.1 q a b st2 UN.out Za.out (BX.out.tb _ (List.mem_of_getElem? Za.out)) yR.out.2.1 yR.out.2.2.1 acI.out.1 acI.out.2 (by rw[BX.out.el];have:=HKM.out;have:=kC.out;omega) HWK.out HUK.out
    have OI:=hid hbk;rw[HVT.out];have y0:=hbx.cell 0 _ rfl;have y1:=hbx.cell 1 _ rfl;have y2:=hbx.cell 2 _ rfl;have y3:=hbx.cell 3 _ rfl;have y4:=hbx.cell 4 _ rfl;have y5:=hbx.cell 5 _ rfl;have y6:=hbx.cell 6 _ rfl;have y7:=hbx.cell 7 _ rfl;have y8:=hbx.cell 8 _ rfl;have y9:=hbx.cell 9 _ rfl;have IW:=hbx.cell 10 _ rfl;have yl:=hbx.lt;have xK:=hid akD;clear hal hbx hw6 Hr akD Ja hbk Gm z0 z1 z2 z3 z4 z5 z6 z7 z8 z9 z10;go_wp2_with fail;refine OI.out.mono ?_;rintro er w7 ⟨rfl,vl7,S7,hs7,EY,tX,hn7⟩;have SH:=BX.out.step HC.out r (.slice aa r.after.length ca2) HX.out ⟨Ya.out.2.t,Ya.out.2.d⟩ yR.out.2.1 yR.out.2.2.1 g cT HVT.out FK.out xK.out b vl7 _ (by rw[List.length_append];rfl) S7 q a st2 (σk.io.R.tail+1) Za.out (by have:=acI.out.2;omega) hs7 (by rw[HVT.out];exact EY) tX hn7;have acJ:=hid SH;clear hs7 EY tX hn7 SH y0 y1 y2 y3 y4 y5 y6 y7 y8 y9 IW yl OI;go_wp2_with fail;rw[<-HVT.out];go_roundw
    case rel=>
     have hkn:=AO.out;have hkm:=HKM.out;exact⟨k+1,_,_,_,_,_,_,by omega,by go_num,rfl,acJ.out⟩
    case measure=>have:=AO.out;have:=HKM.out;simp[intOf];omega
   obtain rfl:mU=k:=by omega
   have hen:=Gm.out.ends IJ.out HMU.out;have qX:=hid hen;have Ro:σ2.io.R.room c.n=σ.io.R.room c.n/\σ2.io.R.tail=st+nb:=by
    have h1:=sW.out.R.room c.n;have h2:=sW.out.R.tail;have h3:=HB0.out.2.2.2.1;have h4:({ ({ σ1 with commits:=ca+cm }:St)with aW:=σ1.aW+out.length }:St).io=σ.io:=h3;rw[h4]at h1 h2;exact⟨h1,h2.trans iQ.out⟩
   have Yb:=hid Ro;clear hen Ro Gm fK;obtain⟨a2,c2,hv2⟩:=Reads.shape HR3.out;have l7:=hid hv2;have htn:T.length<=20:=HU.out.tn;clear hv2;rw[l7.out];go_wp2_with fail;go_loopw [4,14,85] (fun z4 Vr i wq=>∃(k2:Nat)(σk:St)(jv:Value)(nY:List Le)(Kk Sk:Nat->Prop),k2<=T.length/\i=.int .i64 (k2:Nat)/\z4=.int .i64 0/\yT W0 w A c σ2 (aO S1 vl vo [] K) vo T v2 (AL l (fun q=>(V q).drop 8) out) U n k2 σk jv nY Kk Sk wq) (fun _ _ i _=>T.length-(intOf i).toNat)
   case atStart=>exact⟨0,_,_,_,_,_,Nat.zero_le _,rfl,rfl,qX.out⟩
   case round=>
    obtain⟨k2,σe,vle,ELe,Ke,Se,hk2,rfl,rfl,hen⟩:=hrel;have qX:=hid hen;clear hen;by_cases hkn2:k2<T.length
    ·obtain⟨⟨a,b,sx⟩,hx⟩:∃x,T[k2]? = some x:=⟨_,List.getElem?_eq_getElem hkn2⟩
     have hrd:=qX.out.r2;rw[l7.out]at hrd;obtain⟨_,_,gb,go,yP,hbl,hcd⟩:=hrd.gG (by omega);subst yP;have q0:=hcd _ _ (qp T k2 _ hx 0 (by omega) _ rfl);have q1:=hcd _ _ (qp T k2 _ hx 1 (by omega) _ rfl);have q2:=hcd _ _ (qp T k2 _ hx 2 (by omega) _ rfl);rw[<-Nat.add_assoc]at q0 q1 q2;simp only[Nat.add_zero]at q0;have hxb:=HU.out.tb _ (List.mem_of_getElem? hx);simp only at hxb;have HX:=hid hx;have Yc:=hid hkn2;clear hx hrd hcd;by_cases hs2:sx=2
     ·subst hs2;have hle2:=aao T k2 a b HX.out;have aqO:=hid hle2;clear hle2;go_upto_region 28 with (fail);have hal:=(Below.refl wr.heap.size wr).alloc (Nat.le_refl _) (.cells #[.int .i64 (a:Nat),.int .i64 (b:Nat),.int .i64 ((2:Nat):Int)] 120);have hbx:=Box.new wr #[.int .i64 (a:Nat),.int .i64 (b:Nat),.int .i64 ((2:Nat):Int)] 120 rfl;have HE6:=hid (qX.out.below hal);have y0:=hbx.cell 0 _ rfl;have y1:=hbx.cell 1 _ rfl;have y2:=hbx.cell 2 _ rfl;have yl:=hbx.lt;generalize wr.alloc (.cells #[.int .i64 (a:Nat),.int .i64 (b:Nat),.int .i64 ((2:Nat):Int)] 120)=w6 at *;have SI:96<=σe.io.R.room c.n/\σe.io.R.tail+96<=1099511627775:=by
       have h1:=HE6.out.br.room c.n;have h2:=HE6.out.br.tail;rw[Yb.out.1,uZ,uY]at h1;rw[Yb.out.2,uZ,uY]at h2;have h3:=HU.out.rm;have h4:=aqO.out;have h5:σ.io.R.room c.n=(st / 118+c.n-1)*118-(st+nb):=by unfold Rg.room;rw[HST.out,iQ.out]
       have h6:=lN.out;have h7:=acC.out;have h8:=tK.out;have h10:(st / 118+c.n-1)*118<=st+8192*118:=by omega
       exact⟨by omega,by omega⟩
      have jB:=ES HE6.out.sv { gB a with prev:=b } ⟨by show 6<=_;omega,by show a<=_;omega,by show b<=_;omega,Nat.zero_le _,Nat.zero_le _,Nat.zero_le _,Nat.zero_le _,Nat.zero_le _,Nat.zero_le _,rfl,rfl⟩ rfl rfl SI.1 SI.2 (by
       have h1:=HE6.out.el;have h2:=SE.out;have h3:U.length=mU:=by rw[<-HMU.out,List.length_map,IJ.out]
       have h4:=kC.out;omega)
      have xM:=hid jB;clear hal hbx jB SI q0 q1 q2 qX;go_wp2_with fail;refine xM.out.mono ?_;rintro er w7 ⟨vl7,S7,rfl,hs7,tX,hn7,hv7⟩;have SH:=HE6.out.step HC.out lN.out.1 a b HX.out (by rw[List.length_append];rfl) hs7 tX hn7 hv7;have acJ:=hid SH;clear hs7 tX hn7 hv7 SH y0 y1 y2 yl xM;go_wp2_with fail;go_roundw
      case rel=>
       have hkn2:=Yc.out;exact⟨k2+1,_,_,_,_,_,by omega,by go_num,rfl,acJ.out⟩
      case measure=>have:=Yc.out;simp[intOf];omega
     ·have b1:((sx:Int) != 2)=true:=by simpa using (by omega:¬(sx:Int)=2)
      have b2:((sx:Int)==2)=false:=by simpa using (by omega:¬(sx:Int)=2)
      have b3:decide ((sx:Int)=2)=false:=by simpa using (by omega:¬(sx:Int)=2)
      have b4:decide (¬(sx:Int)=2)=true:=by simpa using (by omega:¬(sx:Int)=2)
      go_wp2_with fail;go_roundw
      case rel=>
       have hkn2:=Yc.out;exact⟨k2+1,_,_,_,_,_,by omega,by go_num,rfl,(qX.out.below ((Below.refl _ _).alloc (Nat.le_refl _) _)).skip _ HX.out hs2⟩
      case measure=>have:=Yc.out;simp[intOf];omega
    obtain rfl:T.length=k2:=by omega
    have hbr:=qX.out.br;rw[List.take_of_length_le (Nat.le_refl _)]at hbr;have Et:=hid hbr;have HSE:=hid qX.out.sv;have HFE:=hid qX.out.ft;have aqP:=hid qX.out.el;have c1:=HSE.out.bC.cell 1 _ rfl;have bU:=HSE.out.bC.lt;have hfl:=LD HSE.out;have vI:=hid hfl;clear hbr hfl qX;go_wp2_with fail;refine vI.out.mono ?_;rintro er w8 ⟨S8,rfl,hs8,DF⟩;have hdf:fG c A.nf { σe with io:={ D:=(σe.io.R.flush c.n σe.io.D).2,R:=(σe.io.R.flush c.n σe.io.D).1 } } (yS (AL l (fun q=>(V q).drop 8) out) (U++dW T)):=Et.out.sd.flush HC.out rfl rfl;have hrf:(σe.io.R.flush c.n σe.io.D).1.tail=(σe.io.R.flush c.n σe.io.D).1.fin:=by rw[KW,(rX c.n σe.io.R σe.io.D).tail]
    have hwe:σe.p.wr<=σ.p.wr+300000:=by
     have h1:=Et.out.wr;have h2:=sW.out.wr;have h4:({ ({ σ1 with commits:=ca+cm }:St)with aW:=σ1.aW+out.length }:St).p.wr=σ.p.wr:=by show σ1.p.wr=_;rw[HB0.out.2.2.1]
     rw[h4]at h2;have h5:(U++dW T).length<=100000+20:=by
      rw[List.length_append];have h6:=HU.out.ul;have h7:(dW T).length<=T.length:=by unfold dW;rw[List.length_map];exact List.length_filter_le _ _
      omega
     have h7:=HLW.out;have h8:=kC.out;omega
    have hcl:=acz HC.out hs8 hdf (by show σe.p.wr+_<=_;have:=nK.out;omega);have iR:=hid hcl;have l9:=hid hs8;have UR:=hid (HFE.out.trans (uK DF));have HRF:=hid hrf;have HWE:=hid hwe;clear hs8 DF hdf hrf hwe hcl c1 bU vI;go_wp2_with fail;refine iR.out.mono ?_;rintro er w9 ⟨rfl,σC,S9,hs9,Hu,akE,hR9,DI⟩;have hRC:=hR9 HRF.out;have htl:σC.io.R.tail=st+nb+dR U+96*(dW T).length/\σC.io.R.fin=st+nb+dR U+96*(dW T).length/\σC.io.R.start=st:=by
     have h1:=Et.out.tail;rw[Yb.out.2,uZ,uY]at h1;have h2:(σe.io.R.flush c.n σe.io.D).1.tail=σe.io.R.tail:=(rX c.n σe.io.R σe.io.D).tail;have h3:=HRF.out;have h4:=Et.out.start;have h5:σ2.io.R.start=st:=by
      have h6:=sW.out.R.2.2;have h7:({ ({ σ1 with commits:=ca+cm }:St)with aW:=σ1.aW+out.length }:St).io=σ.io:=HB0.out.2.2.2.1;rw[h7]at h6;exact h6.trans HST.out
     have h8:(σe.io.R.flush c.n σe.io.D).1.start=σe.io.R.start:=(rX c.n σe.io.R σe.io.D).2.2;rw[hRC];refine⟨?_,?_,?_⟩
     ·show(σe.io.R.flush c.n σe.io.D).1.tail=_;rw[h2,h1];omega
     ·show(σe.io.R.flush c.n σe.io.D).1.fin=_;rw[<-h3,h2,h1];omega
     ·show(σe.io.R.flush c.n σe.io.D).1.start=_;rw[h8,h4,h5]
    have hfb:σC.io.R.fin<=1099511627776:=by
     have h3:=HU.out.rm;have h5:σ.io.R.room c.n=(st / 118+c.n-1)*118-(st+nb):=by unfold Rg.room;rw[HST.out,iQ.out]
     have h6:=lN.out;have h7:=acC.out;have h8:=tK.out;have h10:(st / 118+c.n-1)*118<=st+8192*118:=by omega
     rw[htl.2.1];omega
    have hlin:∀e∈ELe,e.aN<=σC.io.R.fin:=fun e he=>by
     have h1:(e.aN,e.r)∈σe.lines:=by rw[HSE.out.lZ];exact List.mem_map_of_mem he
     obtain⟨ls,l1,l2,l3⟩:=Et.out.lines;rw[l1]at h1;have h2:=Et.out.tail;rw[Yb.out.2,uZ,uY]at h2;rw[htl.2.1];rcases List.mem_append.1 h1 with h1|h1
     ·rw[sW.out.lines]at h1;have h3:({ ({ σ1 with commits:=ca+cm }:St)with aW:=σ1.aW+out.length }:St).lines=l:=by show σ1.lines=l;rw[<-hσ1];rfl
      rw[h3]at h1;have:=(HLM.out _ h1).2.2;omega
     ·have:=l3 _ h1;simp only at this;omega
    have hcc:σC.commits=ca+cm/\σC.master=σ.master/\σC.next=nx/\σC.aW=σ.aW+out.length/\σC.aZ=σ.aZ+(U.filter fun r=>decide (r.kind=3)).length:=by
     have e1:({ ({ σ1 with commits:=ca+cm }:St)with aW:=σ1.aW+out.length }:St).master=σ.master:=HB0.out.2.2.2.2.1;have e2:({ ({ σ1 with commits:=ca+cm }:St)with aW:=σ1.aW+out.length }:St).next=nx:=HB0.out.2.2.2.2.2;have e3:({ ({ σ1 with commits:=ca+cm }:St)with aW:=σ1.aW+out.length }:St).aZ=σ.aZ:=HB0.out.2.1;refine⟨(Hu.commits.trans Et.out.commits).trans sW.out.commits,((Hu.master.trans Et.out.master).trans sW.out.master).trans e1,((Hu.next.trans Et.out.next).trans sW.out.next).trans e2,?_,?_⟩
     ·have h1:=(Hu.aW.trans Et.out.aW).trans sW.out.aW;rw[h1];show σ1.aW+out.length=_;rw[HB0.out.1]
     ·have h1:=Hu.aZ.trans Et.out.aZ;rw[h1,sW.out.aZ,e3,List.filter_append,List.length_append,Sz];rfl
    have hell:ELe.length<=1000000:=by
     have h1:=aqP.out;have h2:=kC.out;have h3:=SE.out;have h4:U.length=mU:=by rw[<-HMU.out,List.length_map,IJ.out]
     omega
    have hmk:=Vy hs9 σC.io.R.fin hlin hell (by rw[htl.2.1,htl.2.2];omega) (Nat.le_refl _) hfb (by rw[hcc.2.1];exact LZ.out) (by rw[hcc.2.2.1];exact sH.out) (by rw[hcc.1];omega);have AB:=hid hmk;have pW:=hid hs9;have Aj:=hid (UR.out.trans (uK DI));have acK:=hid htl;have wO:=hid hcc;have aqQ:=hid akE;have HWC:Hid (σC.p.wr<=σ.p.wr+300000+A.nf):=hid (by have h1:=Hu.wr;have h2:=HWE.out;have h3:σC.p.wr<=σe.p.wr+A.nf:=h1;omega);have c1:=hs9.bC.cell 1 _ rfl;have bU:=hs9.bC.lt;clear hs9 Hu akE hR9 DI hRC htl hfb hlin hcc hell hmk iR;go_wp2_with fail;refine pW.out.Zy.mono ?_;rintro er w10 ⟨rfl,hy⟩;obtain rfl:w9=w10:=hy.symm;go_wp2_with fail;refine AB.out.mono ?_;rintro er w11 ⟨Vx,rfl,hs11,zV⟩;have DU:=hid hs11;have X0:=hid (Aj.out.trans zV);clear hs11 zV hy c1 bU AB;go_wp2_with fail;go_step3;go_wp2_with fail
    try simp only[Exit.jump]
    go_ret;refine⟨rfl,T,D,U,σC,Ke,Vx,HPT.out,HPD.out,HSD.out,HU.out.un,DU.out,X0.out,?_,?_,wO.out.2.2.2.2,?_,?_,?_,wO.out.2.1,wO.out.2.2.1,HWC.out⟩
    ·have h1:=aqQ.out.mark HC.out σC.io.R.fin;rw[acB]at h1;rw[XF.out];exact h1
    ·rw[wO.out.1,cO.out];omega
    ·rw[wO.out.2.2.2.1,XF.out]
    ·rw[acK.out.2.1,iQ.out]
    ·rw[acK.out.1,acK.out.2.1]
end
end
end Go.Proofs.YtpajagkhmodbnaaGreat

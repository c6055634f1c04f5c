/- Pr: texts of the store seat laid together by program: Redo. Conditions: each theorem names its own. -/
import Derived.Test.YtpajagkhmodbnaaGreatPr25
import Derived.Maps.OwnOps
import Derived.Maps.OwnSet
import Derived.Maps.Views
import Derived.BigQuiet
namespace Go.Proofs.YtpajagkhmodbnaaGreat
set_option maxRecDepth 100000
set_option maxHeartbeats 12800000
open Lib(hid)
set_option linter.unusedSimpArgs false
set_option linter.unusedVariables false
section
open Go.RowKit Go.Maps
theorem Kz:Keyed Tryz.prog 3:=int_keyed Tryz.underlying3
theorem ajD(w:World):(zeroValue 3).run Tryz.prog w=.ok (.int .i64 0) w:=by kernel_rfl
abbrev mK(p:Nat):Lit:=.int .i64 (p:Int)
abbrev mD(p:Int):DataW Unit:=.lit (.int .i64 p)
def vN(p:Nat):Value:=.int .i64 (p:Nat)
theorem ajE{a b:Int}(h:mD a=mD b):a=b:=by injection h with h;injection h
def wI(dr:List D2)(x:Nat×Rc):Bool:=decide ((x.2.kind=2\/x.2.kind=3)/\∃k,Gj dr x.2.page=some k/\(dr.getD k (0,0)).2<=x.1)
def fC(dr:List D2)(s:(Nat->Nat)×List Nat)(x:Nat×Rc):(Nat->Nat)×List Nat:=
 if wI dr x=true/\s.1 x.2.page<x.1 then(fun q=>if q=x.2.page then x.1 else s.1 q,s.2++[x.1])else s
def fE(dr:List D2)(pl:Nat->Nat)(l:List (Nat×Rc)):(Nat->Nat)×List Nat:=l.foldl (fC dr) (pl,[])
def Fh(D:DataW Unit)(cur pl:Nat->Nat):Prop:=IsMap D/\∀p:Nat,(Maps.has D (mK p)=true->D.atKey (mK p) (mD 0)=mD (cur p))/\(Maps.has D (mK p)=false->cur p=pl p)
theorem ZT(pl:Nat->Nat):Fh (.map []) pl pl:=⟨isMap_empty,fun p=>⟨fun h=>(by cases h),fun _=>rfl⟩⟩
theorem Fh.put{D:DataW Unit}{cur pl:Nat->Nat}(h:Fh D cur pl)(p n:Nat):Fh (D.put (mK p) (mD n)) (fun q=>if q=p then n else cur q) pl:=by
 refine⟨h.1.put _ _,fun q=>?_⟩;by_cases e:q=p
 ·subst e;refine⟨fun _=>?_,fun h2=>?_⟩
  ·rw[atKey_put_same h.1 (show Go.WideAt.IsKeyLit (mK q)from True.intro)];show _=mD ((if q=q then n else cur q:Nat):Int);rw[if_pos rfl]
  ·rw[has_put_same h.1 (show Go.WideAt.IsKeyLit (mK q)from True.intro)]at h2;cases h2
 ·have hne:mK q≠mK p:=fun e2=>by injection e2 with _ e3;exact e (by omega)
  rw[has_put_other hne,atKey_put_other hne];show(_->_=mD ((if q=p then n else cur q:Nat):Int))/\(_->(if q=p then n else cur q)=_)
  rw[if_neg e];exact h.2 q
theorem zJ{w w':World}{mb:Nat}(h:w.grownBy w' (some mb)):aj (fun k=>k=mb) w w':=
 ⟨h.os,h.tape,h.output,h.size,fun k hk hx=>h.block k hk (fun e=>hx (by injection e))⟩
theorem yO{X:Nat->Prop}{w w':World}{mb n:Nat}{D:DataW Unit}{R:Value->Option (DataW Unit×List MemPlace)}(h:w.ownsMap Tryz.prog 3 R mb n D)(hg:aj X w w')(hX:¬X mb):w'.ownsMap Tryz.prog 3 R mb n D:=by
 have hlt:=h.lt;obtain⟨es,clock,hb,F,hs,hD⟩:=h;exact⟨es,clock,(hg.block mb hlt hX).trans hb,F,hs,hD⟩
theorem intRow:SliceOf Tryz.prog 47 3 (.int .i64 0) 1 8:=⟨Tryz.underlying47,by kernel_rfl,rfl,by decide⟩
structure Ho(fn:Nat)(cb:Array Value)(pg:Nat)(pl:Nat->Nat)(B1:Nat)(I:Nat->(Nat->Prop)->World->Prop)(vl:Value)(EL:List Le)(G0:Nat)(vd:Value)(dr:List D2):Prop where
 eg:∀args w,(callFunc fn args).run Tryz.prog w=.ok (.enter fn args) w
 ans:∀u S w p,I (u+1) S w->p<pg->Calls Tryz.prog fn (#[.int .i64 (p:Nat)]++cb) w fun e w'=>∃S',e=.returned (.int .i64 (pl p:Nat))/\I u S' w'/\aG S S' w w'
 dec:∀u S w,I (u+1) S w->I u S w
 grow:∀u S X w w',I u S w->aj X w w'->dA S X->(∀k,X k->B1<=k)->I u S w'
 lt:∀u S w q,I u S w->S q->q<w.heap.size
 row:∀u S w,I u S w->w.ownsRow G0 87 12 vl EL.length (fA EL)
 dr:∀u S w,I u S w->Reads 2 w vd dr.length (iE dr)
structure KA(I:(Nat->Prop)->World->Prop)(B1:Nat)(S0:Nat->Prop)(w0:World)(pl cur:Nat->Nat)(out:List Nat)(mb nm:Nat)(D:DataW Unit)(vo:Value)(S:Nat->Prop)(w:World):Prop where
 i:I S w
 m:w.ownsMap Tryz.prog 3 (plainElem Tryz.prog 3) mb nm D
 s:Fh D cur pl
 o:w.ownsRow B1 3 1 vo out.length (out.map vN)
 nm:¬S mb/\B1<=mb
 no:∀q,vo.ownBlock=some q->¬S q/\q≠mb
 f:aG S0 S w0 w
 b:B1=w0.heap.size
structure wU(I:(Nat->Prop)->World->Prop)(B1:Nat)(S0:Nat->Prop)(w0:World)(pl cur:Nat->Nat)(out:List Nat)(mb nm:Nat)(D:DataW Unit)(vo:Value)(g:Nat)(L:List Value)(S:Nat->Prop)(w:World):Prop extends KA I B1 S0 w0 pl cur out mb nm D vo S w where
 bx:Box w g L
 nx:¬S g/\g≠mb/\∀q,vo.ownBlock=some q->q≠g
section
variable{fn:Nat}{cb:Array Value}{pg:Nat}{pl:Nat->Nat}{B1:Nat}{I:Nat->(Nat->Prop)->World->Prop}{I1 I2:(Nat->Prop)->World->Prop}{u:Nat}{vl vd:Value}{EL:List Le}{G0:Nat}{dr:List D2}
variable{S0 S S':Nat->Prop}{w0 w w':World}{cur:Nat->Nat}{out out':List Nat}{mb nm nm':Nat}{D D':DataW Unit}{vo gV:Value}{g:Nat}{L:List Value}
theorem KA.below(P:Ho fn cb pg pl B1 I vl EL G0 vd dr)(h:KA (I u) B1 S0 w0 pl cur out mb nm D vo S w)(hb:Below w.heap.size w w'):KA (I u) B1 S0 w0 pl cur out mb nm D vo S w':=
 have hg:aj (fun _=>False) w w':=aC hb
 ⟨P.grow u S _ w w' h.i hg (fun _ _ h=>h) (fun _ h=>h.elim),yO h.m hg (fun h=>h),h.s,aI h.o hg (fun _ _ h=>h),h.nm,h.no,h.f.trans (aG.below hg),h.b⟩
theorem wU.below(P:Ho fn cb pg pl B1 I vl EL G0 vd dr)(h:wU (I u) B1 S0 w0 pl cur out mb nm D vo g L S w)(hb:Below w.heap.size w w'):wU (I u) B1 S0 w0 pl cur out mb nm D vo g L S w':=
 ⟨h.toKA.below P hb,h.bx.below hb (Nat.le_refl _),h.nx⟩
theorem wU.dec(P:Ho fn cb pg pl B1 I vl EL G0 vd dr)(h:wU (I (u+1)) B1 S0 w0 pl cur out mb nm D vo g L S w):wU (I u) B1 S0 w0 pl cur out mb nm D vo g L S w:=
 ⟨⟨P.dec u S w h.i,h.m,h.s,h.o,h.nm,h.no,h.f,h.b⟩,h.bx,h.nx⟩
theorem wU.call(h:wU I1 B1 S0 w0 pl cur out mb nm D vo g L S w)(hi:I2 S' w')(hf:aG S S' w w'):wU I2 B1 S0 w0 pl cur out mb nm D vo g L S' w':=by
 have hn:∀q,q<w.heap.size->¬S q->¬S' q:=fun q h1 h2 h3=>(hf.new q h3).elim h2 (fun h4=>by omega);exact⟨⟨hi,yO h.m hf.grow h.nm.1,h.s,aI h.o hf.grow (fun q e=>(h.no q e).1),⟨hn _ h.m.lt h.nm.1,h.nm.2⟩,fun q e=>⟨hn q (h.o.lt q e).2 (h.no q e).1,(h.no q e).2⟩,h.f.trans hf,h.b⟩,h.bx.aH hf.grow h.nx.1,hn _ h.bx.lt h.nx.1,h.nx.2⟩
theorem wU.XE(P:Ho fn cb pg pl B1 I vl EL G0 vd dr)(h:wU (I u) B1 S0 w0 pl cur out mb nm D vo g L S w)(hm:w'.ownsMap Tryz.prog 3 (plainElem Tryz.prog 3) mb nm' D'){cur':Nat->Nat}(hs:Fh D' cur' pl)(hg:aj (fun q=>q=mb) w w'):wU (I u) B1 S0 w0 pl cur' out mb nm' D' vo g L S w':=
 ⟨⟨P.grow u S _ w w' h.i hg (fun q h1 h2=>h.nm.1 (h2▸h1)) (fun q e=>e▸h.nm.2),hm,hs,aI h.o hg (fun q e=>(h.no q e).2),h.nm,h.no,h.f.fin hg (fun q e=>.inr (by rw[e,<-h.b];exact h.nm.2)) (fun q hq=>.inl hq),h.b⟩,h.bx.aH hg h.nx.2.1,h.nx⟩
theorem wU.KC(P:Ho fn cb pg pl B1 I vl EL G0 vd dr)(h:wU (I u) B1 S0 w0 pl cur out mb nm D vo g L S w)(ho:w'.ownsRow B1 3 1 gV out'.length (out'.map vN))(hg:aj (fun q=>vo.ownBlock=some q) w w')(hn:∀q,gV.ownBlock=some q->vo.ownBlock=some q\/w.heap.size<=q):wU (I u) B1 S0 w0 pl cur out' mb nm D gV g L S w':=by
 refine⟨⟨P.grow u S _ w w' h.i hg (fun q h1 h2=>(h.no q h2).1 h1) (fun q e=>(h.o.lt q e).1),yO h.m hg (fun e=>(h.no _ e).2 rfl),h.s,ho,h.nm,fun q e=>?_,h.f.fin hg (fun q e=>.inr (by rw[<-h.b];exact(h.o.lt q e).1)) (fun q hq=>.inl hq),h.b⟩,h.bx.aH hg (fun e=>h.nx.2.2 _ e rfl),h.nx.1,h.nx.2.1,fun q e=>?_⟩
 ·rcases hn q e with h1|h1
  ·exact h.no q h1
  ·exact⟨fun h2=>by have:=P.lt u S w q h.i h2;omega,fun e=>by have:=h.m.lt;omega⟩
 ·rcases hn q e with h1|h1
  ·exact h.nx.2.2 q h1
  ·intro e;have:=h.bx.lt;omega
end
theorem Uk(k:Nat)(w:World)(c1 c2 c3 c4 c5 c6 c7 c8 c9 c10:Value):
  Calls Tryz.prog 139 #[.agg #[.int .i64 (k:Nat),c1,c2,c3,c4,c5,c6,c7,c8,c9,c10]] w fun e w'=>e=.returned (.bool (decide (k=2) || decide (k=3)))/\∃q os',w'=Go.Sort.grow (w.drewN q) os':=by
 by_cases h2:k=2
 ·subst h2;go_enter Tryz.func139,Tryz.ntmps139;go_wp2_with fail;go_ret;exact⟨rfl,0,_,by rw[Go.Sort.alloc_eq_grow];rfl⟩
 ·by_cases h3:k=3
  ·subst h3;go_enter Tryz.func139,Tryz.ntmps139;go_wp2_with fail;go_ret;exact⟨rfl,0,_,by rw[Go.Sort.alloc_eq_grow];rfl⟩
  ·have b2:((k:Int)==2)=false:=by simpa using (by omega:¬(k:Int)=2)
   have b2':decide ((k:Int)=2)=false:=by simpa using (by omega:¬(k:Int)=2)
   have b3:((k:Int)==3)=false:=by simpa using (by omega:¬(k:Int)=3)
   have b3':decide ((k:Int)=3)=false:=by simpa using (by omega:¬(k:Int)=3)
   have HB:Hid ((decide (k=2) || decide (k=3))=false):=hid (by simp[h2,h3]);clear h2 h3;go_enter Tryz.func139,Tryz.ntmps139;go_wp2_with fail;go_ret;exact⟨by rw[HB.out];rfl,0,_,by rw[Go.Sort.alloc_eq_grow];rfl⟩
theorem below_grown(w:World)(n:Nat)(os:Array Obj):Below w.heap.size w (Go.Sort.grow (w.drewN n) os):=
 ⟨rfl,rfl,rfl,by rw[Go.Sort.size_grow];exact Nat.le_add_right _ _,fun k hk=>Go.Sort.heap_grow_old _ _ hk⟩
theorem ajF{P:Program}(w:World)(t:TypeId)(fn:Nat)(caps:Array Value) {x y z} (h:P.underlying t=some (.func x y z)):(binOp .neq t (.func (.func fn) #[] caps) .nilFunc).run P w=.ok (.bool true) w:=by
 have key:∀d:Nat,(Op.equalIn (d+1) t (.func (.func fn) #[] caps) .nilFunc).run P w=.ok false w:=by
  intro d;simp[Op.equalIn,run_underlying h,Result.andThen]
 have h2:(Op.equal t (.func (.func fn) #[] caps) .nilFunc).run P w=.ok false w:=key 9999;simp[binOp,h2,Result.andThen]
theorem ZU(ao:Option Addr)(n cap:Nat)(w:World)(h:n<=cap):Calls Tryz.prog 171 #[.slice ao n cap] w fun e w'=>e=.returned (.slice ao n n)/\w=w':=by
 have hb:decide (n<=cap)=true:=by simpa using h
 go_enter Tryz.func171,Tryz.ntmps171;go_wp2_with fail;go_ret;exact⟨rfl,rfl⟩
theorem BP{w:World}{K n c:Nat}{a:Option Addr}{xs:List Value}:Reads K w (.slice a n c) n xs->Reads K w (.slice a n n) n xs:=fun⟨a',c',h1,h2,h3,h4⟩=>by
 injection h1 with e1 e2 e3;subst e1;exact⟨_,n,rfl,h2,Nat.le_refl _,h4⟩
theorem BQ(a:Option Addr)(n c q:Nat)(e:(Value.slice a n n).ownBlock=some q):(Value.slice a n c).ownBlock=some q:=by
 rcases a with _|a
 ·cases e
 ·simpa[Value.ownBlock]using e
theorem ach {fn:Nat} {cb:Array Value} {pg:Nat} {pl:Nat->Nat} {B1:Nat} {I:Nat->(Nat->Prop)->World->Prop} {vl vd:Value} {EL:List Le} {G0:Nat} {dr:List D2} (P:Ho fn cb pg pl B1 I vl EL G0 vd dr)
  (n nd:Nat) (hn:EL.length=n) (hn2:n<=1000000) (hnd:dr.length=nd) (aci:nd<=1000000) (hpg:pg<=1099511627776) (hpl:∀p,p<pg->pl p<=1099511627776) (hdl:∀x∈dr,x.2<=1099511627776)
  (hr:∀e∈EL,e.aN<=1099511627776/\((e.r.kind=2\/e.r.kind=3)->e.r.page<pg)/\(∃a n c,e.vb=.slice a n c)/\(∃a n c,e.va=.slice a n c))
  (l:List (Nat×Rc)) (hll:EL.map (fun e=>(e.aN,e.r))=l) (S:Nat->Prop) (w:World) (hB:B1=w.heap.size) (hI:I n S w):
  Calls Tryz.prog 150 #[vl,vd,.func (.func fn) #[] cb] w fun e w'=>∃v S',e=.returned v/\I 0 S' w'/\aG S S' w w'/\Reads 1 w' v (fE dr pl l).2.length ((fE dr pl l).2.map vN)/\(∀q,v.ownBlock=some q->¬S' q/\w.heap.size<=q/\q<w'.heap.size):=by
 have hpos:(fE dr pl l).2.length<=l.length:=by
  have hg:∀(l:List (Nat×Rc))(s:(Nat->Nat)×List Nat),(l.foldl (fC dr) s).2.length<=s.2.length+l.length:=by
   intro l
   induction l with
   | nil=>intro s;simp
   | cons x r ih=>
    intro s;rw[List.foldl_cons];refine Nat.le_trans (ih _) ?_;unfold fC;split<;>simp<;>omega
  have:=hg l (pl,[]);unfold fE;simpa using this
 have hvl:∃al cl,vl=.slice al n cl:=by
  obtain⟨al,cl,h⟩:=bF (P.row n S w hI);exact⟨al,cl,by rw[<-hn];exact h⟩
 have hvd:∃ad cd,vd=.slice ad nd cd:=by
  obtain⟨ad,cd,h,_⟩:=P.dr n S w hI;exact⟨ad,cd,by rw[<-hnd];exact h⟩
 obtain⟨al,cl,rfl⟩:=hvl;obtain⟨ad,cd,rfl⟩:=hvd;have HP:Hid _:=P;have HI:=hid hI;have HR:=hid hr;have nS:=hid hll;have HN:=hid hn;have AA:=hid hnd;have KR:=hid hpl;have ZV:=hid hdl;have rH:=hid hB;have HZ0:Hid (∀u S w,I u S w->I 0 S w):=hid (fun u=>by
  induction u with
  | zero=>intro S w h;exact h
  | succ u ih=>intro S w h;exact ih S w (P.dec u S w h))
 have hm:Tryz.prog.follows .mixedOrders=true:=by kernel_rfl
 clear P hI hr hll hn hnd hpl hdl;by_cases aql:nd=0
 ·subst aql;have hdn:dr=[]:=List.eq_nil_of_length_eq_zero AA.out;have hout:(fE dr pl l).2=[]:=by
   subst hdn;have hg:∀(l:List (Nat×Rc))(s:(Nat->Nat)×List Nat),l.foldl (fC []) s=s:=by
    intro l
    induction l with
    | nil=>intro s;rfl
    | cons x r ih=>
     intro s;rw[List.foldl_cons,show fC [] s x=s by unfold fC wI;simp[Gj]];exact ih s
   unfold fE;rw[hg]
  have XF:=hid hout;clear hout hdn hpos;go_enter Tryz.func150,Tryz.ntmps150;go_wp2_with fail;go_ret;refine⟨_,S,rfl,HZ0.out _ _ _ HI.out,⟨aj.refl _,fun k h=>.inl h⟩,?_,fun q e=>by cases e⟩;rw[XF.out];exact⟨none,0,rfl,rfl,Nat.le_refl _,fun h=>absurd h (Nat.lt_irrefl _)⟩
 ·have hnz : ((nd:Int)==0)=false:=by simpa using (by omega:¬(nd:Int)=0)
  have auP:decide ((nd:Int)=0)=false:=by simpa using (by omega:¬(nd:Int)=0)
  have hnp:(0:Int)<(nd:Int):=by omega
  have hrd:=HP.out.dr n S w HI.out;rw[AA.out]at hrd;obtain⟨_,_,b,o,yP,hbl,hcd⟩:=hrd.gG (by omega);subst yP;have HCD:Hid (∀w',Below w.heap.size w w'->∀j x,dr[j]? = some x->w'.cell? ⟨b,o+j*2,none⟩=some (.int .i64 (x.1:Nat))/\w'.cell? ⟨b,o+j*2+1,none⟩=some (.int .i64 (x.2:Nat))):=hid (fun w' hb j x hx=>by
   have h1:=hcd _ _ (oL dr j x hx 0 (by omega) _ rfl);have h2:=hcd _ _ (oL dr j x hx 1 (by omega) _ rfl);rw[Nat.add_zero]at h1;rw[<-Nat.add_assoc]at h2;exact⟨by rw[hb.cell (by exact hbl)];exact h1,by rw[hb.cell (by exact hbl)];exact h2⟩)
  clear hcd;obtain⟨x0,hx0⟩:∃x,dr[0]? = some x:=⟨_,List.getElem?_eq_getElem (by have:=AA.out;omega)⟩
  have c0:=(HCD.out w (Below.refl _ _) 0 x0 hx0).2;rw[Nat.zero_mul,Nat.add_zero]at c0;have HX0:=hid hx0;clear hx0;go_enter Tryz.func150,Tryz.ntmps150;go_wp2_with fail;go_loopw [7,9,26] (fun z7 z9 i wr=>∃(k f:Nat),k<=nd/\i=.int .i64 (k:Nat)/\z7=.int .i64 (f:Nat)/\(∀j x,j<k->dr[j]? = some x->f<=x.2)/\f<=x0.2/\Below w.heap.size w wr) (fun _ _ i _=>nd-(intOf i).toNat)
  case atStart=>exact⟨0,x0.2,Nat.zero_le _,rfl,rfl,fun j x h=>absurd h (Nat.not_lt_zero _),Nat.le_refl _,Below.refl _ _⟩
  case round =>
   obtain⟨k,f,hk,rfl,rfl,hmin,hf0,XG⟩:=hrel;have acj:=hid hmin;have dP:=hid XG;clear hmin XG;by_cases hkn:k<nd
   ·obtain⟨⟨x1,x2⟩,hx⟩:∃x,dr[k]? = some x:=⟨_,List.getElem?_eq_getElem (by rw[AA.out];exact hkn)⟩
    obtain⟨d1,d2'⟩:=HCD.out wr dP.out k _ hx;simp only at d1 d2';have HX:=hid hx;have hkz:(k:Int)<(nd:Int):=by omega
    have hbx:=Box.new wr #[.int .i64 (x1:Nat),.int .i64 (x2:Nat)] 123 rfl;have hc1:=hbx.cell 1 _ rfl;clear hx hbx;go_wp2_with fail;go_roundw
    case rel=>
     refine⟨k+1,min f x2,by omega,by go_num,?_,?_,by omega,?_⟩
     ·first|rfl|(congr 1;omega)|go_num
     ·intro j x hj hx;rcases Nat.lt_succ_iff_lt_or_eq.1 hj with h|h
      ·have:=acj.out j x h hx;omega
      ·subst h;have:=HX.out;rw[hx]at this;obtain rfl:=Option.some.inj this;simp only;omega
     ·exact dP.out.alloc (by have:=dP.out.size;omega) _
    case measure=>simp[intOf];omega
   ·obtain rfl:nd=k:=by omega
    have yY:Hid (∀(j:Nat)(x:D2),dr[j]? = some x->f<=x.2):=hid (fun j x hx=>acj.out j x (by have:=(List.getElem?_eq_some_iff.1 hx).1;have:=AA.out;omega) hx);have hfl:f<=1099511627776:=by have:=ZV.out x0 (List.mem_of_getElem? HX0.out);omega
    clear acj HX0;have hmm:=@run_makeMap Tryz.prog;obtain⟨mb,hmb⟩:∃m,wr.heap.size=m:=⟨_,rfl⟩
    have zB:=hid hmb;have hown0:=World.ownsMap_made (H:=Unit) wr Tryz.prog 3 (plainElem Tryz.prog 3);rw[hmb]at hown0;have hal:=(Below.refl wr.heap.size wr).alloc (Nat.le_refl _) (.map #[] 0);have HA0:Hid (KA (I n) B1 S w pl pl [] mb 0 (.map []) (.slice none 0 0) S (wr.alloc (.map #[] 0))):=hid (by
     have hb2:Below w.heap.size w (wr.alloc (.map #[] 0)):=dP.out.trans (hal.mono dP.out.size);exact⟨HP.out.grow n S _ w _ HI.out (aC hb2) (fun _ _ h=>h) (fun _ h=>h.elim),hown0,ZT pl,World.ownsRow_nil _ _ _ _,⟨fun h=>by have:=HP.out.lt n S w mb HI.out h;have:=dP.out.size;omega,by have:=dP.out.size;rw[rH.out];omega⟩,(fun q e=>by cases e),aG.below (aC hb2),rH.out⟩)
    have sS:Hid (∀k e,EL[k]? = some e->fE dr pl (l.take (k+1))=fC dr (fE dr pl (l.take k)) (e.aN,e.r)):=hid (fun k e he=>by
     have h1:l[k]? = some (e.aN,e.r):=by rw[<-nS.out,List.getElem?_map,he];rfl
     obtain⟨h2,h3⟩:=List.getElem?_eq_some_iff.1 h1;rw[List.take_succ_eq_append_getElem h2];unfold fE;rw[List.foldl_append,h3];rfl)
    have hll:l.length=n:=by rw[<-nS.out,List.length_map];exact HN.out
    have hcur:∀k,k<=n->(fE dr pl (l.take k)).2.length<=k/\∀p,p<pg->(fE dr pl (l.take k)).1 p<=1099511627776:=by
     intro k
     induction k with
     | zero=>intro _;exact⟨Nat.le_refl _,fun p hp=>KR.out p hp⟩
     | succ k ih=>
      intro hk;obtain⟨i1,i2⟩:=ih (by omega);obtain⟨e,he⟩:∃e,EL[k]? = some e:=⟨_,List.getElem?_eq_getElem (by rw[HN.out];omega)⟩
      rw[sS.out k e he];have hel:=(HR.out e (List.mem_of_getElem? he)).1;unfold fC;split
      ·refine⟨by rw[List.length_append];simp;omega,fun p hp=>?_⟩;show(if p=e.r.page then e.aN else _)<=_;split
       ·exact hel
       ·exact i2 p hp
      ·exact⟨by omega,i2⟩
    have aqm:Hid _:=hcur;have hlt:l.take n=l:=List.take_of_length_le (Nat.le_of_eq hll);have jH:=hid hlt;clear hown0 hal hmb hll hcur hlt c0 hbl;go_wp2_with fail;rw[zB.out];go_loopw [11,13,14,15,16,38] (fun z11 z13 Vr z15 z16 i wq=>∃(k nm:Nat)(D:DataW Unit)(S':Nat->Prop),k<=n/\nm<=k/\i=.int .i64 (k:Nat)/\KA (I (n-k)) B1 S w pl (fE dr pl (l.take k)).1 (fE dr pl (l.take k)).2 mb nm D z11 S' wq) (fun _ _ _ _ _ i _=>n-(intOf i).toNat)
    case atStart=>exact⟨0,0,_,S,Nat.zero_le _,Nat.le_refl _,rfl,HA0.out⟩
    case round=>
     obtain⟨k,nm,D,S1,hk,hnk,rfl,hat⟩:=hrel;have HAT:=hid hat;have HC:=aqm.out k hk;obtain⟨cur,hcur⟩:∃x,(fE dr pl (l.take k)).1=x:=⟨_,rfl⟩
     obtain⟨out,hout⟩:∃x,(fE dr pl (l.take k)).2=x:=⟨_,rfl⟩
     rw[hcur,hout]at HC HAT;obtain⟨hol,hcl⟩:=HC;have iR:=hid hcl;have HRU:Hid (fE dr pl (l.take k)=(cur,out)):=hid (by rw[<-hcur,<-hout]);clear hat hcur hout hcl;by_cases hkn:k<n
     ·obtain ⟨m,hmk⟩:∃m,n-k=m+1:=⟨n-k-1,by omega⟩
      have ajG:n-(k+1)=m:=by omega
      rw[hmk]at HAT;have AB:=hid ajG;clear hmk ajG;obtain⟨e,he⟩:∃e,EL[k]? = some e:=⟨_,List.getElem?_eq_getElem (by rw[HN.out];exact hkn)⟩
      have hrow:=HP.out.row _ S1 _ HAT.out.i;rw[HN.out]at hrow;obtain⟨g,Qi,e1,_,Lu⟩:=dV hrow (by omega);injection e1 with e3 e4 e5;subst e3;subst e5;have hst:=sS.out k e he;have hrr:=HR.out e (List.mem_of_getElem? he);obtain⟨aN,⟨kd,tn,pv,nx,pp,of,dM,LV,lQ,dirty,cn⟩,vb,va⟩:=e;have hcl:∀j u,(eG ⟨aN,⟨kd,tn,pv,nx,pp,of,dM,LV,lQ,dirty,cn⟩,vb,va⟩)[j]? = some u->wr.cell? ⟨g,k*12+j,none⟩=some u:=fun j u hu=>by
       have h1:=dh hrow (k*12+j) u (oK EL k _ he j u hu);rw[Addr.add_lit,Nat.zero_add]at h1;exact h1
      have z0:=hcl 0 _ rfl;rw[Nat.add_zero]at z0;have z1:=hcl 1 _ rfl;have z2':=hcl 2 _ rfl;have z3':=hcl 3 _ rfl;have z4:=hcl 4 _ rfl;have z5:=hcl 5 _ rfl;have ZP:=hcl 6 _ rfl;have z7':=hcl 7 _ rfl;have ZQ:=hcl 8 _ rfl;have z9:=hcl 9 _ rfl;have z10:=hcl 10 _ rfl;have ajH:=hcl 11 _ rfl;simp only at hrr;obtain⟨hlb,hpp,⟨ab,nb,cb',rfl⟩,aa,na,ca,rfl⟩:=hrr;simp only at z0 z1 z2' z3' z4 z5 ZP z7' ZQ z9 z10 ajH;rw[HRU.out]at hst;have HST:=hid hst;clear hst hcl he hrow;go_upto_region 14 with (fail);have bx1:=Box.new wr #[.int .i64 (aN:Nat),.int .i64 (kd:Nat),.int .i64 (tn:Nat),.int .i64 (pv:Nat),.int .i64 (nx:Nat),.int .i64 (pp:Nat),.int .i64 (of:Nat),.slice ab nb cb',.slice aa na ca,.slice none 0 0,.slice none 0 0,.int .i64 (cn:Nat)] 87 rfl;have hb2:=(Below.refl wr.heap.size wr).alloc (Nat.le_refl _) (.cells #[.int .i64 (aN:Nat),.int .i64 (kd:Nat),.int .i64 (tn:Nat),.int .i64 (pv:Nat),.int .i64 (nx:Nat),.int .i64 (pp:Nat),.int .i64 (of:Nat),.slice ab nb cb',.slice aa na ca,.slice none 0 0,.slice none 0 0,.int .i64 (cn:Nat)] 87);obtain⟨w1,hw1⟩:∃x,wr.alloc (.cells #[.int .i64 (aN:Nat),.int .i64 (kd:Nat),.int .i64 (tn:Nat),.int .i64 (pv:Nat),.int .i64 (nx:Nat),.int .i64 (pp:Nat),.int .i64 (of:Nat),.slice ab nb cb',.slice aa na ca,.slice none 0 0,.slice none 0 0,.int .i64 (cn:Nat)] 87)=x:=⟨_,rfl⟩
      obtain⟨g5,hg5⟩:∃x,wr.heap.size=x:=⟨_,rfl⟩
      rw[hw1]at bx1 hb2;rw[hg5]at bx1
      try rw[hw1]
      try rw[hg5]
      have HR1:Hid (wU (I (m+1)) B1 S w pl cur out mb nm D u11 g5 [.int .i64 (aN:Nat),.int .i64 (kd:Nat),.int .i64 (tn:Nat),.int .i64 (pv:Nat),.int .i64 (nx:Nat),.int .i64 (pp:Nat),.int .i64 (of:Nat),.slice ab nb cb',.slice aa na ca,.slice none 0 0,.slice none 0 0,.int .i64 (cn:Nat)] S1 w1):=hid ⟨HAT.out.below HP.out hb2,bx1,⟨fun h=>by have:=HP.out.lt _ _ _ _ HAT.out.i h;omega,by have:=HAT.out.m.lt;omega,fun q e=>by have:=(HAT.out.o.lt q e).2;omega⟩⟩;clear bx1 hb2 hw1 hg5 z0 z1 z2' z3' z4 z5 ZP z7' ZQ z9 z10 ajH HAT;have y5:=HR1.out.bx.cell 5 _ rfl;have yl:=HR1.out.bx.lt;have hat:=Vl dr nd pp AA.out (by omega) w1 _ (by have:=HP.out.dr _ S1 _ HR1.out.i;rw[AA.out]at this;exact this);have ajI:=hid hat;clear hat;go_wp2_with fail;refine ajI.out.mono ?_;rintro e w2 ⟨rfl,hbb⟩;have HR2:=hid (HR1.out.below HP.out hbb);clear hbb y5 yl ajI HR1;have y0:=HR2.out.bx.cell 0 _ rfl;have yl:=HR2.out.bx.lt;have g0:=fun n os=>Go.cell_grown (by exact yl) y0 n os;have g1:=fun n os=>Go.cell_grown (by exact yl) (HR2.out.bx.cell 1 _ rfl) n os;have g2:=fun n os=>Go.cell_grown (by exact yl) (HR2.out.bx.cell 2 _ rfl) n os;have g3:=fun n os=>Go.cell_grown (by exact yl) (HR2.out.bx.cell 3 _ rfl) n os;have g4:=fun n os=>Go.cell_grown (by exact yl) (HR2.out.bx.cell 4 _ rfl) n os;have ZW:=fun n os=>Go.cell_grown (by exact yl) (HR2.out.bx.cell 5 _ rfl) n os;have g6:=fun n os=>Go.cell_grown (by exact yl) (HR2.out.bx.cell 6 _ rfl) n os;have g7:=fun n os=>Go.cell_grown (by exact yl) (HR2.out.bx.cell 7 _ rfl) n os;have g8:=fun n os=>Go.cell_grown (by exact yl) (HR2.out.bx.cell 8 _ rfl) n os;have g9:=fun n os=>Go.cell_grown (by exact yl) (HR2.out.bx.cell 9 _ rfl) n os;have g10:=fun n os=>Go.cell_grown (by exact yl) (HR2.out.bx.cell 10 _ rfl) n os;have g11:=fun n os=>Go.cell_grown (by exact yl) (HR2.out.bx.cell 11 _ rfl) n os;obtain⟨ch,hch⟩:∃x,(decide (kd=2) || decide (kd=3))=x:=⟨_,rfl⟩
      have hcg:=fun w=>Uk kd w (.int .i64 (tn:Nat)) (.int .i64 (pv:Nat)) (.int .i64 (nx:Nat)) (.int .i64 (pp:Nat)) (.int .i64 (of:Nat)) (.slice ab nb cb') (.slice aa na ca) (.slice none 0 0) (.slice none 0 0) (.int .i64 (cn:Nat));rw[hch]at hcg;have ZX:Hid _:=hcg;have HCH:=hid hch;clear hcg hch;obtain⟨x,hx⟩:∃x,jh (dr.findIdx? fun x=>decide (x.1=pp))=x:=⟨_,rfl⟩
      rw[hx];have HX:=hid hx;clear hx;go_upto_region 15 with (fail);cases ch with
      | false=>
       have RI:Hid (wI dr (aN,⟨kd,tn,pv,nx,pp,of,dM,LV,lQ,dirty,cn⟩)=false):=hid (by
        have:=HCH.out;simp only[Bool.or_eq_false_iff,decide_eq_false_iff_not]at this;unfold wI;simp[this.1,this.2])
       refine Go.wp_region_quiet_grown (by kernel_rfl) (by kernel_rfl) ?_
       repeat (go_big_quiet_step ((go_at_call 139;exact Go.Calls.grown_of (ZX.out _))))
       refine Go.wpQuiet_nil ?_;intro _ hw';obtain⟨⟨nq,osq⟩,hw''⟩:=hw';subst hw'';have HR3:=hid (HR2.out.below HP.out (below_grown w2 nq osq));clear g0 g1 g2 g3 g4 ZW g6 g7 g8 g9 g10 g11 y0 yl HR2;go_wp2_with fail;go_roundw
       case rel=>
        refine⟨k+1,nm,D,S1,by omega,by omega,by go_num,?_⟩;have h:=HST.out;unfold fC at h;rw[RI.out,if_neg (by simp)]at h;rw[h,AB.out];exact(HR3.out.dec HP.out).toKA
       case measure=>simp[intOf];omega
      | true =>
       have hkd:kd=2\/kd=3:=by have:=HCH.out;simpa using this
       have ajJ:=hpp hkd;by_cases hfr:aN<f
       ·have b1:decide ((aN:Int)<(f:Int))=true:=by simpa using hfr
        have RI:Hid (wI dr (aN,⟨kd,tn,pv,nx,pp,of,dM,LV,lQ,dirty,cn⟩)=false):=hid (by
         unfold wI;rw[decide_eq_false_iff_not];rintro⟨_,j,hj,hd⟩;obtain⟨hj1,_⟩:=List.findIdx?_eq_some_iff_getElem.1 hj;have h1:=yY.out j dr[j] (List.getElem?_eq_getElem hj1);simp only at hj hd;rw[List.getD_eq_getElem?_getD,List.getElem?_eq_getElem hj1]at hd;simp only[Option.getD_some]at hd;omega)
        refine Go.wp_region_quiet_grown (by kernel_rfl) (by kernel_rfl) ?_
        repeat (go_big_quiet_step ((go_at_call 139;exact Go.Calls.grown_of (ZX.out _))))
        refine Go.wpQuiet_nil ?_;intro _ hw';obtain⟨⟨nq,osq⟩,hw''⟩:=hw';subst hw'';have HR3:=hid (HR2.out.below HP.out (below_grown w2 nq osq));clear g0 g1 g2 g3 g4 ZW g6 g7 g8 g9 g10 g11 y0 yl HR2;go_wp2_with fail;go_roundw
        case rel=>
         refine⟨k+1,nm,D,S1,by omega,by omega,by go_num,?_⟩;have h:=HST.out;unfold fC at h;rw[RI.out,if_neg (by simp)]at h;rw[h,AB.out];exact(HR3.out.dec HP.out).toKA
        case measure=>simp[intOf];omega
       ·have b1:decide ((aN:Int)<(f:Int))=false:=by simpa using hfr
        cases hf:Gj dr pp with
        | none=>
         have RI:Hid (wI dr (aN,⟨kd,tn,pv,nx,pp,of,dM,LV,lQ,dirty,cn⟩)=false):=hid (by unfold wI;simp[hf]);obtain rfl:x = -1:=by rw[<-HX.out];unfold Gj at hf;rw[hf];rfl
         clear hf;refine Go.wp_region_quiet_grown (by kernel_rfl) (by kernel_rfl) ?_
         repeat (go_big_quiet_step ((go_at_call 139;exact Go.Calls.grown_of (ZX.out _))))
         refine Go.wpQuiet_nil ?_;intro _ hw';obtain⟨⟨nq,osq⟩,hw''⟩:=hw';subst hw'';have HR3:=hid (HR2.out.below HP.out (below_grown w2 nq osq));clear g0 g1 g2 g3 g4 ZW g6 g7 g8 g9 g10 g11 y0 yl HR2;go_wp2_with fail;go_roundw
         case rel=>
          refine⟨k+1,nm,D,S1,by omega,by omega,by go_num,?_⟩;have h:=HST.out;unfold fC at h;rw[RI.out,if_neg (by simp)]at h;rw[h,AB.out];exact(HR3.out.dec HP.out).toKA
         case measure=>simp[intOf];omega
        | some j=>
         obtain rfl:x=(j:Int):=by rw[<-HX.out];unfold Gj at hf;rw[hf];rfl
         obtain⟨hj1,_⟩:=List.findIdx?_eq_some_iff_getElem.1 hf;have bj:decide ((j:Int)<0)=false:=by simp
         have hjz:(j:Int)<(nd:Int):=by have:=AA.out;omega
         obtain⟨⟨e1,e2⟩,hd⟩:∃x,dr[j]? = some x:=⟨_,List.getElem?_eq_getElem hj1⟩
         have hrd:=HP.out.dr _ S1 _ HR2.out.i;rw[AA.out]at hrd;obtain⟨_,_,bb,oo,yP,ajK,hcd⟩:=hrd.gG (by omega);injection yP with yP;injection yP with aqn aqo;subst aqn aqo;have hc3:=hcd _ _ (oL dr j _ hd 1 (by omega) _ rfl);rw[<-Nat.add_assoc]at hc3;have gd:=fun n os=>Go.cell_grown (by exact ajK) hc3 n os;have hdv:(dr.getD j (0,0)).2=e2:=by rw[List.getD_eq_getElem?_getD,hd];rfl
         simp only at gd;clear hcd hrd hc3 hd;by_cases hgt:aN<e2
         ·have b2:decide ((e2:Int)>(aN:Int))=true:=by simpa using hgt
          have b2':decide ((aN:Int)<(e2:Int))=true:=by simpa using hgt
          have RI:Hid (wI dr (aN,⟨kd,tn,pv,nx,pp,of,dM,LV,lQ,dirty,cn⟩)=false):=hid (by
           unfold wI;rw[decide_eq_false_iff_not];rintro⟨_,j',hj',hd'⟩;simp only at hj' hd';rw[hf]at hj';obtain rfl:=Option.some.inj hj';rw[hdv]at hd';omega)
          clear hf;refine Go.wp_region_quiet_grown (by kernel_rfl) (by kernel_rfl) ?_
          repeat (go_big_quiet_step ((go_at_call 139;exact Go.Calls.grown_of (ZX.out _))))
          refine Go.wpQuiet_nil ?_;intro _ hw';obtain⟨⟨nq,osq⟩,hw''⟩:=hw';subst hw'';have HR3:=hid (HR2.out.below HP.out (below_grown w2 nq osq));clear g0 g1 g2 g3 g4 ZW g6 g7 g8 g9 g10 g11 y0 yl HR2;go_wp2_with fail;go_roundw
          case rel=>
           refine⟨k+1,nm,D,S1,by omega,by omega,by go_num,?_⟩;have h:=HST.out;unfold fC at h;rw[RI.out,if_neg (by simp)]at h;rw[h,AB.out];exact(HR3.out.dec HP.out).toKA
          case measure=>simp[intOf];omega
         ·have b2:decide ((e2:Int)>(aN:Int))=false:=by simpa using hgt
          have b2':decide ((aN:Int)<(e2:Int))=false:=by simpa using hgt
          have ajL:Hid (wI dr (aN,⟨kd,tn,pv,nx,pp,of,dM,LV,lQ,dirty,cn⟩)=true):=hid (by
           unfold wI;rw[decide_eq_true_eq];exact⟨hkd,j,hf,by rw[hdv];show e2<=aN;omega⟩)
          clear hf hdv;refine Go.wp_region_quiet_grown (by kernel_rfl) (by kernel_rfl) ?_
          repeat (go_big_quiet_step ((go_at_call 139;exact Go.Calls.grown_of (ZX.out _))))
          refine Go.wpQuiet_nil ?_;intro _ hw';obtain⟨⟨nq,osq⟩,hw''⟩:=hw';subst hw'';have HR3:=hid (HR2.out.below HP.out (below_grown w2 nq osq));clear g0 g1 g2 g3 g4 ZW g6 g7 g8 g9 g10 g11 gd y0 yl HR2 ajK;generalize Go.Sort.grow (w2.drewN nq) osq=w3 at *;obtain⟨cp,hcp⟩:∃x,cur pp=x:=⟨_,rfl⟩
          have ajM:cp<=1099511627776:=by rw[<-hcp];exact iR.out pp ajJ
          have Cm:=hid hcp;have HKEY:Hid (keyOf Tryz.prog 3 (.int .i64 (pp:Int))=some (.int .i64 (pp:Int))):=hid (keyOf_int_mk Tryz.underlying3 (WalkArith.wf_i64 (by omega)));have XH:Hid (∀v:Nat,v<=1099511627776->plainElem (H:=Unit) Tryz.prog 3 (.int .i64 (v:Int))=some (.lit (.int .i64 (v:Int)),[])):=hid (fun v hv=>plainElem_int Tryz.underlying3 (WalkArith.wf_i64 (by omega)));clear hcp;have y5:=HR3.out.bx.cell 5 _ rfl;have yl:=HR3.out.bx.lt;cases hh:Maps.has D (.int .i64 ((pp:Nat):Int))with
          | true=>
           replace HR3:=hid (HR3.out.dec HP.out);have FD:Hid (∀c0:Int,D.atKey (.int .i64 ((pp:Nat):Int)) (.lit (.int .i64 0))=.lit (.int .i64 c0)->c0=((cp:Nat):Int)):=hid (fun c0 h=>by
            have h2:=(HR3.out.s.2 pp).1 hh;rw[Cm.out]at h2;exact ajE (h.symm.trans h2))
           go_upto_region 19 with (first|(at_lookup;refine wpList_lookup_own_ok_int _ rfl _ _ 143 rfl 3 3 .i64 Kz Tryz.underlying143 Tryz.underlying3 (ajD _) mb nm D rfl HR3.out.m _ _ rfl HKEY.out ?_;intro c0 hat hwc;obtain rfl:=FD.out c0 hat;clear hat hwc)|fail);have y0':=HR3.out.bx.cell 0 _ rfl;have x5:=HR3.out.bx.cell 5 _ rfl;have xl:=HR3.out.bx.lt;by_cases hlt:cp<aN
           ·have b3:decide ((cp:Int)<(aN:Int))=true:=by simpa using hlt
            have uF:Hid (fE dr pl (l.take (k+1))=(fun q=>if q=pp then aN else cur q,out++[aN])):=hid (by
             rw[HST.out];unfold fC;rw[if_pos ⟨ajL.out,by show cur pp<aN;rw[Cm.out];exact hlt⟩])
            go_wp2_with (first
             | (at_builtin;refine bI intRow (.tmp 94) (.tmp 97) rfl rfl rfl (HR3.out.o.alloc _) rfl (Reads.lit rfl rfl (Nat.le_refl _) rfl) (by intro u hu;simp at hu;rcases hu with rfl<;>rfl) (by omega) (by omega) (by have:=HR3.out.b;have:=HR3.out.f.grow.size;simp;omega) ?_;intro ob cq wq ho2 hg2 hn2;have HF:=hid ((HR3.out.below HP.out ((Below.refl _ _).alloc (Nat.le_refl _) (.cells #[.int .i64 (aN:Nat)] 3))).KC HP.out (out':=out++[aN]) (by rw[List.length_append,List.map_append];exact ho2) hg2 hn2);clear ho2 hg2 hn2;have v0:=HF.out.bx.cell 0 _ rfl;have v5:=HF.out.bx.cell 5 _ rfl;have vl:=HF.out.bx.lt)
             | (at_mapUpdate;refine wpList_mapUpdate_own _ rfl _ _ _ 143 rfl 3 3 Kz Tryz.underlying143 _ mb nm D rfl HF.out.m (by unfold maxLen;omega) _ _ _ rfl rfl HKEY.out _ [] (XH.out aN hlb) ?_;intro wz hown1 hgrow1;have HZ:=hid (HF.out.XE HP.out hown1 (HF.out.s.put pp aN) (zJ hgrow1));clear hown1 hgrow1)
             | fail)
            go_roundw
            case rel=>
             refine⟨k+1,nm+1,D.put (mK pp) (mD (aN:Nat)),S1,by omega,by omega,by go_num,?_⟩;rw[uF.out,AB.out];exact HZ.out.toKA
            case measure=>simp[intOf];omega
           ·have b3:decide ((cp:Int)<(aN:Int))=false:=by simpa using hlt
            have uF:Hid (fE dr pl (l.take (k+1))=(cur,out)):=hid (by
             rw[HST.out];unfold fC;rw[if_neg (fun h=>by have h2:=h.2;simp only at h2;rw[Cm.out]at h2;omega)])
            have XI:Hid ((fun q=>if q=pp then cp else cur q)=cur):=hid (by
             funext q;by_cases e:q=pp
             ·rw[if_pos e,e,Cm.out]
             ·rw[if_neg e])
            go_wp2_with (first
             | (at_mapUpdate;refine wpList_mapUpdate_own _ rfl _ _ _ 143 rfl 3 3 Kz Tryz.underlying143 _ mb nm D rfl HR3.out.m (by unfold maxLen;omega) _ _ _ rfl rfl HKEY.out _ [] (XH.out cp ajM) ?_;intro wz hown1 hgrow1;have HZ:=hid (HR3.out.XE HP.out hown1 (HR3.out.s.put pp cp) (zJ hgrow1));clear hown1 hgrow1)
             | fail)
            go_roundw
            case rel=>
             refine⟨k+1,nm+1,D.put (mK pp) (mD (cp:Nat)),S1,by omega,by omega,by go_num,?_⟩;rw[uF.out,AB.out];have h:=HZ.out.toKA;rw[XI.out]at h;exact h
            case measure=>simp[intOf];omega
          | false=>
           have ZR:Hid (pl pp=cp):=hid (by rw[<-Cm.out];exact((HR3.out.s.2 pp).2 hh).symm);have hans:=HP.out.ans m S1 w3 pp HR3.out.i ajJ;rw[ZR.out]at hans;have Ou:=hid hans;clear hans;have eg:=HP.out.eg;have auQ:=fun w=>ajF (P:=Tryz.prog) w _ fn cb Tryz.underlying26;go_wp2_with (first|(at_lookup;refine wpList_lookup_own_ok_int _ rfl _ _ 143 rfl 3 3 .i64 Kz Tryz.underlying143 Tryz.underlying3 (ajD _) mb nm D rfl HR3.out.m _ _ rfl HKEY.out ?_;intro c0 hat hwc;clear hat hwc)|fail);refine Ou.out.mono ?_;rintro e w4 ⟨S2,rfl,hi2,hf2⟩;have HR4:=hid (HR3.out.call hi2 hf2);clear hi2 hf2 y5 yl Ou HR3;go_upto_region 19 with (fail);have y0':=HR4.out.bx.cell 0 _ rfl;have x5:=HR4.out.bx.cell 5 _ rfl;have xl:=HR4.out.bx.lt;by_cases hlt:cp<aN
           ·have b3:decide ((cp:Int)<(aN:Int))=true:=by simpa using hlt
            have uF:Hid (fE dr pl (l.take (k+1))=(fun q=>if q=pp then aN else cur q,out++[aN])):=hid (by
             rw[HST.out];unfold fC;rw[if_pos ⟨ajL.out,by show cur pp<aN;rw[Cm.out];exact hlt⟩])
            go_wp2_with (first
             | (at_builtin;refine bI intRow (.tmp 94) (.tmp 97) rfl rfl rfl (HR4.out.o.alloc _) rfl (Reads.lit rfl rfl (Nat.le_refl _) rfl) (by intro u hu;simp at hu;rcases hu with rfl<;>rfl) (by omega) (by omega) (by have:=HR4.out.b;have:=HR4.out.f.grow.size;simp;omega) ?_;intro ob cq wq ho2 hg2 hn2;have HF:=hid ((HR4.out.below HP.out ((Below.refl _ _).alloc (Nat.le_refl _) (.cells #[.int .i64 (aN:Nat)] 3))).KC HP.out (out':=out++[aN]) (by rw[List.length_append,List.map_append];exact ho2) hg2 hn2);clear ho2 hg2 hn2;have v0:=HF.out.bx.cell 0 _ rfl;have v5:=HF.out.bx.cell 5 _ rfl;have vl:=HF.out.bx.lt)
             | (at_mapUpdate;refine wpList_mapUpdate_own _ rfl _ _ _ 143 rfl 3 3 Kz Tryz.underlying143 _ mb nm D rfl HF.out.m (by unfold maxLen;omega) _ _ _ rfl rfl HKEY.out _ [] (XH.out aN hlb) ?_;intro wz hown1 hgrow1;have HZ:=hid (HF.out.XE HP.out hown1 (HF.out.s.put pp aN) (zJ hgrow1));clear hown1 hgrow1)
             | fail)
            go_roundw
            case rel=>
             refine⟨k+1,nm+1,D.put (mK pp) (mD (aN:Nat)),S2,by omega,by omega,by go_num,?_⟩;rw[uF.out,AB.out];exact HZ.out.toKA
            case measure=>simp[intOf];omega
           ·have b3:decide ((cp:Int)<(aN:Int))=false:=by simpa using hlt
            have uF:Hid (fE dr pl (l.take (k+1))=(cur,out)):=hid (by
             rw[HST.out];unfold fC;rw[if_neg (fun h=>by have h2:=h.2;simp only at h2;rw[Cm.out]at h2;omega)])
            have XI:Hid ((fun q=>if q=pp then cp else cur q)=cur):=hid (by
             funext q;by_cases e:q=pp
             ·rw[if_pos e,e,Cm.out]
             ·rw[if_neg e])
            go_wp2_with (first
             | (at_mapUpdate;refine wpList_mapUpdate_own _ rfl _ _ _ 143 rfl 3 3 Kz Tryz.underlying143 _ mb nm D rfl HR4.out.m (by unfold maxLen;omega) _ _ _ rfl rfl HKEY.out _ [] (XH.out cp ajM) ?_;intro wz hown1 hgrow1;have HZ:=hid (HR4.out.XE HP.out hown1 (HR4.out.s.put pp cp) (zJ hgrow1));clear hown1 hgrow1)
             | fail)
            go_roundw
            case rel=>
             refine⟨k+1,nm+1,D.put (mK pp) (mD (cp:Nat)),S2,by omega,by omega,by go_num,?_⟩;rw[uF.out,AB.out];have h:=HZ.out.toKA;rw[XI.out]at h;exact h
            case measure=>simp[intOf];omega
     ·obtain rfl:n=k:=by omega
      have hfin:=HAT.out;have hl2:(fE dr pl l).2=out:=by have h:=HRU.out;rw[jH.out]at h;rw[h]
      have HL2:=hid hl2;clear hl2;obtain⟨a2,c2,hu2⟩:=bF hfin.o;have RG:out.length<=c2:=by obtain⟨_,_,h,_,h2,_⟩:=Reads.aY hfin.o;rw[hu2]at h;injection h with _ _ h3;omega
      subst hu2;have RH:=fun w=>ZU a2 out.length c2 w RG;have ZR:Hid _:=RH;clear RH RG hfin;go_wp2_with fail;refine(ZR.out _).mono ?_;rintro e w3 ⟨rfl,rfl⟩;go_wp2_with fail;go_ret;refine⟨.slice a2 out.length out.length,S1,rfl,HZ0.out _ _ _ HAT.out.i,HAT.out.f,?_,fun q e=>?_⟩
      ·rw[HL2.out];exact BP (Reads.aY HAT.out.o)
      ·have e2:=BQ a2 out.length c2 q e;have h1:=HAT.out.o.lt q e2;exact⟨(HAT.out.no q e2).1,by rw[<-rH.out];exact h1.1,h1.2⟩
end
end Go.Proofs.YtpajagkhmodbnaaGreat

/- Pr: texts of the store seat laid together by program: AnKit AnDel AnSort Analyze. Conditions: each theorem names its own. -/
import Derived.Test.YtpajagkhmodbnaaGreatPr20
import Derived.Test.YtpajagkhmodbnaaGreatPr11
import Derived.Test.YtpajagkhmodbnaaGreatPr19
import Derived.Test.YtpajagkhmodbnaaGreatPr23
import Derived.Test.YtpajagkhmodbnaaGreatPr12
import Derived.Deep.DeepCutAuto
namespace Go.Proofs.YtpajagkhmodbnaaGreat
set_option maxRecDepth 100000
set_option maxHeartbeats 12800000
open Lib(hid)
set_option linter.unusedSimpArgs false
set_option linter.unusedVariables false
section
open Go.RowKit
abbrev T3:=Nat×Nat×Nat
abbrev D2:=Nat×Nat
def t3(x:T3):List Value:=[.int .i64 (x.1:Nat),.int .i64 (x.2.1:Nat),.int .i64 (x.2.2:Nat)]
def d2(x:D2):List Value:=[.int .i64 (x.1:Nat),.int .i64 (x.2:Nat)]
def fB(L:List T3):List Value:=L.flatMap t3
def iE(L:List D2):List Value:=L.flatMap d2
theorem Vh(L:List T3):(fB L).length=L.length*3:=jw t3 3 (fun _=>rfl) L
theorem Vj(L:List D2):(iE L).length=L.length*2:=jw d2 2 (fun _=>rfl) L
theorem qp(L:List T3)(i:Nat)(x:T3)(h:L[i]? = some x)(j:Nat)(hj:j<3)(v:Value)(hv:(t3 x)[j]? = some v):(fB L)[i*3+j]? = some v:=by
 obtain⟨h1,rfl⟩:=List.getElem?_eq_some_iff.1 h;unfold fB;rw[uO t3 3 (fun _=>rfl) L i h1 j hj,hv]
theorem oL(L:List D2)(i:Nat)(x:D2)(h:L[i]? = some x)(j:Nat)(hj:j<2)(v:Value)(hv:(d2 x)[j]? = some v):(iE L)[i*2+j]? = some v:=by
 obtain⟨h1,rfl⟩:=List.getElem?_eq_some_iff.1 h;unfold iE;rw[uO d2 2 (fun _=>rfl) L i h1 j hj,hv]
theorem aew(w:World):(isAgg 120).run Tryz.prog w=.ok true w:=by kernel_rfl
theorem ZH(w:World):(Go.sizeOf 120).run Tryz.prog w=.ok 3 w:=by kernel_rfl
def ajx(a b c m b1 b2 b3:Nat)(j b o:Nat):Prop:=False
def Ec(a b c m b1 b2 b3:Nat)(i:Nat)(v:Value)(lo hi:Nat)(w:World):Prop:=
 match i with
 | 0=>v=.func (.func 143) #[] #[]
 | 1=>v=.agg #[.int .i64 ((a:Nat):Int),.int .i64 ((b:Nat):Int),.int .i64 ((c:Nat):Int)]
 | 2=>v=.int .i64 ((a:Nat):Int)
 | 3=>v=.int .i64 ((m:Nat):Int)
 | 4=>v=.bool (decide (a=m))
 | _=>True
theorem Uh(a b c m b1 b2 b3:Nat)  : ∀i j,i<5->j<5->j≠i->j∉([[],[],[0,1],[],[0,1,2,3]]:List (List Nat)).getD i []->∀v lo hi w w',Ec a b c m b1 b2 b3 i v lo hi w->aB (ajx a b c m b1 b2 b3 j) w w'->Ec a b c m b1 b2 b3 i v lo hi w':=by
 intro i j hi hj hne hbs v lo hj2 w w' h hg
 match i,hi with
 | 0,_|1,_|2,_|3,_|4,_=>
  simp only[Ec]at h⊢;exact h
 | (q+5),hq=>exact absurd hq (by omega)
def ajy(a b m b1 b2 b3:Nat)(j b o:Nat):Prop:=False
def Ed(a b m b1 b2 b3:Nat)(i:Nat)(v:Value)(lo hi:Nat)(w:World):Prop:=
 match i with
 | 0=>v=.func (.func 141) #[] #[]
 | 1=>v=.agg #[.int .i64 ((a:Nat):Int),.int .i64 ((b:Nat):Int)]
 | 2=>v=.int .i64 ((a:Nat):Int)
 | 3=>v=.int .i64 ((m:Nat):Int)
 | 4=>v=.bool (decide (a=m))
 | _=>True
theorem Ui(a b m b1 b2 b3:Nat)  : ∀i j,i<5->j<5->j≠i->j∉([[],[],[0,1],[],[0,1,2,3]]:List (List Nat)).getD i []->∀v lo hi w w',Ed a b m b1 b2 b3 i v lo hi w->aB (ajy a b m b1 b2 b3 j) w w'->Ed a b m b1 b2 b3 i v lo hi w':=by
 intro i j hi hj hne hbs v lo hj2 w w' h hg
 match i,hi with
 | 0,_|1,_|2,_|3,_|4,_=>
  simp only[Ed]at h⊢;exact h
 | (q+5),hq=>exact absurd hq (by omega)
section
variable{w:World}
theorem afB(a b c:Nat)(w:World):Calls Tryz.prog 143 #[.agg #[.int .i64 (a:Nat),.int .i64 (b:Nat),.int .i64 (c:Nat)]] w fun e w'=>e=.returned (.int .i64 (a:Nat))/\Below w.heap.size w w':=by
 go_enter Tryz.func143,Tryz.ntmps143;go_wp2_with fail;go_ret;exact⟨rfl,(Below.refl _ _).alloc (Nat.le_refl _) _⟩
theorem ZI(a b:Nat)(w:World):Calls Tryz.prog 141 #[.agg #[.int .i64 (a:Nat),.int .i64 (b:Nat)]] w fun e w'=>e=.returned (.int .i64 (a:Nat))/\Below w.heap.size w w':=by
 go_enter Tryz.func141,Tryz.ntmps141;go_wp2_with fail;go_ret;exact⟨rfl,(Below.refl _ _).alloc (Nat.le_refl _) _⟩
theorem acf(a b c m b1 b2:Nat)(h1:Box w b1 [.func (.func 143) #[] #[]])(h2:Box w b2 [.int .i64 (m:Nat)]):
  Calls Tryz.prog 167 #[.agg #[.int .i64 (a:Nat),.int .i64 (b:Nat),.int .i64 (c:Nat)],.pointer (some ⟨b1,0,none⟩),.pointer (some ⟨b2,0,none⟩)] w fun e w'=>e=.returned (.bool (decide (a=m)))/\Below w.heap.size w w':=by
 have hbb:((a:Int)==(m:Int))=decide (a=m):=by
  by_cases h:a=m
  ·simp[h]
  ·have h2:¬(a:Int)=(m:Int):=by omega
   simp[h,h2]
 have BK:decide ((a:Int)=(m:Int))=decide (a=m):=by
  by_cases h:a=m
  ·simp[h]
  ·have h2:¬(a:Int)=(m:Int):=by omega
   simp[h,h2]
 have hbx:=Box.new w #[.int .i64 (a:Nat),.int .i64 (b:Nat),.int .i64 (c:Nat)] 120 rfl;have hal:Below w.heap.size w (w.alloc (.cells #[.int .i64 (a:Nat),.int .i64 (b:Nat),.int .i64 (c:Nat)] 120)):=(Below.refl _ _).alloc (Nat.le_refl _) _;have b1':=h1.below hal (Nat.le_refl _);have b2':=h2.below hal (Nat.le_refl _);have ji:=hid hal;obtain⟨b3,hb3⟩:∃x,w.heap.size=x:=⟨_,rfl⟩
 have HB3:=hid hb3;clear hal h1 h2;go_enter Tryz.func167,Tryz.ntmps167;go_upto_region 1 with (fail);rw[hb3]at hbx
 try rw[hb3]
 obtain⟨w1,hw1⟩:∃x,w.alloc (.cells #[.int .i64 (a:Nat),.int .i64 (b:Nat),.int .i64 (c:Nat)] 120)=x:=⟨_,rfl⟩
 rw[hw1]at hbx b1' b2'⊢;have HA1:Hid (Below w.heap.size w w1):=hid (hw1▸ji.out);clear hw1 hb3 ji;have bx:=hbx;have bf:=b1';have bn:=b2';have hB:Below w1.heap.size w1 w1:=Below.refl _ _;clear hbx b1' b2';refine aQ (ajx a b c m b1 b2 b3) 5 [[],[],[0,1],[],[0,1,2,3]] [some 5,some 6,some 7,some 8,some 9,some 4] (by kernel_rfl) (by kernel_rfl) rfl (Ec a b c m b1 b2 b3) (Uh a b c m b1 b2 b3) ?aqh ?_
 case aqh=>
  intro i hi o ho vs lo eX w' hg hp;have hsz:=hg.size;have hgB:Below w1.heap.size w1 w':=hg.below (fun k hk=>⟨hk,fun o=>by rintro⟨j,_,_,_,hw⟩;exact False.elim hw⟩);replace hp:=fun j hj=>(hp j hj).2.2.2
  match i,hi with
  | 0,_|1,_|3,_=>
   cases ho;simp only[ak,Act.put,aA]
   try have e0:=(hg.cell (b1) 0 bf.lt (by rintro⟨j,_,hne,hb,hw⟩;exact False.elim hw)).trans (bf.cell 0 _ rfl)
   try have e1:=(hg.cell (b3) 0 bx.lt (by rintro⟨j,_,hne,hb,hw⟩;exact False.elim hw)).trans (bx.cell 0 _ rfl)
   try have e2:=(hg.cell (b3) 1 bx.lt (by rintro⟨j,_,hne,hb,hw⟩;exact False.elim hw)).trans (bx.cell 1 _ rfl)
   try have e3:=(hg.cell (b3) 2 bx.lt (by rintro⟨j,_,hne,hb,hw⟩;exact False.elim hw)).trans (bx.cell 2 _ rfl)
   try have e4:=(hg.cell (b2) 0 bn.lt (by rintro⟨j,_,hne,hb,hw⟩;exact False.elim hw)).trans (bn.cell 0 _ rfl)
   go_wp2;exact⟨_,rfl,aB.refl _,rfl⟩
  | 2,_=>
   cases ho;simp only[ak,Act.put,aA];have h0:=hp 0 (by simp);have h1:=hp 1 (by simp);simp only[Ec]at h0 h1;rw[h0,h1];have hcall:=afB a b c w';have cO:=hid hcall;clear hcall;go_wp2_with fail;refine cO.out.mono ?_;rintro e wh ⟨rfl,hbl⟩;go_wp2;exact⟨_,rfl,aB.bK ⟨hbl.os,hbl.tape,hbl.output,hbl.size,hbl.block⟩,rfl⟩
  | 4,_=>
   cases ho;simp only[ak,Act.put,aA];have h2:=hp 2 (by simp);have h3:=hp 3 (by simp);simp only[Ec]at h2 h3;rw[h2,h3];go_wp2;exact⟨_,rfl,aB.refl _,by simp only[Ec,hbb,BK]⟩
  | (q+5),hq=>exact absurd hq (by omega)
 intro vS lo hi w5 hg hp hd;have hP:=fun j hj=>(hp j hj).2.2.2;have h0:=hP 0 (by decide);have h1:=hP 1 (by decide);have h2:=hP 2 (by decide);have h3:=hP 3 (by decide);have h4:=hP 4 (by decide);clear hP;simp only[Ec]at h0 h1 h2 h3 h4;clear hp hd;have hsz:=hg.size;replace bx:=bx.grow hg (by intro i _;rintro⟨j,_,hw⟩;exact False.elim hw);replace bf:=bf.grow hg (by intro i _;rintro⟨j,_,hw⟩;exact False.elim hw);replace bn:=bn.grow hg (by intro i _;rintro⟨j,_,hw⟩;exact False.elim hw);replace hB:=hB.trans (hg.below (fun k hk=>⟨by omega,fun o=>by rintro⟨j,_,hw⟩;exact False.elim hw⟩));have hr:List.range 5=[0,1,2,3,4]:=rfl;rw[hr];clear hr;simp only[List.drop_succ_cons,List.drop_zero,List.drop_nil,ak,Act.put,aA,h0,h1,h2,h3,h4];clear h0 h1 h2 h3 h4;clear hg hsz;go_wp2_with fail;go_ret;exact⟨rfl,HA1.out.trans (hB.mono HA1.out.size)⟩
theorem acg(a b m b1 b2:Nat)(h1:Box w b1 [.func (.func 141) #[] #[]])(h2:Box w b2 [.int .i64 (m:Nat)]):
  Calls Tryz.prog 166 #[.agg #[.int .i64 (a:Nat),.int .i64 (b:Nat)],.pointer (some ⟨b1,0,none⟩),.pointer (some ⟨b2,0,none⟩)] w fun e w'=>e=.returned (.bool (decide (a=m)))/\Below w.heap.size w w':=by
 have hbb:((a:Int)==(m:Int))=decide (a=m):=by
  by_cases h:a=m
  ·simp[h]
  ·have h2:¬(a:Int)=(m:Int):=by omega
   simp[h,h2]
 have BK:decide ((a:Int)=(m:Int))=decide (a=m):=by
  by_cases h:a=m
  ·simp[h]
  ·have h2:¬(a:Int)=(m:Int):=by omega
   simp[h,h2]
 have hbx:=Box.new w #[.int .i64 (a:Nat),.int .i64 (b:Nat)] 123 rfl;have hal:Below w.heap.size w (w.alloc (.cells #[.int .i64 (a:Nat),.int .i64 (b:Nat)] 123)):=(Below.refl _ _).alloc (Nat.le_refl _) _;have b1':=h1.below hal (Nat.le_refl _);have b2':=h2.below hal (Nat.le_refl _);have ji:=hid hal;obtain⟨b3,hb3⟩:∃x,w.heap.size=x:=⟨_,rfl⟩
 have HB3:=hid hb3;clear hal h1 h2;go_enter Tryz.func166,Tryz.ntmps166;go_upto_region 1 with (fail);rw[hb3]at hbx
 try rw[hb3]
 obtain⟨w1,hw1⟩:∃x,w.alloc (.cells #[.int .i64 (a:Nat),.int .i64 (b:Nat)] 123)=x:=⟨_,rfl⟩
 rw[hw1]at hbx b1' b2'⊢;have HA1:Hid (Below w.heap.size w w1):=hid (hw1▸ji.out);clear hw1 hb3 ji;have bx:=hbx;have bf:=b1';have bn:=b2';have hB:Below w1.heap.size w1 w1:=Below.refl _ _;clear hbx b1' b2';refine aQ (ajy a b m b1 b2 b3) 5 [[],[],[0,1],[],[0,1,2,3]] [some 5,some 6,some 7,some 8,some 9,some 4] (by kernel_rfl) (by kernel_rfl) rfl (Ed a b m b1 b2 b3) (Ui a b m b1 b2 b3) ?aqi ?_
 case aqi=>
  intro i hi o ho vs lo eX w' hg hp;have hsz:=hg.size;have hgB:Below w1.heap.size w1 w':=hg.below (fun k hk=>⟨hk,fun o=>by rintro⟨j,_,_,_,hw⟩;exact False.elim hw⟩);replace hp:=fun j hj=>(hp j hj).2.2.2
  match i,hi with
  | 0,_|1,_|3,_=>
   cases ho;simp only[ak,Act.put,aA]
   try have e0:=(hg.cell (b1) 0 bf.lt (by rintro⟨j,_,hne,hb,hw⟩;exact False.elim hw)).trans (bf.cell 0 _ rfl)
   try have e1:=(hg.cell (b3) 0 bx.lt (by rintro⟨j,_,hne,hb,hw⟩;exact False.elim hw)).trans (bx.cell 0 _ rfl)
   try have e2:=(hg.cell (b3) 1 bx.lt (by rintro⟨j,_,hne,hb,hw⟩;exact False.elim hw)).trans (bx.cell 1 _ rfl)
   try have e3:=(hg.cell (b2) 0 bn.lt (by rintro⟨j,_,hne,hb,hw⟩;exact False.elim hw)).trans (bn.cell 0 _ rfl)
   go_wp2;exact⟨_,rfl,aB.refl _,rfl⟩
  | 2,_=>
   cases ho;simp only[ak,Act.put,aA];have h0:=hp 0 (by simp);have h1:=hp 1 (by simp);simp only[Ed]at h0 h1;rw[h0,h1];have hcall:=ZI a b w';have cO:=hid hcall;clear hcall;go_wp2_with fail;refine cO.out.mono ?_;rintro e wh ⟨rfl,hbl⟩;go_wp2;exact⟨_,rfl,aB.bK ⟨hbl.os,hbl.tape,hbl.output,hbl.size,hbl.block⟩,rfl⟩
  | 4,_=>
   cases ho;simp only[ak,Act.put,aA];have h2:=hp 2 (by simp);have h3:=hp 3 (by simp);simp only[Ed]at h2 h3;rw[h2,h3];go_wp2;exact⟨_,rfl,aB.refl _,by simp only[Ed,hbb,BK]⟩
  | (q+5),hq=>exact absurd hq (by omega)
 intro vS lo hi w5 hg hp hd;have hP:=fun j hj=>(hp j hj).2.2.2;have h0:=hP 0 (by decide);have h1:=hP 1 (by decide);have h2:=hP 2 (by decide);have h3:=hP 3 (by decide);have h4:=hP 4 (by decide);clear hP;simp only[Ed]at h0 h1 h2 h3 h4;clear hp hd;have hsz:=hg.size;replace bx:=bx.grow hg (by intro i _;rintro⟨j,_,hw⟩;exact False.elim hw);replace bf:=bf.grow hg (by intro i _;rintro⟨j,_,hw⟩;exact False.elim hw);replace bn:=bn.grow hg (by intro i _;rintro⟨j,_,hw⟩;exact False.elim hw);replace hB:=hB.trans (hg.below (fun k hk=>⟨by omega,fun o=>by rintro⟨j,_,hw⟩;exact False.elim hw⟩));have hr:List.range 5=[0,1,2,3,4]:=rfl;rw[hr];clear hr;simp only[List.drop_succ_cons,List.drop_zero,List.drop_nil,ak,Act.put,aA,h0,h1,h2,h3,h4];clear h0 h1 h2 h3 h4;clear hg hsz;go_wp2_with fail;go_ret;exact⟨rfl,HA1.out.trans (hB.mono HA1.out.size)⟩
theorem Vk(E:List T3)(n:Nat)(fn:Nat)(caps:Array Value)(p:T3->Bool)(F:World->Prop)(eg:∀args w,(callFunc fn args).run Tryz.prog w=.ok (.enter fn args) w)
  (hP:∀W (x:T3),F W->Calls Tryz.prog fn (#[.agg (t3 x).toArray]++caps) W fun e w'=>e=.returned (.bool (p x))/\Below W.heap.size W w')
  (hst:∀W W',F W->Below W.heap.size W W'->F W') (hl:E.length=n) (hn:n<=1099511627776) (w:World) (hF:F w) (ao:Option Addr) (cp:Nat) (hv:Reads 3 w (.slice ao n cp) n (fB E)):
  Calls Tryz.prog 156 #[.slice ao n cp,.func (.func fn) #[] caps] w fun e w'=>e=.returned (.int .i64 (jh (E.findIdx? p)))/\Below w.heap.size w w':=by
 by_cases hpos:0<n
 ·obtain⟨_,_,b,o,e1,hbl,hc⟩:=hv.gG hpos;subst e1;have:=AnyQ.slices_IndexFunc (α:=T3) Tryz.idxTn 3 aew ZH t3 (fun _=>rfl) p fn caps eg b o n cp E w
   (fun W x hW=>(hP W x (hst w W hF hW)).mono fun _ _ ⟨h1,h2⟩=>⟨h1,hW.trans (h2.mono hW.size)⟩) (Nat.le_of_eq hl.symm) (by omega) hbl
   (fun j hj i v hi=>by rw[Nat.add_assoc];exact hc _ _ (uh t3 3 (fun _=>rfl) E j hj i v hi))
  rw[List.take_of_length_le (Nat.le_of_eq hl),uN]at this;exact this
 ·have h0:n=0:=by omega
  subst h0;have hE:E=[]:=List.eq_nil_of_length_eq_zero hl;subst hE;clear hv hP hst hF hl;go_enter Tryz.func156,Tryz.ntmps156;go_wp2_with fail;go_loopw [8] (fun i wr=>i=.int .i64 0/\w=wr) (fun _ _=>0)
  case atStart=>exact⟨rfl,rfl⟩
  case round=>
   obtain⟨rfl,rfl⟩:=hrel;go_wp2_with fail;go_ret;exact⟨rfl,Below.refl _ _⟩
theorem afC(E:List T3)(n m:Nat)(hl:E.length=n)(hn:n<=1099511627776)(w:World)(v:Value)(hv:Reads 3 w v n (fB E)):
  Calls Tryz.prog 142 #[v,.int .i64 (m:Nat),.func (.func 143) #[] #[]] w fun e w'=>e=.returned (.int .i64 (jh (E.findIdx? fun x=>decide (x.1=m))))/\Below w.heap.size w w':=by
 obtain⟨ao,cp,rfl,_⟩:=id hv;have HV:=hid hv;obtain⟨g,hg⟩:∃x,w.heap.size=x:=⟨_,rfl⟩
 obtain⟨w2,hw2⟩:∃x,(w.alloc (.cells #[.int .i64 (m:Nat)] 3)).alloc (.cells #[.func (.func 143) #[] #[]] 189)=x:=⟨_,rfl⟩
 have h1:Box w2 g [.int .i64 (m:Nat)]:=by
  rw[<-hw2,<-hg];exact(Box.new w #[.int .i64 (m:Nat)] 3 rfl).below ((Below.refl _ _).alloc (Nat.le_refl _) _) (Nat.le_refl _)
 have h2:Box w2 (g+1) [.func (.func 143) #[] #[]]:=by
  have:=Box.new (w.alloc (.cells #[.int .i64 (m:Nat)] 3)) #[.func (.func 143) #[] #[]] 189 rfl;rw[hw2]at this;simpa[hg]using this
 have hb:Below g w w2:=by
  rw[<-hw2,<-hg];exact((Below.refl _ _).alloc (Nat.le_refl _) _).alloc (by simp) _
 have HB:=hid hb;have H1:=hid h1;have H2:=hid h2;have eg:∀args w,(callFunc 167 args).run Tryz.prog w=.ok (.enter 167 args) w:=enters_of Tryz.func167 (by kernel_rfl) rfl;have hcall:=Vk E n 167 #[.pointer (some ⟨g+1,0,none⟩),.pointer (some ⟨g,0,none⟩)] (fun x=>decide (x.1=m)) (fun W=>Box W (g+1) [.func (.func 143) #[] #[]]/\Box W g [.int .i64 (m:Nat)]) eg
  (fun W x hF=>acf (w:=W) x.1 x.2.1 x.2.2 m (g+1) g hF.1 hF.2)
  (fun W W' hF hb=>⟨hF.1.below hb (Nat.le_refl _),hF.2.below hb (Nat.le_refl _)⟩) hl hn w2 ⟨h2,h1⟩ ao cp (hv.below hb (by omega))
 have HC:=hid hcall;clear hv hcall h1 h2 hb eg hl;go_enter Tryz.func142,Tryz.ntmps142;go_wp2_with fail
 try rw[hg]
 try rw[hw2]
 refine HC.out.mono ?_;rintro e w3 ⟨rfl,hb3⟩;have HB3:=hid hb3;clear hb3;go_wp2_with fail;go_ret;exact⟨rfl,hg▸HB.out.trans (HB3.out.mono (hg▸HB.out.size))⟩
theorem afD(E:List D2)(n:Nat)(fn:Nat)(caps:Array Value)(p:D2->Bool)(F:World->Prop)(eg:∀args w,(callFunc fn args).run Tryz.prog w=.ok (.enter fn args) w)
  (hP:∀W (x:D2),F W->Calls Tryz.prog fn (#[.agg (d2 x).toArray]++caps) W fun e w'=>e=.returned (.bool (p x))/\Below W.heap.size W w')
  (hst:∀W W',F W->Below W.heap.size W W'->F W') (hl:E.length=n) (hn:n<=1099511627776) (w:World) (hF:F w) (ao:Option Addr) (cp:Nat) (hv:Reads 2 w (.slice ao n cp) n (iE E)):
  Calls Tryz.prog 165 #[.slice ao n cp,.func (.func fn) #[] caps] w fun e w'=>e=.returned (.int .i64 (jh (E.findIdx? p)))/\Below w.heap.size w w':=by
 by_cases hpos:0<n
 ·obtain⟨_,_,b,o,e1,hbl,hc⟩:=hv.gG hpos;subst e1;have:=AnyQ.slices_IndexFunc (α:=D2) Tryz.idxDr 2 V7 OT d2 (fun _=>rfl) p fn caps eg b o n cp E w
   (fun W x hW=>(hP W x (hst w W hF hW)).mono fun _ _ ⟨h1,h2⟩=>⟨h1,hW.trans (h2.mono hW.size)⟩) (Nat.le_of_eq hl.symm) (by omega) hbl
   (fun j hj i v hi=>by rw[Nat.add_assoc];exact hc _ _ (uh d2 2 (fun _=>rfl) E j hj i v hi))
  rw[List.take_of_length_le (Nat.le_of_eq hl),uN]at this;exact this
 ·have h0:n=0:=by omega
  subst h0;have hE:E=[]:=List.eq_nil_of_length_eq_zero hl;subst hE;clear hv hP hst hF hl;go_enter Tryz.func165,Tryz.ntmps165;go_wp2_with fail;go_loopw [8] (fun i wr=>i=.int .i64 0/\w=wr) (fun _ _=>0)
  case atStart=>exact⟨rfl,rfl⟩
  case round=>
   obtain⟨rfl,rfl⟩:=hrel;go_wp2_with fail;go_ret;exact⟨rfl,Below.refl _ _⟩
theorem Vl(E:List D2)(n m:Nat)(hl:E.length=n)(hn:n<=1099511627776)(w:World)(v:Value)(hv:Reads 2 w v n (iE E)):
  Calls Tryz.prog 140 #[v,.int .i64 (m:Nat),.func (.func 141) #[] #[]] w fun e w'=>e=.returned (.int .i64 (jh (E.findIdx? fun x=>decide (x.1=m))))/\Below w.heap.size w w':=by
 obtain⟨ao,cp,rfl,_⟩:=id hv;have HV:=hid hv;obtain⟨g,hg⟩:∃x,w.heap.size=x:=⟨_,rfl⟩
 obtain⟨w2,hw2⟩:∃x,(w.alloc (.cells #[.int .i64 (m:Nat)] 3)).alloc (.cells #[.func (.func 141) #[] #[]] 187)=x:=⟨_,rfl⟩
 have h1:Box w2 g [.int .i64 (m:Nat)]:=by
  rw[<-hw2,<-hg];exact(Box.new w #[.int .i64 (m:Nat)] 3 rfl).below ((Below.refl _ _).alloc (Nat.le_refl _) _) (Nat.le_refl _)
 have h2:Box w2 (g+1) [.func (.func 141) #[] #[]]:=by
  have:=Box.new (w.alloc (.cells #[.int .i64 (m:Nat)] 3)) #[.func (.func 141) #[] #[]] 187 rfl;rw[hw2]at this;simpa[hg]using this
 have hb:Below g w w2:=by
  rw[<-hw2,<-hg];exact((Below.refl _ _).alloc (Nat.le_refl _) _).alloc (by simp) _
 have HB:=hid hb;have H1:=hid h1;have H2:=hid h2;have eg:∀args w,(callFunc 166 args).run Tryz.prog w=.ok (.enter 166 args) w:=enters_of Tryz.func166 (by kernel_rfl) rfl;have hcall:=afD E n 166 #[.pointer (some ⟨g+1,0,none⟩),.pointer (some ⟨g,0,none⟩)] (fun x=>decide (x.1=m)) (fun W=>Box W (g+1) [.func (.func 141) #[] #[]]/\Box W g [.int .i64 (m:Nat)]) eg
  (fun W x hF=>acg (w:=W) x.1 x.2 m (g+1) g hF.1 hF.2)
  (fun W W' hF hb=>⟨hF.1.below hb (Nat.le_refl _),hF.2.below hb (Nat.le_refl _)⟩) hl hn w2 ⟨h2,h1⟩ ao cp (hv.below hb (by omega))
 have HC:=hid hcall;clear hv hcall h1 h2 hb eg hl;go_enter Tryz.func140,Tryz.ntmps140;go_wp2_with fail
 try rw[hg]
 try rw[hw2]
 refine HC.out.mono ?_;rintro e w3 ⟨rfl,hb3⟩;have HB3:=hid hb3;clear hb3;go_wp2_with fail;go_ret;exact⟨rfl,hg▸HB.out.trans (HB3.out.mono (hg▸HB.out.size))⟩
theorem Xy(cs:List Value)(k:Nat)(hk:cs[0]? = some (.int .i64 (k:Nat)))(w:World)(c1 c2 c3 c4 c5 c6 c7 c8 c9 c10:Value)(hc:cs=[.int .i64 (k:Nat),c1,c2,c3,c4,c5,c6,c7,c8,c9,c10]):
  Calls Tryz.prog 139 #[.agg cs.toArray] w fun e w'=>e=.returned (.bool (decide (k=2) || decide (k=3)))/\Below w.heap.size w w':=by
 subst hc;by_cases h2:k=2
 ·subst h2;go_enter Tryz.func139,Tryz.ntmps139;go_wp2_with fail;go_ret;exact⟨rfl,(Below.refl _ _).alloc (Nat.le_refl _) _⟩
 ·by_cases h3:k=3
  ·subst h3;go_enter Tryz.func139,Tryz.ntmps139;go_wp2_with fail;go_ret;exact⟨rfl,(Below.refl _ _).alloc (Nat.le_refl _) _⟩
  ·have b2:((k:Int)==2)=false:=by simpa using (by omega:¬(k:Int)=2)
   have b2':decide ((k:Int)=2)=false:=by simpa using (by omega:¬(k:Int)=2)
   have b3:((k:Int)==3)=false:=by simpa using (by omega:¬(k:Int)=3)
   have b3':decide ((k:Int)=3)=false:=by simpa using (by omega:¬(k:Int)=3)
   have HB:Hid ((decide (k=2) || decide (k=3))=false):=hid (by simp[h2,h3]);clear hk h2 h3;go_enter Tryz.func139,Tryz.ntmps139;go_wp2_with fail;go_ret;exact⟨by rw[HB.out];rfl,(Below.refl _ _).alloc (Nat.le_refl _) _⟩
end
end
section
open Go.RowKit
theorem yL:SliceOf Tryz.prog 76 120 (.agg #[.int .i64 0,.int .i64 0,.int .i64 0]) 3 24:=⟨Tryz.underlying76,by kernel_rfl,rfl,by decide⟩
theorem yM:SliceOf Tryz.prog 195 197 (.agg #[.int .i64 0,.int .i64 0]) 2 16:=⟨Tryz.underlying195,by kernel_rfl,rfl,by decide⟩
theorem pz{P:Program}{ops:Array Oper}{o:Oper}{a:Act}{w:World}{K:Act->World->Prop}{Q:Exit->Act->World->Prop}{E:Prop}
  {t e:TypeId} {z:Value} {k bytes:Nat} (T:SliceOf P t e z k bytes) (hgd:o.guard=none) (s x:Operand) (ho:o.op=.call { callee:=.builtin .append,args:=#[s,x],argTypes:=#[t,t] })
  {G g i n cap:Nat} {xs:List Value} (hs:a.eval s=.slice (some ⟨g,0,none⟩) i cap) (hown:w.ownsRow G e k (.slice (some ⟨g,0,none⟩) n cap) n xs)
  {ad:Addr} {m c:Nat} {news:List Value} (hx:a.eval x=.slice (some ad) m c) (hl:news.length=m*k) (hnews:∀j u,news[j]? = some u->w.cell? (ad.add j)=some u) (h1:∀u∈news,u.oneCell'=true)
  (hroom:i+m<=n)
  (h:∀w',w'.ownsRow G e k (.slice (some ⟨g,0,none⟩) n cap) n (xs.take (i*k)++news++xs.drop (i*k+news.length))->aj (fun k=>k=g) w w'->K (a.put o.dst (.slice (some ⟨g,0,none⟩) (i+m) cap)) w'):
  if Region.wanted o (yielded ops a.tmps)=true then Oper.wp P o a w K Q else E:=by
 have hw:Region.wanted o (yielded ops a.tmps)=true:=by simp[Region.wanted,hgd]
 rw[if_pos hw];obtain⟨ii,hi,hz0,hz1,hz2⟩:=info_parts T.info;obtain⟨hxl,hown⟩:=hown;rcases hown with ⟨h0,_⟩|⟨g',cap',cur,e0,hb,hg,hn,hc,hcs,ht⟩
 ·simp at h0
 injection e0 with e1 e2 e3;injection e1 with e1;injection e1 with e1;subst e1 e3;have hmul:i*k+m*k<=n*k:=by rw[<-Nat.add_mul];exact Nat.mul_le_mul_right _ hroom
 have hcap:n*k<=cap*k:=Nat.mul_le_mul_right _ hn;have hfit:i*k+news.length<=cur.size:=by rw[hcs,hl];omega
 have hrun:=run_append_room (P:=P) w t o.type e ii T.und hi g i cap cur hg ad m c news (by rw[hz1];exact hl) hnews h1 (by omega) (by rw[hz1];exact hfit);rw[hz1]at hrun;unfold Oper.wp;simp[execOp,ho,resolve,invoke,builtin,hs,hx,hrun,Result.andThen];have hcl:cur.toList.length=cap*k:=by simpa using hcs
 have hg2:=setRow_heap w g cur (cur.toList.take (i*k)++news++cur.toList.drop (i*k+news.length)).toArray e (0,0) hg;have h2:=h _ ⟨by simp only[List.length_append,List.length_take,List.length_drop,hxl,hl];omega,.inr ⟨g,cap,_,rfl,hb,hg2,hn,hc,by simp[hl];omega,?_⟩⟩ (DW w g _)
 ·rw[List.append_assoc]at h2;exact h2
 ·rw[<-ht];show List.take (n*k) (cur.toList.take (i*k)++news++cur.toList.drop (i*k+news.length))=_;have e4:(cur.toList.take (i*k)++news).length=i*k+news.length:=by rw[List.length_append,List.length_take,hcl,hl];omega
  rw[List.take_append,List.take_of_length_le (by rw[e4,hl];omega),e4,List.take_take,Nat.min_eq_left (by omega),List.drop_take]
theorem Ee{α:Type}[Inhabited α](enc:α->List Value)(k:Nat)(hk:∀x,(enc x).length=k)(L:List α)(i:Nat)(h:i<L.length):
  ((L.flatMap enc).take (i*k)++(L.drop (i+1)).flatMap enc++(L.flatMap enc).drop (i*k+((L.drop (i+1)).flatMap enc).length)).take ((L.length-1)*k)=(L.eraseIdx i).flatMap enc:=by
 have e1:(L.flatMap enc).take (i*k)=(L.take i).flatMap enc:=by
  have h1:L.flatMap enc=(L.take i).flatMap enc++(L.drop i).flatMap enc:=by rw[<-List.flatMap_append,List.take_append_drop]
  have h2:((L.take i).flatMap enc).length=i*k:=by rw[jw enc k hk,List.length_take,Nat.min_eq_left (by omega)]
  rw[h1,<-h2,List.take_left]
 have e2:((L.take i).flatMap enc++(L.drop (i+1)).flatMap enc).length=(L.length-1)*k:=by
  rw[<-List.flatMap_append,jw enc k hk,<-List.eraseIdx_eq_take_drop_succ,List.length_eraseIdx,if_pos h]
 rw[e1,<-e2,List.take_left,<-List.flatMap_append,<-List.eraseIdx_eq_take_drop_succ]
theorem ZJ(L:List T3)(G g n cap i:Nat)(j:Int)(w:World)(hl:L.length=n)(hown:w.ownsRow G 120 3 (.slice (some ⟨g,0,none⟩) n cap) n (fB L))(hi:i<n)(hj:j=(i:Int)+1)(hn:n<=1048577):
  Calls Tryz.prog 144 #[.slice (some ⟨g,0,none⟩) n cap,.int .i64 i,.int .i64 j] w fun e w'=>e=.returned (.slice (some ⟨g,0,none⟩) (n-1) cap)/\
   w'.ownsRow G 120 3 (.slice (some ⟨g,0,none⟩) (n-1) cap) (n-1) (fB (L.eraseIdx i))/\aj (fun k=>k=g) w w':=by
 subst hj;have hcell:=dh hown;have hnc:n<=cap:=by obtain⟨_,_,h,_,h2,_⟩:=Reads.aY hown;injection h with _ _ h3;omega
 obtain⟨news,hnw⟩:∃x,fB (L.drop (i+1))=x:=⟨_,rfl⟩
 have hnl:news.length=(n-(i+1))*3:=by rw[<-hnw,Vh,List.length_drop,hl]
 have hon:∀u∈news,u.oneCell'=true:=by
  intro u hu;rw[<-hnw]at hu;obtain⟨x,_,hx⟩:=List.mem_flatMap.1 hu;simp[t3]at hx;rcases hx with rfl|rfl|rfl<;>rfl
 have BL:∀q u,news[q]? = some u->w.cell? ⟨g,(i+1)*3+q,none⟩=some u:=by
  intro q u hq;have Qh:=(List.getElem?_eq_some_iff.1 hq).1;have e3:(fB L)[(i+1)*3+q]? = some u:=by
   have h1:fB L=fB (L.take (i+1))++news:=by rw[<-hnw];unfold fB;rw[<-List.flatMap_append,List.take_append_drop]
   have h2:(fB (L.take (i+1))).length=(i+1)*3:=by rw[Vh,List.length_take,Nat.min_eq_left (by omega)]
   rw[h1,List.getElem?_append_right (by omega),h2,Nat.add_sub_cancel_left];exact hq
  have:=hcell _ _ e3;rw[Addr.add_lit,Nat.zero_add]at this;exact this
 have HO:Hid (w.drew.ownsRow G 120 3 (.slice (some ⟨g,0,none⟩) n cap) n (fB L)):=hid hown.drew;have HE:=hid (Ee t3 3 (fun _=>rfl) L i (by omega));have HL:=hid hl;have xJ:=hid hnl;have ZK:=hid hon;have CG:=hid hnw;have d1:((i:Int)==(i:Int)+1)=false:=by simp only[beq_eq_false_iff_ne];omega
 have q0:IntKind.i64.wrap ((i:Int)+1)=(i:Int)+1:=by rw[IntKind.wrap_i64];omega
 have q1:0<=(i:Int)+1:=by omega
 have q2:((i:Int)+1).toNat=i+1:=by omega
 have q4:(i:Int)+1<=(n:Int):=by omega
 have q5:(n:Int)<=(cap:Int):=by omega
 have q6:(i:Int)<=(n:Int):=by omega
 have q8:(i:Int)<=(cap:Int):=by omega
 have Q7:Hid (i+(n-(i+1))=n-1):=hid (by omega);have q9:((n-1:Nat):Int)<=(n:Int):=by omega
 have q10:((n-1:Nat):Int)<=(cap:Int):=by omega
 clear hown hcell hl hnl hon hnw;by_cases hlast:cap=i+1
 ·have hn1:n=i+1:=by omega
  have Rq:Hid (∀q u,news[q]? = some u->w.drew.cell? ((⟨g,0,none⟩:Addr).add q)=some u):=hid (fun q u hq=>by
   have:=(List.getElem?_eq_some_iff.1 hq).1;have:=xJ.out;omega)
  clear BL;subst hlast;subst hn1;have q13:(i:Int)<=(i:Int)+1:=by omega
  go_enter Tryz.func144,Tryz.ntmps144;go_wp2_with fail;go_region_law (refine pz (P:=Tryz.prog) yL rfl (.tmp 22) (.tmp 25) rfl (G:=G) (g:=g) (i:=i) (n:=i+1) (cap:=i+1) (xs:=fB L) (by simp[Act.eval,Act.put]) HO.out (ad:=⟨g,0,none⟩) (m:=0) (c:=0) (news:=news) (by simp[Act.eval,Act.put]) (by have:=xJ.out;omega) Rq.out ZK.out (by omega) ?_;intro w1 hg1 Hl);have vY:=hid hg1;have q11:¬(i+1=i):=by omega
  clear hg1;go_wp2_with (with_reducible refine jR yL (.tmp 31) rfl rfl (g:=g) (m:=i) (k:=1) (n:=i+1) (cap:=i+1) rfl vY.out (by omega) (by omega) (by decide) ?_;intro w2 hown2 fV)
  ·
   go_ret;refine⟨rfl,?_,(show aj _ w w.drew from⟨rfl,rfl,rfl,Nat.le_refl _,fun _ _ _=>rfl⟩).trans (Hl.trans fV)⟩;have h1:=HE.out;have h2:=CG.out;unfold fB at h2;rw[h2,HL.out,Nat.add_sub_cancel]at h1;unfold fB at hown2⊢;rw[h1]at hown2;exact hown2
 ·have Rq:Hid (∀q u,news[q]? = some u->w.drew.cell? ((⟨g,(i+1)*3,none⟩:Addr).add q)=some u):=hid (fun q u hq=>by rw[Addr.add_lit];exact BL q u hq);clear BL;have q3:¬(cap=i+1):=hlast;go_enter Tryz.func144,Tryz.ntmps144;go_wp2_with fail;go_region_law (refine pz (P:=Tryz.prog) yL rfl (.tmp 22) (.tmp 25) rfl (G:=G) (g:=g) (i:=i) (n:=n) (cap:=cap) (xs:=fB L) (by simp[Act.eval,Act.put]) HO.out (ad:=⟨g,(i+1)*3,none⟩) (m:=n-(i+1)) (c:=cap-(i+1)) (news:=news) (by simp[Act.eval,Act.put]) xJ.out Rq.out ZK.out (by omega) ?_;intro w1 hg1 Hl);have vY:=hid hg1;clear hg1;simp only[Q7.out];have q11:¬(n=n-1):=by omega
  have q12:¬(cap=n-1):=by omega
  go_wp2_with (with_reducible refine jR yL (.tmp 31) rfl rfl (g:=g) (m:=n-1) (k:=n-(n-1)) (n:=n) (cap:=cap) rfl vY.out (by omega) (by omega) (by decide) ?_;intro w2 hown2 fV)
  ·
   go_ret;refine⟨rfl,?_,(show aj _ w w.drew from⟨rfl,rfl,rfl,Nat.le_refl _,fun _ _ _=>rfl⟩).trans (Hl.trans fV)⟩;have h1:=HE.out;have h2:=CG.out;unfold fB at h2;rw[h2,HL.out]at h1;unfold fB at hown2⊢;rw[h1]at hown2;exact hown2
theorem LM(L:List D2)(G g n cap i:Nat)(j:Int)(w:World)(hl:L.length=n)(hown:w.ownsRow G 197 2 (.slice (some ⟨g,0,none⟩) n cap) n (iE L))(hi:i<n)(hj:j=(i:Int)+1)(hn:n<=1048577):
  Calls Tryz.prog 155 #[.slice (some ⟨g,0,none⟩) n cap,.int .i64 i,.int .i64 j] w fun e w'=>e=.returned (.slice (some ⟨g,0,none⟩) (n-1) cap)/\
   w'.ownsRow G 197 2 (.slice (some ⟨g,0,none⟩) (n-1) cap) (n-1) (iE (L.eraseIdx i))/\aj (fun k=>k=g) w w':=by
 subst hj;have hcell:=dh hown;have hnc:n<=cap:=by obtain⟨_,_,h,_,h2,_⟩:=Reads.aY hown;injection h with _ _ h3;omega
 obtain⟨news,hnw⟩:∃x,iE (L.drop (i+1))=x:=⟨_,rfl⟩
 have hnl:news.length=(n-(i+1))*2:=by rw[<-hnw,Vj,List.length_drop,hl]
 have hon:∀u∈news,u.oneCell'=true:=by
  intro u hu;rw[<-hnw]at hu;obtain⟨x,_,hx⟩:=List.mem_flatMap.1 hu;simp[d2]at hx;rcases hx with rfl|rfl<;>rfl
 have BL:∀q u,news[q]? = some u->w.cell? ⟨g,(i+1)*2+q,none⟩=some u:=by
  intro q u hq;have Qh:=(List.getElem?_eq_some_iff.1 hq).1;have e3:(iE L)[(i+1)*2+q]? = some u:=by
   have h1:iE L=iE (L.take (i+1))++news:=by rw[<-hnw];unfold iE;rw[<-List.flatMap_append,List.take_append_drop]
   have h2:(iE (L.take (i+1))).length=(i+1)*2:=by rw[Vj,List.length_take,Nat.min_eq_left (by omega)]
   rw[h1,List.getElem?_append_right (by omega),h2,Nat.add_sub_cancel_left];exact hq
  have:=hcell _ _ e3;rw[Addr.add_lit,Nat.zero_add]at this;exact this
 have HO:Hid (w.drew.ownsRow G 197 2 (.slice (some ⟨g,0,none⟩) n cap) n (iE L)):=hid hown.drew;have HE:=hid (Ee d2 2 (fun _=>rfl) L i (by omega));have HL:=hid hl;have xJ:=hid hnl;have ZK:=hid hon;have CG:=hid hnw;have d1:((i:Int)==(i:Int)+1)=false:=by simp only[beq_eq_false_iff_ne];omega
 have q0:IntKind.i64.wrap ((i:Int)+1)=(i:Int)+1:=by rw[IntKind.wrap_i64];omega
 have q1:0<=(i:Int)+1:=by omega
 have q2:((i:Int)+1).toNat=i+1:=by omega
 have q4:(i:Int)+1<=(n:Int):=by omega
 have q5:(n:Int)<=(cap:Int):=by omega
 have q6:(i:Int)<=(n:Int):=by omega
 have q8:(i:Int)<=(cap:Int):=by omega
 have Q7:Hid (i+(n-(i+1))=n-1):=hid (by omega);have q9:((n-1:Nat):Int)<=(n:Int):=by omega
 have q10:((n-1:Nat):Int)<=(cap:Int):=by omega
 clear hown hcell hl hnl hon hnw;by_cases hlast:cap=i+1
 ·have hn1:n=i+1:=by omega
  have Rq:Hid (∀q u,news[q]? = some u->w.drew.cell? ((⟨g,0,none⟩:Addr).add q)=some u):=hid (fun q u hq=>by
   have:=(List.getElem?_eq_some_iff.1 hq).1;have:=xJ.out;omega)
  clear BL;subst hlast;subst hn1;have q13:(i:Int)<=(i:Int)+1:=by omega
  go_enter Tryz.func155,Tryz.ntmps155;go_wp2_with fail;go_region_law (refine pz (P:=Tryz.prog) yM rfl (.tmp 22) (.tmp 25) rfl (G:=G) (g:=g) (i:=i) (n:=i+1) (cap:=i+1) (xs:=iE L) (by simp[Act.eval,Act.put]) HO.out (ad:=⟨g,0,none⟩) (m:=0) (c:=0) (news:=news) (by simp[Act.eval,Act.put]) (by have:=xJ.out;omega) Rq.out ZK.out (by omega) ?_;intro w1 hg1 Hl);have vY:=hid hg1;have q11:¬(i+1=i):=by omega
  clear hg1;go_wp2_with (with_reducible refine jR yM (.tmp 31) rfl rfl (g:=g) (m:=i) (k:=1) (n:=i+1) (cap:=i+1) rfl vY.out (by omega) (by omega) (by decide) ?_;intro w2 hown2 fV)
  ·
   go_ret;refine⟨rfl,?_,(show aj _ w w.drew from⟨rfl,rfl,rfl,Nat.le_refl _,fun _ _ _=>rfl⟩).trans (Hl.trans fV)⟩;have h1:=HE.out;have h2:=CG.out;unfold iE at h2;rw[h2,HL.out,Nat.add_sub_cancel]at h1;unfold iE at hown2⊢;rw[h1]at hown2;exact hown2
 ·have Rq:Hid (∀q u,news[q]? = some u->w.drew.cell? ((⟨g,(i+1)*2,none⟩:Addr).add q)=some u):=hid (fun q u hq=>by rw[Addr.add_lit];exact BL q u hq);clear BL;have q3:¬(cap=i+1):=hlast;go_enter Tryz.func155,Tryz.ntmps155;go_wp2_with fail;go_region_law (refine pz (P:=Tryz.prog) yM rfl (.tmp 22) (.tmp 25) rfl (G:=G) (g:=g) (i:=i) (n:=n) (cap:=cap) (xs:=iE L) (by simp[Act.eval,Act.put]) HO.out (ad:=⟨g,(i+1)*2,none⟩) (m:=n-(i+1)) (c:=cap-(i+1)) (news:=news) (by simp[Act.eval,Act.put]) xJ.out Rq.out ZK.out (by omega) ?_;intro w1 hg1 Hl);have vY:=hid hg1;clear hg1;simp only[Q7.out];have q11:¬(n=n-1):=by omega
  have q12:¬(cap=n-1):=by omega
  go_wp2_with (with_reducible refine jR yM (.tmp 31) rfl rfl (g:=g) (m:=n-1) (k:=n-(n-1)) (n:=n) (cap:=cap) rfl vY.out (by omega) (by omega) (by decide) ?_;intro w2 hown2 fV)
  ·
   go_ret;refine⟨rfl,?_,(show aj _ w w.drew from⟨rfl,rfl,rfl,Nat.le_refl _,fun _ _ _=>rfl⟩).trans (Hl.trans fV)⟩;have h1:=HE.out;have h2:=CG.out;unfold iE at h2;rw[h2,HL.out]at h1;unfold iE at hown2⊢;rw[h1]at hown2;exact hown2
end
section
open Go.RowKit
section
variable{α:Type}[Inhabited α]
theorem Vm{P:Program}{ρ:Go.Shelf.Ren}(L:SlLaysF0.n20 P ρ)(k:Nat)(aE:∀w,(isAgg (ρ.t 24)).run P w=.ok true w)(zE:∀w,(Go.sizeOf (ρ.t 24)).run P w=.ok k w)(enc:α->List Value)(hk:∀x,(enc x).length=k)(h1:∀x,∀v∈enc x,v.oneCell'=true)
  (cf:α->α->Int) (hO:Go.Sort.SWO (ltOf cf)) (fn:Nat) (eg:∀args w,(callFunc fn args).run P w=.ok (.enter fn args) w)
  (hcmp:∀W x y,Calls P fn #[.agg (enc x).toArray,.agg (enc y).toArray] W fun e w'=>e=.returned (.int .i64 (cf x y))/\∃q os',w'=Go.Sort.grow (W.drewN q) os')
  (O:List α) (g cap n base e a b:Nat) (hl:O.length=n) (hn:n<=1152921504606846976) (hab:a<=b) (hb:b<=n) (W0 w:World) (hown:w.ownsRow base e k (.slice (some ⟨g,0,none⟩) n cap) n (O.flatMap enc)) (hbel:Below base W0 w):
  Calls P (ρ.f 20) #[.slice (some ⟨g,0,none⟩) n cap,.int .i64 a,.int .i64 b,.func (.func fn) #[] #[]] w fun r w'=>∃c:List α,r=.returned (.tuple #[])/\c.toArray=Go.Sort.insertionSort (ltOf cf) O.toArray a b/\c.length=n/\w'.ownsRow base e k (.slice (some ⟨g,0,none⟩) n cap) n (c.flatMap enc)/\Below base W0 w'/\aj (fun q=>q=g) w w':=by
 rcases hown.2 with ⟨h0,_⟩|⟨g',cap',cur,e0,hbg,hg,hnc,hcm,hcs,ht⟩
 ·simp at h0
 injection e0 with e1 e2 e3;injection e1 with e1;injection e1 with e1;subst e1 e3;subst hl;have hlt:g<w.heap.size:=(Array.getElem?_eq_some_iff.1 hg).1;have hmul:O.length*k<=cap*k:=Nat.mul_le_mul_right _ hnc;have hH:Go.Sort.HoldsK enc k w g 0 O.toArray:=by
  intro j hj;have hj':j<O.length*k:=by simpa using hj
  have hfl:=wY enc k hk O;refine⟨?_,by simp[World.frozen?,hg]⟩;have e1:(Go.Sort.flatK enc k O.toArray)[j]! = (O.flatMap enc)[j]'(by rw[jw enc k hk];exact hj'):=by
   rw[getElem!_pos _ j hj,<-Array.getElem_toList (h:=hj)];simp only[hfl]
  rw[e1];simp only[id,World.cell?,hg,Nat.zero_add,Option.isSome_none,Bool.false_eq_true,if_false];have e2:(cur.toList.take (O.length*k))[j]? = (O.flatMap enc)[j]? := by rw[ht]
  rw[List.getElem?_take_of_lt hj']at e2;rw[<-Array.getElem?_toList,e2,List.getElem?_eq_getElem]
 have hc:=AnyQ.insertionSortCmpFunc L k aE zE enc hk h1 cf fn #[] g 0 cap a b O.toArray w eg (fun m os dk _ x y=>hcmp _ x y) hH hlt hab (by simpa using hb) (by simp;omega);simp only[List.size_toArray]at hc;have hsp:=(Go.Sort.insertionSort_holds (lt:=ltOf cf) hO O.toArray a b hab (by simpa using hb)).1.1;refine hc.mono ?_;rintro r w' ⟨rfl,q,os,rfl⟩;generalize Go.Sort.insertionSort (ltOf cf) O.toArray a b=d' at *;have hsz:d'.size=O.length:=by simpa using hsp
 have hrow:(Go.Sort.flatK enc k d').toList=d'.toList.flatMap enc:=by
  have:=wY enc k hk d'.toList
  rwa [Array.toArray_toList]at this
 have hlen:(d'.toList.flatMap enc).length=O.length*k:=by rw[jw enc k hk];simp[hsz]
 have hgr:=zo (w:=w) (g:=g) (n:=q) (os:=os) (Go.Sort.flatK enc k d');refine⟨d'.toList,rfl,by simp,by simpa using hsz,⟨hlen,.inr ⟨g,cap,_,rfl,hbg,Dl _ hg,hnc,hcm,by simp[Go.Sort.putCells,hcs],?_⟩⟩,?_,?_⟩
 ·have:=Ah cur (d'.toList.flatMap enc) (by rw[hlen,hcs];exact hmul);rw[hlen]at this;rw[<-hrow]at this⊢;simpa using this
 ·exact hbel.trans ⟨hgr.os,hgr.tape,hgr.output,hgr.size,fun k hk=>hgr.block k (by omega) (by intro e;injection e with e;omega)⟩
 ·exact⟨hgr.os,hgr.tape,hgr.output,hgr.size,fun k hk hne=>hgr.block k hk (by intro e;injection e with e;exact hne e)⟩
theorem Vo(cf:α->α->Int)(hO:Go.Sort.SWO (ltOf cf))(O c:List α)(n:Nat)(hl:O.length=n)(hc:c.toArray=Go.Sort.insertionSort (ltOf cf) O.toArray 0 n):c.Perm O/\c.Pairwise (fun a b=>ltOf cf b a=false):=by
 obtain⟨⟨h1,_,h2⟩,h3⟩:=Go.Sort.insertionSort_holds (lt:=ltOf cf) hO O.toArray 0 n (Nat.zero_le _) (by simp[hl]);rw[<-hc]at h1 h2 h3;have hsz:c.length=n:=by rw[<-hl];simpa using h1
 constructor
 ·have e1:c.toArray.extract 0 n=c.toArray:=by rw[<-hsz];simp
  have e2:O.toArray.extract 0 n=O.toArray:=by rw[<-hl];simp
  rw[e1,e2]at h2;simpa using h2
 ·rw[List.pairwise_iff_getElem];intro i j hi hj hij;have:=h3 i j (Nat.zero_le _) hij (by omega);rw[getElem!_pos c.toArray i (by simpa using hi),getElem!_pos c.toArray j (by simpa using hj)]at this;simpa using this
theorem Rt(lt:α->α->Bool)(d:Array α)(a:Nat):Go.Sort.insertionSort lt d a a=d:=by
 unfold Go.Sort.insertionSort;rw[Go.Sort.insOuter,if_neg (by omega)]
end
def uJ(a b:Nat):Int:=if a<b then -1 else if b<a then 1 else 0
theorem Ru(a b:Nat)(w:World):Calls Tryz.prog 147 #[.int .i64 (a:Nat),.int .i64 (b:Nat)] w fun e w'=>e=.returned (.int .i64 (uJ a b))/\w'=w:=by
 have b1:decide ((a:Int)<(b:Int))=decide (a<b):=by by_cases h:a<b<;>simp[h]
 have b2:decide ((a:Int)>(b:Int))=decide (b<a):=by by_cases h:b<a<;>simp[h]
 have b2':decide ((b:Int)<(a:Int))=decide (b<a):=by by_cases h:b<a<;>simp[h]
 by_cases h1:a<b
 ·have HB:Hid (uJ a b = -1):=hid (by simp[uJ,h1]);have c1:decide (a<b)=true:=by simpa using h1
  clear h1;go_enter Tryz.func147,Tryz.ntmps147;go_wp2;go_ret;exact⟨by rw[HB.out];rfl,rfl⟩
 ·by_cases h2:b<a
  ·have HB:Hid (uJ a b=1):=hid (by simp[uJ,h1,h2]);have c1:decide (a<b)=false:=by simpa using h1
   have c2:decide (b<a)=true:=by simpa using h2
   clear h1 h2;go_enter Tryz.func147,Tryz.ntmps147;go_wp2;go_ret;exact⟨by rw[HB.out];rfl,rfl⟩
  ·have HB:Hid (uJ a b=0):=hid (by simp[uJ,h1,h2]);have c1:decide (a<b)=false:=by simpa using h1
   have c2:decide (b<a)=false:=by simpa using h2
   clear h1 h2;go_enter Tryz.func147,Tryz.ntmps147;go_wp2;go_ret;exact⟨by rw[HB.out];rfl,rfl⟩
def ZL:Go.Shelf.Ren:=⟨fun|20=>182|n=>n,fun|22=>76|24=>120|25=>193|3=>3|0=>0|4=>4|n=>n,fun|n=>n⟩
theorem LP:SlLaysF0.n20 Tryz.prog ZL:={
 mixed:=by kernel_rfl
 f20:=⟨Tryz.f182.name,by decide,Tryz.func182.trans (congrArg some (by kernel_rfl))⟩
 t0:=Tryz.underlying0
 a0:=Tryz.isAgg0
 z0:=Tryz.sizeOf0
 v0:=Tryz.zeroValue0
 t3:=Tryz.underlying3
 a3:=Tryz.isAgg3
 z3:=Tryz.sizeOf3
 v3:=Tryz.zeroValue3
 t4:=Tryz.underlying4
 a4:=Tryz.isAgg4
 z4:=Tryz.sizeOf4
 v4:=Tryz.zeroValue4
 t22:=Tryz.underlying76
 a22:=Tryz.isAgg76
 z22:=Tryz.sizeOf76
 v22:=Tryz.zeroValue76
 t25:=Tryz.underlying193
 a25:=Tryz.isAgg193
 z25:=Tryz.sizeOf193
 v25:=Tryz.zeroValue193 }
def BM(x y:T3):Int:=uJ x.1 y.1
theorem EZ(x y:T3):ltOf BM x y=decide (x.1<y.1):=by
 unfold ltOf BM uJ;by_cases h:x.1<y.1
 ·simp[h]
 ·by_cases h2:y.1<x.1<;>simp[h,h2]
theorem Rx:Go.Sort.SWO (ltOf BM) where
 irrefl x:=by rw[EZ];simp
 trans x y z h1 h2:=by rw[EZ]at *;simp at *;omega
 ntrans x y z h1 h2:=by rw[EZ]at *;simp at *;omega
theorem alX(W:World)(x y:T3):Calls Tryz.prog 146 #[.agg (t3 x).toArray,.agg (t3 y).toArray] W fun e w'=>e=.returned (.int .i64 (BM x y))/\∃q os',w'=Go.Sort.grow (W.drewN q) os':=by
 obtain⟨x1,x2,x3⟩:=x;obtain⟨y1,y2,y3⟩:=y;show Calls Tryz.prog _ #[.agg #[.int .i64 (x1:Nat),.int .i64 (x2:Nat),.int .i64 (x3:Nat)],.agg #[.int .i64 (y1:Nat),.int .i64 (y2:Nat),.int .i64 (y3:Nat)]] W fun e w'=>e=.returned (.int .i64 (uJ x1 y1))/\_;have hcall:=fun w=>Ru x1 y1 w;have HC:Hid _:=hcall;clear hcall;go_enter Tryz.func146,Tryz.ntmps146;go_wp2_with fail;refine(HC.out _).mono ?_;rintro e w1 ⟨rfl,rfl⟩;go_wp2_with fail;go_ret;exact⟨rfl,0,_,by rw[Go.Sort.alloc_eq_grow,Go.Sort.alloc_eq_grow,Go.Sort.grow_grow];rfl⟩
def E8(O:List T3)(g cap n base:Nat)(W0 w:World)(r:Ending)(w':World):Prop:=
 ∃c:List T3,r=.returned (.tuple #[])/\c.Perm O/\c.Pairwise (fun a b=>a.1<=b.1)/\w'.ownsRow base 120 3 (.slice (some ⟨g,0,none⟩) n cap) n (fB c)/\Below base W0 w'/\aj (fun q=>q=g) w w'
theorem Ef(O:List T3)(g cap n base a b:Nat)(hl:O.length=n)(hn:n<=1152921504606846976)(hab:a<=b)(hb:b<=n)(W0 w:World)(hown:w.ownsRow base 120 3 (.slice (some ⟨g,0,none⟩) n cap) n (fB O))(hbel:Below base W0 w):
  Calls Tryz.prog 182 #[.slice (some ⟨g,0,none⟩) n cap,.int .i64 a,.int .i64 b,.func (.func 146) #[] #[]] w fun r w'=>∃c:List T3,r=.returned (.tuple #[])/\c.toArray=Go.Sort.insertionSort (ltOf BM) O.toArray a b/\c.length=n/\w'.ownsRow base 120 3 (.slice (some ⟨g,0,none⟩) n cap) n (fB c)/\Below base W0 w'/\aj (fun q=>q=g) w w':=by
 have eg:∀args w,(callFunc 146 args).run Tryz.prog w=.ok (.enter 146 args) w:=enters_of Tryz.func146 (by kernel_rfl) rfl;exact Vm (α:=T3) LP 3 aew ZH t3 (fun _=>rfl) (fun x v hv=>by simp[t3]at hv;rcases hv with rfl|rfl|rfl<;>rfl) BM Rx 146 eg alX O g cap n base 120 a b hl hn hab hb W0 w hown hbel
theorem Ry(O:List T3)(g cap n base:Nat)(z:Int)(hz:z=(n:Int))(hl:O.length=n)(hn:n<=20)(W0 w:World)(hown:w.ownsRow base 120 3 (.slice (some ⟨g,0,none⟩) n cap) n (fB O))(hbel:Below base W0 w):
  Calls Tryz.prog 168 #[.slice (some ⟨g,0,none⟩) n cap,.int .i64 z,.func (.func 146) #[] #[]] w (E8 O g cap n base W0 w):=by
 have HO:=hid hown;have HB:=hid hbel;have HL:=hid hl;clear hown hbel;have hsrt:∀c:List T3,c.toArray=Go.Sort.insertionSort (ltOf BM) O.toArray 0 n->c.Perm O/\c.Pairwise (fun a b=>a.1<=b.1):=fun c hc=>by
  obtain⟨h1,h2⟩:=Vo BM Rx O c n hl hc;exact⟨h1,h2.imp (fun {a b} h=>by rw[EZ]at h;simpa using h)⟩
 have HS:Hid _:=hsrt;clear hsrt hl;by_cases hlt:n<20
 ·subst hz;have hcall:=Ef O g cap n base 0 n HL.out (by omega) (Nat.zero_le _) (Nat.le_refl _) W0 w HO.out HB.out;have HC:=hid hcall;clear hcall;have c1:decide ((20:Int)<=(n:Int))=false:=by simpa using (by omega:¬(20:Int)<=(n:Int))
  have c2:decide ((20:Int)<(n:Int))=false:=by simpa using (by omega:¬(20:Int)<(n:Int))
  go_enter Tryz.func168,Tryz.ntmps168;go_wp2_with fail;go_loopw [7,8] (fun z7 z8 wr=>z7=.int .i64 0/\z8=.int .i64 20/\w=wr) (fun _ _ _=>0)
  case atStart=>exact⟨rfl,rfl,rfl⟩
  case round=>
   obtain⟨rfl,rfl,rfl⟩:=hrel;go_wp2_with fail;refine HC.out.mono ?_;rintro e w1 ⟨c,rfl,hc,hcl,ho1,hb1,hg1⟩;have HE:Hid (E8 O g cap n base W0 w (.returned (.tuple #[])) w1):=hid ⟨c,rfl,(HS.out c hc).1,(HS.out c hc).2,ho1,hb1,hg1⟩;clear ho1 hb1 hg1 hc hcl;go_wp2_with fail;go_loopw [6] (fun z6 wr=>z6=.int .i64 20/\w1=wr) (fun _ _=>0)
   case atStart=>exact⟨rfl,rfl⟩
   case round=>
    obtain⟨rfl,rfl⟩:=hrel;go_wp2_with fail;go_end0;exact HE.out
 ·have h20:n=20:=by omega
  subst h20;have hz2:z=20:=by omega
  subst hz2;clear hz;have hcall:=Ef O g cap 20 base 0 20 HL.out (by omega) (Nat.zero_le _) (Nat.le_refl _) W0 w HO.out HB.out;have HC:=hid hcall;clear hcall;go_enter Tryz.func168,Tryz.ntmps168;go_wp2_with fail;go_loopw [7,8] (fun z7 z8 wr=>(z7=.int .i64 0/\z8=.int .i64 20/\w=wr)\/(z7=.int .i64 20/\z8=.int .i64 40/\∃c:List T3,c.toArray=Go.Sort.insertionSort (ltOf BM) O.toArray 0 20/\c.length=20/\wr.ownsRow base 120 3 (.slice (some ⟨g,0,none⟩) 20 cap) 20 (fB c)/\Below base W0 wr/\aj (fun q=>q=g) w wr)) (fun z7 _ _=>20-(intOf z7).toNat)
  case atStart=>exact .inl ⟨rfl,rfl,rfl⟩
  case round=>
   rcases hrel with ⟨rfl,rfl,rfl⟩|⟨rfl,rfl,c,hc,hcl,ho1,hb1,hg1⟩
   ·go_wp2_with fail;refine HC.out.mono ?_;rintro e w1 ⟨c,rfl,hc,hcl,ho1,hb1,hg1⟩;have HE:=hid hc;have qh:=hid ho1;have HB1:=hid hb1;have vY:=hid hg1;have iR:=hid hcl;clear ho1 hb1 hg1 hc hcl;go_wp2_with fail;go_roundw
    ·exact .inr ⟨rfl,by go_num,c,HE.out,iR.out,qh.out,HB1.out,vY.out⟩
    ·simp[intOf]
   ·have hcall:=Ef c g cap 20 base 20 20 hcl (by omega) (by omega) (Nat.le_refl _) W0 wr ho1 hb1;have HC2:=hid hcall;have HE:=hid hc;have vY:=hid hg1;clear hcall ho1 hb1 hg1 hc hcl;go_wp2_with fail;refine HC2.out.mono ?_;rintro e w1 ⟨c2,rfl,hc2,Kw,ho2,hb2,hg2⟩;rw[Rt]at hc2;have hcc:c2=c:=by simpa using hc2
    subst hcc;have HF:Hid (E8 O g cap 20 base W0 w (.returned (.tuple #[])) w1):=hid ⟨c2,rfl,(HS.out c2 HE.out).1,(HS.out c2 HE.out).2,ho2,hb2,vY.out.trans hg2⟩;clear ho2 hb2 hg2 hc2 Kw;go_wp2_with fail;go_loopw [6] (fun z6 wr=>z6=.int .i64 20/\w1=wr) (fun _ _=>0)
    case atStart=>exact⟨rfl,rfl⟩
    case round=>
     obtain⟨rfl,rfl⟩:=hrel;go_wp2_with fail;go_end0;exact HF.out
theorem Xz(O:List T3)(g cap n base:Nat)(hl:O.length=n)(hn:n<=20)(W0 w:World)(hown:w.ownsRow base 120 3 (.slice (some ⟨g,0,none⟩) n cap) n (fB O))(hbel:Below base W0 w):
  Calls Tryz.prog 145 #[.slice (some ⟨g,0,none⟩) n cap,.func (.func 146) #[] #[]] w (E8 O g cap n base W0 w):=by
 have hcall:=Ry O g cap n base n rfl hl hn W0 w hown hbel;have HC:=hid hcall;clear hcall hown hbel;go_enter Tryz.func145,Tryz.ntmps145;go_wp2_with fail;refine HC.out.mono ?_;rintro e w1 ⟨c,rfl,h⟩;have H:=hid h;clear h;go_wp2_with fail;go_end0;exact⟨c,rfl,H.out⟩
theorem XA(cp:Nat)(w:World):Calls Tryz.prog 145 #[.slice none 0 cp,.func (.func 146) #[] #[]] w fun e w'=>e=.returned (.tuple #[])/\w'=w:=by
 have hcall:=fun w=>AnyF.insertionSortCmpFunc_none LP none cp (.func (.func 146) #[] #[]) w;have HC:Hid _:=hcall;clear hcall;have hst:∀w,Calls Tryz.prog 168 #[.slice none 0 cp,.int .i64 0,.func (.func 146) #[] #[]] w fun e w'=>e=.returned (.tuple #[])/\w'=w:=by
  intro w;go_enter Tryz.func168,Tryz.ntmps168;go_wp2_with fail;go_loopw [7,8] (fun z7 z8 wr=>z7=.int .i64 0/\z8=.int .i64 20/\w=wr) (fun _ _ _=>0)
  case atStart=>exact⟨rfl,rfl,rfl⟩
  case round=>
   obtain⟨rfl,rfl,rfl⟩:=hrel;go_wp2_with fail;refine(HC.out w).mono ?_;rintro e w1 ⟨rfl,rfl⟩;go_wp2_with fail;go_loopw [6] (fun z6 wr=>z6=.int .i64 20/\w1=wr) (fun _ _=>0)
   case atStart=>exact⟨rfl,rfl⟩
   case round=>
    obtain⟨rfl,rfl⟩:=hrel;go_wp2_with fail;go_end0;exact⟨rfl,rfl⟩
 have HST:Hid _:=hst;clear hst;go_enter Tryz.func145,Tryz.ntmps145;go_wp2_with fail;refine(HST.out w).mono ?_;rintro e w1 ⟨rfl,rfl⟩;go_wp2_with fail;go_end0;exact⟨rfl,rfl⟩
def ZM:Go.Shelf.Ren:=⟨fun|20=>172|n=>n,fun|22=>83|24=>123|25=>174|3=>3|0=>0|4=>4|n=>n,fun|n=>n⟩
theorem LQ:SlLaysF0.n20 Tryz.prog ZM:={
 mixed:=by kernel_rfl
 f20:=⟨Tryz.f172.name,by decide,Tryz.func172.trans (congrArg some (by kernel_rfl))⟩
 t0:=Tryz.underlying0
 a0:=Tryz.isAgg0
 z0:=Tryz.sizeOf0
 v0:=Tryz.zeroValue0
 t3:=Tryz.underlying3
 a3:=Tryz.isAgg3
 z3:=Tryz.sizeOf3
 v3:=Tryz.zeroValue3
 t4:=Tryz.underlying4
 a4:=Tryz.isAgg4
 z4:=Tryz.sizeOf4
 v4:=Tryz.zeroValue4
 t22:=Tryz.underlying83
 a22:=Tryz.isAgg83
 z22:=Tryz.sizeOf83
 v22:=Tryz.zeroValue83
 t25:=Tryz.underlying174
 a25:=Tryz.isAgg174
 z25:=Tryz.sizeOf174
 v25:=Tryz.zeroValue174 }
def BN(x y:D2):Int:=uJ x.1 y.1
theorem Fa(x y:D2):ltOf BN x y=decide (x.1<y.1):=by
 unfold ltOf BN uJ;by_cases h:x.1<y.1
 ·simp[h]
 ·by_cases h2:y.1<x.1<;>simp[h,h2]
theorem Rz:Go.Sort.SWO (ltOf BN) where
 irrefl x:=by rw[Fa];simp
 trans x y z h1 h2:=by rw[Fa]at *;simp at *;omega
 ntrans x y z h1 h2:=by rw[Fa]at *;simp at *;omega
theorem alY(W:World)(x y:D2):Calls Tryz.prog 149 #[.agg (d2 x).toArray,.agg (d2 y).toArray] W fun e w'=>e=.returned (.int .i64 (BN x y))/\∃q os',w'=Go.Sort.grow (W.drewN q) os':=by
 obtain⟨x1,x2⟩:=x;obtain⟨y1,y2⟩:=y;show Calls Tryz.prog _ #[.agg #[.int .i64 (x1:Nat),.int .i64 (x2:Nat)],.agg #[.int .i64 (y1:Nat),.int .i64 (y2:Nat)]] W fun e w'=>e=.returned (.int .i64 (uJ x1 y1))/\_;have hcall:=fun w=>Ru x1 y1 w;have HC:Hid _:=hcall;clear hcall;go_enter Tryz.func149,Tryz.ntmps149;go_wp2_with fail;refine(HC.out _).mono ?_;rintro e w1 ⟨rfl,rfl⟩;go_wp2_with fail;go_ret;exact⟨rfl,0,_,by rw[Go.Sort.alloc_eq_grow,Go.Sort.alloc_eq_grow,Go.Sort.grow_grow];rfl⟩
def Fb(O:List D2)(g cap n base:Nat)(W0 w:World)(r:Ending)(w':World):Prop:=
 ∃c:List D2,r=.returned (.tuple #[])/\c.Perm O/\c.Pairwise (fun a b=>a.1<=b.1)/\w'.ownsRow base 123 2 (.slice (some ⟨g,0,none⟩) n cap) n (iE c)/\Below base W0 w'/\aj (fun q=>q=g) w w'
theorem Eh(O:List D2)(g cap n base a b:Nat)(hl:O.length=n)(hn:n<=1152921504606846976)(hab:a<=b)(hb:b<=n)(W0 w:World)(hown:w.ownsRow base 123 2 (.slice (some ⟨g,0,none⟩) n cap) n (iE O))(hbel:Below base W0 w):
  Calls Tryz.prog 172 #[.slice (some ⟨g,0,none⟩) n cap,.int .i64 a,.int .i64 b,.func (.func 149) #[] #[]] w fun r w'=>∃c:List D2,r=.returned (.tuple #[])/\c.toArray=Go.Sort.insertionSort (ltOf BN) O.toArray a b/\c.length=n/\w'.ownsRow base 123 2 (.slice (some ⟨g,0,none⟩) n cap) n (iE c)/\Below base W0 w'/\aj (fun q=>q=g) w w':=by
 have eg:∀args w,(callFunc 149 args).run Tryz.prog w=.ok (.enter 149 args) w:=enters_of Tryz.func149 (by kernel_rfl) rfl;exact Vm (α:=D2) LQ 2 V7 OT d2 (fun _=>rfl) (fun x v hv=>by simp[d2]at hv;rcases hv with rfl|rfl<;>rfl) BN Rz 149 eg alY O g cap n base 123 a b hl hn hab hb W0 w hown hbel
theorem RD(O:List D2)(g cap n base:Nat)(z:Int)(hz:z=(n:Int))(hl:O.length=n)(hn:n<=20)(W0 w:World)(hown:w.ownsRow base 123 2 (.slice (some ⟨g,0,none⟩) n cap) n (iE O))(hbel:Below base W0 w):
  Calls Tryz.prog 170 #[.slice (some ⟨g,0,none⟩) n cap,.int .i64 z,.func (.func 149) #[] #[]] w (Fb O g cap n base W0 w):=by
 have HO:=hid hown;have HB:=hid hbel;have HL:=hid hl;clear hown hbel;have hsrt:∀c:List D2,c.toArray=Go.Sort.insertionSort (ltOf BN) O.toArray 0 n->c.Perm O/\c.Pairwise (fun a b=>a.1<=b.1):=fun c hc=>by
  obtain⟨h1,h2⟩:=Vo BN Rz O c n hl hc;exact⟨h1,h2.imp (fun {a b} h=>by rw[Fa]at h;simpa using h)⟩
 have HS:Hid _:=hsrt;clear hsrt hl;by_cases hlt:n<20
 ·subst hz;have hcall:=Eh O g cap n base 0 n HL.out (by omega) (Nat.zero_le _) (Nat.le_refl _) W0 w HO.out HB.out;have HC:=hid hcall;clear hcall;have c1:decide ((20:Int)<=(n:Int))=false:=by simpa using (by omega:¬(20:Int)<=(n:Int))
  have c2:decide ((20:Int)<(n:Int))=false:=by simpa using (by omega:¬(20:Int)<(n:Int))
  go_enter Tryz.func170,Tryz.ntmps170;go_wp2_with fail;go_loopw [7,8] (fun z7 z8 wr=>z7=.int .i64 0/\z8=.int .i64 20/\w=wr) (fun _ _ _=>0)
  case atStart=>exact⟨rfl,rfl,rfl⟩
  case round=>
   obtain⟨rfl,rfl,rfl⟩:=hrel;go_wp2_with fail;refine HC.out.mono ?_;rintro e w1 ⟨c,rfl,hc,hcl,ho1,hb1,hg1⟩;have HE:Hid (Fb O g cap n base W0 w (.returned (.tuple #[])) w1):=hid ⟨c,rfl,(HS.out c hc).1,(HS.out c hc).2,ho1,hb1,hg1⟩;clear ho1 hb1 hg1 hc hcl;go_wp2_with fail;go_loopw [6] (fun z6 wr=>z6=.int .i64 20/\w1=wr) (fun _ _=>0)
   case atStart=>exact⟨rfl,rfl⟩
   case round=>
    obtain⟨rfl,rfl⟩:=hrel;go_wp2_with fail;go_end0;exact HE.out
 ·have h20:n=20:=by omega
  subst h20;have hz2:z=20:=by omega
  subst hz2;clear hz;have hcall:=Eh O g cap 20 base 0 20 HL.out (by omega) (Nat.zero_le _) (Nat.le_refl _) W0 w HO.out HB.out;have HC:=hid hcall;clear hcall;go_enter Tryz.func170,Tryz.ntmps170;go_wp2_with fail;go_loopw [7,8] (fun z7 z8 wr=>(z7=.int .i64 0/\z8=.int .i64 20/\w=wr)\/(z7=.int .i64 20/\z8=.int .i64 40/\∃c:List D2,c.toArray=Go.Sort.insertionSort (ltOf BN) O.toArray 0 20/\c.length=20/\wr.ownsRow base 123 2 (.slice (some ⟨g,0,none⟩) 20 cap) 20 (iE c)/\Below base W0 wr/\aj (fun q=>q=g) w wr)) (fun z7 _ _=>20-(intOf z7).toNat)
  case atStart=>exact .inl ⟨rfl,rfl,rfl⟩
  case round=>
   rcases hrel with ⟨rfl,rfl,rfl⟩|⟨rfl,rfl,c,hc,hcl,ho1,hb1,hg1⟩
   ·go_wp2_with fail;refine HC.out.mono ?_;rintro e w1 ⟨c,rfl,hc,hcl,ho1,hb1,hg1⟩;have HE:=hid hc;have qh:=hid ho1;have HB1:=hid hb1;have vY:=hid hg1;have iR:=hid hcl;clear ho1 hb1 hg1 hc hcl;go_wp2_with fail;go_roundw
    ·exact .inr ⟨rfl,by go_num,c,HE.out,iR.out,qh.out,HB1.out,vY.out⟩
    ·simp[intOf]
   ·have hcall:=Eh c g cap 20 base 20 20 hcl (by omega) (by omega) (Nat.le_refl _) W0 wr ho1 hb1;have HC2:=hid hcall;have HE:=hid hc;have vY:=hid hg1;clear hcall ho1 hb1 hg1 hc hcl;go_wp2_with fail;refine HC2.out.mono ?_;rintro e w1 ⟨c2,rfl,hc2,Kw,ho2,hb2,hg2⟩;rw[Rt]at hc2;have hcc:c2=c:=by simpa using hc2
    subst hcc;have HF:Hid (Fb O g cap 20 base W0 w (.returned (.tuple #[])) w1):=hid ⟨c2,rfl,(HS.out c2 HE.out).1,(HS.out c2 HE.out).2,ho2,hb2,vY.out.trans hg2⟩;clear ho2 hb2 hg2 hc2 Kw;go_wp2_with fail;go_loopw [6] (fun z6 wr=>z6=.int .i64 20/\w1=wr) (fun _ _=>0)
    case atStart=>exact⟨rfl,rfl⟩
    case round=>
     obtain⟨rfl,rfl⟩:=hrel;go_wp2_with fail;go_end0;exact HF.out
theorem XB(O:List D2)(g cap n base:Nat)(hl:O.length=n)(hn:n<=20)(W0 w:World)(hown:w.ownsRow base 123 2 (.slice (some ⟨g,0,none⟩) n cap) n (iE O))(hbel:Below base W0 w):
  Calls Tryz.prog 148 #[.slice (some ⟨g,0,none⟩) n cap,.func (.func 149) #[] #[]] w (Fb O g cap n base W0 w):=by
 have hcall:=RD O g cap n base n rfl hl hn W0 w hown hbel;have HC:=hid hcall;clear hcall hown hbel;go_enter Tryz.func148,Tryz.ntmps148;go_wp2_with fail;refine HC.out.mono ?_;rintro e w1 ⟨c,rfl,h⟩;have H:=hid h;clear h;go_wp2_with fail;go_end0;exact⟨c,rfl,H.out⟩
theorem XC(cp:Nat)(w:World):Calls Tryz.prog 148 #[.slice none 0 cp,.func (.func 149) #[] #[]] w fun e w'=>e=.returned (.tuple #[])/\w'=w:=by
 have hcall:=fun w=>AnyF.insertionSortCmpFunc_none LQ none cp (.func (.func 149) #[] #[]) w;have HC:Hid _:=hcall;clear hcall;have hst:∀w,Calls Tryz.prog 170 #[.slice none 0 cp,.int .i64 0,.func (.func 149) #[] #[]] w fun e w'=>e=.returned (.tuple #[])/\w'=w:=by
  intro w;go_enter Tryz.func170,Tryz.ntmps170;go_wp2_with fail;go_loopw [7,8] (fun z7 z8 wr=>z7=.int .i64 0/\z8=.int .i64 20/\w=wr) (fun _ _ _=>0)
  case atStart=>exact⟨rfl,rfl,rfl⟩
  case round=>
   obtain⟨rfl,rfl,rfl⟩:=hrel;go_wp2_with fail;refine(HC.out w).mono ?_;rintro e w1 ⟨rfl,rfl⟩;go_wp2_with fail;go_loopw [6] (fun z6 wr=>z6=.int .i64 20/\w1=wr) (fun _ _=>0)
   case atStart=>exact⟨rfl,rfl⟩
   case round=>
    obtain⟨rfl,rfl⟩:=hrel;go_wp2_with fail;go_end0;exact⟨rfl,rfl⟩
 have HST:Hid _:=hst;clear hst;go_enter Tryz.func148,Tryz.ntmps148;go_wp2_with fail;refine(HST.out w).mono ?_;rintro e w1 ⟨rfl,rfl⟩;go_wp2_with fail;go_end0;exact⟨rfl,rfl⟩
end
section
open Go.RowKit
structure An where
 tx:List T3
 dr:List D2
 cm:Nat
def Vp(tx:List T3)(t:Nat):Option Nat:=tx.findIdx? fun x=>decide (x.1=t)
def yN(tx:List T3)(t:Nat):Nat:=match Vp tx t with|some k=>k|none=>tx.length
def tY(tx:List T3)(t:Nat):List T3:=match Vp tx t with|some _=>tx|none=>tx++[(t,0,1)]
def ZN(kd st:Nat):Nat:=if kd=4 then 2 else if kd=5 then 3 else st
def anT(tx:List T3)(t aN kd:Nat):List T3:=
 if kd=6 then(tY tx t).eraseIdx (yN tx t)else(tY tx t).set (yN tx t) (t,aN,ZN kd ((tY tx t).getD (yN tx t) (0,0,0)).2.2)
def Gj(dr:List D2)(p:Nat):Option Nat:=dr.findIdx? fun x=>decide (x.1=p)
def LU(dr:List D2)(p aN kd:Nat):List D2:=if (kd=2\/kd=3)/\Gj dr p=none then dr++[(p,aN)] else dr
def Jq(cm kd:Nat):Nat:=if kd=4 then cm+1 else cm
def An.step(a:An)(x:Nat×Rc):An:=⟨anT a.tx x.2.aV x.1 x.2.kind,LU a.dr x.2.page x.1 x.2.kind,Jq a.cm x.2.kind⟩
def bV(l:List (Nat×Rc)):An:=l.foldl An.step ⟨[],[],0⟩
theorem ZO(tx:List T3)(t:Nat):∃l s,(tY tx t)[yN tx t]? = some (t,l,s)/\yN tx t<(tY tx t).length/\(tY tx t).length<=tx.length+1/\tx.length<=(tY tx t).length:=by
 unfold tY yN;cases h:Vp tx t with
 | none=>exact⟨0,1,by simp,by simp,by simp,by simp⟩
 | some k=>
  obtain⟨h1,h2,_⟩:=List.findIdx?_eq_some_iff_getElem.1 h;have h3:tx[k].1=t:=by simpa using h2
  exact⟨tx[k].2.1,tx[k].2.2,by simp[List.getElem?_eq_getElem h1,<-h3],h1,by simp,by simp⟩
theorem Fg(L:List T3)(i:Nat)(a b c a' b' c':Nat)(h:L[i]? = some (a,b,c))(j:Nat)(hj:j<3)(v:Value)(hs:(t3 (a,b,c)).set j v=t3 (a',b',c')):(fB L).set (i*3+j) v=fB (L.set i (a',b',c')):=by
 induction L generalizing i with
 | nil=>cases h
 | cons x r ih=>
  unfold fB;cases i with
  | zero=>
   obtain rfl:=Option.some.inj h;rw[List.flatMap_cons,List.set_cons_zero,List.flatMap_cons,Nat.zero_mul,Nat.zero_add,List.set_append_left _ _ (by show j<3;exact hj),hs]
  | succ i=>
   rw[List.flatMap_cons,List.set_cons_succ,List.flatMap_cons,List.set_append_right _ _ (by show 3<=_;omega)];have:=ih i h;unfold fB at this;rw[show(i+1)*3+j-(t3 x).length=i*3+j by show _-3=_;omega,this]
theorem BO{w:World}{base e K n:Nat}{v:Value}{xs:List Value}(h:w.ownsRow base e K v n xs):(v=.slice none 0 0/\n=0)\/∃g cap,v=.slice (some ⟨g,0,none⟩) n cap:=by
 rcases h.2 with ⟨h1,h2⟩|⟨g,cap,_,h1,_⟩
 ·exact .inl ⟨h1,h2⟩
 ·exact .inr ⟨g,cap,h1⟩
structure pU(w:World)(G:Nat)(v2 v3:Value)(tx:List T3)(dr:List D2)(wr:World):Prop where
 t:wr.ownsRow G 120 3 v2 tx.length (fB tx)
 d:wr.ownsRow G 123 2 v3 dr.length (iE dr)
 ne:∀q,v2.ownBlock=some q->v3.ownBlock≠some q
 b:Below G w wr
 eq:w.heap.size=G
theorem pU.gs{w wr:World}{G:Nat}{v2 v3:Value}{tx:List T3}{dr:List D2}(h:pU w G v2 v3 tx dr wr):G<=wr.heap.size:=h.eq▸h.b.size
structure wS(w:World)(G:Nat)(v2 v3:Value)(tx:List T3)(dr:List D2)(g5 g6:Nat)(L5 L6:List Value)(wr:World):Prop extends pU w G v2 v3 tx dr wr where
 bx:Box wr g5 L5
 br:Box wr g6 L6
 nx:∀q,v2.ownBlock=some q\/v3.ownBlock=some q->q≠g5/\q≠g6
 gx:G<=g5/\G<=g6
section
variable{w wr w':World}{G g5 g6:Nat}{v2 v3 v2' v3':Value}{tx DK:List T3}{dr dr':List D2}{L5 L6:List Value}
theorem pU.below(h:pU w G v2 v3 tx dr wr)(hb:Below wr.heap.size wr w'):pU w G v2 v3 tx dr w':=
 ⟨own_below h.t hb (fun q e=>(h.t.lt q e).2),own_below h.d hb (fun q e=>(h.d.lt q e).2),h.ne,h.b.trans (hb.mono h.gs),h.eq⟩
theorem wS.below(h:wS w G v2 v3 tx dr g5 g6 L5 L6 wr)(hb:Below wr.heap.size wr w'):wS w G v2 v3 tx dr g5 g6 L5 L6 w':=
 ⟨h.topU.below hb,h.bx.below hb (Nat.le_refl _),h.br.below hb (Nat.le_refl _),h.nx,h.gx⟩
theorem wS.RF(h:wS w G v2 v3 tx dr g5 g6 L5 L6 wr)(hr:w'.ownsRow G 120 3 v2' DK.length (fB DK))(hg:aj (fun q=>v2.ownBlock=some q) wr w')(hn:∀q,v2'.ownBlock=some q->v2.ownBlock=some q\/wr.heap.size<=q):wS w G v2' v3 DK dr g5 g6 L5 L6 w':=by
 have hv:∀q,v2.ownBlock=some q->G<=q:=fun q e=>(h.t.lt q e).1;refine⟨⟨hr,aI h.d hg (fun q e e2=>h.ne q e2 e),fun q e e2=>?_,h.b.trans (hg.below fun k hk=>⟨Nat.lt_of_lt_of_le hk h.gs,fun e=>by have:=hv k e;omega⟩),h.eq⟩,h.bx.aH hg (fun e=>(h.nx _ (.inl e)).1 rfl),h.br.aH hg (fun e=>(h.nx _ (.inl e)).2 rfl),fun q e=>?_,h.gx⟩
 ·rcases hn q e with h1|h1
  ·exact h.ne q h1 e2
  ·have:=(h.d.lt q e2).2;omega
 ·rcases e with e|e
  ·rcases hn q e with h1|h1
   ·exact h.nx q (.inl h1)
   ·have:=h.bx.lt;have:=h.br.lt;exact⟨by omega,by omega⟩
  ·exact h.nx q (.inr e)
theorem wS.aqj(h:wS w G v2 v3 tx dr g5 g6 L5 L6 wr)(hr:w'.ownsRow G 123 2 v3' dr'.length (iE dr'))(hg:aj (fun q=>v3.ownBlock=some q) wr w')(hn:∀q,v3'.ownBlock=some q->v3.ownBlock=some q\/wr.heap.size<=q):wS w G v2 v3' tx dr' g5 g6 L5 L6 w':=by
 have hv:∀q,v3.ownBlock=some q->G<=q:=fun q e=>(h.d.lt q e).1;refine⟨⟨aI h.t hg (fun q e e2=>h.ne q e e2),hr,fun q e e2=>?_,h.b.trans (hg.below fun k hk=>⟨Nat.lt_of_lt_of_le hk h.gs,fun e=>by have:=hv k e;omega⟩),h.eq⟩,h.bx.aH hg (fun e=>(h.nx _ (.inr e)).1 rfl),h.br.aH hg (fun e=>(h.nx _ (.inr e)).2 rfl),fun q e=>?_,h.gx⟩
 ·rcases hn q e2 with h1|h1
  ·exact h.ne q e h1
  ·have:=(h.t.lt q e).2;omega
 ·rcases e with e|e
  ·exact h.nx q (.inl e)
  ·rcases hn q e with h1|h1
   ·exact h.nx q (.inr h1)
   ·have:=h.bx.lt;have:=h.br.lt;exact⟨by omega,by omega⟩
end
theorem XD(ao:Option Addr)(n cap:Nat)(w:World)(h:n<=cap):Calls Tryz.prog 71 #[.slice ao n cap] w fun e w'=>e=.returned (.slice ao n n)/\w=w':=by
 have hb:decide (n<=cap)=true:=by simpa using h
 go_enter Tryz.func71,Tryz.ntmps71;go_wp2_with fail;go_ret;exact⟨rfl,rfl⟩
theorem Uj (w:World) (EL:List Le) (n B0:Nat) (vl:Value) (hn:EL.length=n) (hn2:n<=1000000) (hown:w.ownsRow B0 87 12 vl n (fA EL)) (hr:∀e∈EL,e.r.kind≠7/\1<=e.r.aV/\(∃a n c,e.vb=.slice a n c)/\(∃a n c,e.va=.slice a n c))
  (l:List (Nat×Rc)) (hll:EL.map (fun e=>(e.aN,e.r))=l) (ht:(bV l).tx.length<=20) (hd:(bV l).dr.length<=20):
  Calls Tryz.prog 117 #[vl] w fun r w'=>∃v2 v3 T D,r=.returned (.tuple #[v2,v3,.int .i64 ((bV l).cm:Nat)])/\T.Perm (bV l).tx/\T.Pairwise (fun a b=>a.1<=b.1)/\D.Perm (bV l).dr/\D.Pairwise (fun a b=>a.1<=b.1)/\Reads 3 w' v2 T.length (fB T)/\Reads 2 w' v3 D.length (iE D)/\(∀q,v2.ownBlock=some q\/v3.ownBlock=some q->w.heap.size<=q/\q<w'.heap.size)/\Below w.heap.size w w':=by
 obtain⟨G,hG⟩:∃x,w.heap.size=x:=⟨_,rfl⟩
 have HG:=hid hG;have HOWN:=hid hown;have HR:=hid hr;have nS:=hid hll;have HN:=hid hn;have HT:=hid ht;have HD:=hid hd;have aey:∀k,k<=n->(bV (l.take k)).tx.length<=k/\(bV (l.take k)).dr.length<=k/\(bV (l.take k)).cm<=k:=by
  intro k
  induction k with
  | zero=>intro _;simp[bV]
  | succ k ih=>
   intro hk;have hkl:k<l.length:=by rw[<-hll,List.length_map];omega
   obtain⟨i1,i2,i3⟩:=ih (by omega);rw[List.take_succ_eq_append_getElem hkl];unfold bV at i1 i2 i3⊢;rw[List.foldl_append];generalize List.foldl An.step ⟨[],[],0⟩ (l.take k)=a at *;obtain⟨_,_,h1,h2,h3,_⟩:=ZO a.tx l[k].2.aV;refine⟨?_,?_,?_⟩
   ·show(anT _ _ _ _).length<=_;unfold anT;split
    ·rw[List.length_eraseIdx];split<;>omega
    ·rw[List.length_set];omega
   ·show(LU _ _ _ _).length<=_;unfold LU;split
    ·rw[List.length_append];simp;omega
    ·omega
   ·show Jq _ _<=_;unfold Jq;split<;>omega
 have alZ:Hid _:=aey;have hstep:∀k e,EL[k]? = some e->bV (l.take (k+1))=(bV (l.take k)).step (e.aN,e.r):=by
  intro k e he;have h1:l[k]? = some (e.aN,e.r):=by rw[<-hll,List.getElem?_map,he];rfl
  obtain⟨h2,h3⟩:=List.getElem?_eq_some_iff.1 h1;rw[List.take_succ_eq_append_getElem h2];unfold bV;rw[List.foldl_append,h3];rfl
 have sS:Hid _:=hstep;have hlt:l.take n=l:=List.take_of_length_le (by rw[<-hll,List.length_map];omega);have jH:=hid hlt;obtain⟨al,cl,hvl⟩:=bF hown;have pX:=hid hvl;subst hvl;clear hown hr hll hn ht hd aey hstep hlt;go_enter Tryz.func117,Tryz.ntmps117;go_wp2_with fail;go_loopw [2,3,4,6,7,8,11] (fun z2 z3 z4 z6 z7 z8 i wr=>∃k:Nat,k<=n/\i=.int .i64 (k:Nat)/\z4=.int .i64 ((bV (l.take k)).cm:Nat)/\pU w G z2 z3 (bV (l.take k)).tx (bV (l.take k)).dr wr) (fun _ _ _ _ _ _ i _=>n-(intOf i).toNat)
 case atStart=>exact⟨0,Nat.zero_le _,rfl,rfl,⟨World.ownsRow_nil _ _ _ _,World.ownsRow_nil _ _ _ _,(fun q e=>by cases e),Below.refl _ _,HG.out⟩⟩
 case round=>
  obtain⟨k,hk,rfl,rfl,hat⟩:=hrel;have HAT:=hid hat;obtain⟨tx,htx⟩:∃x,(bV (l.take k)).tx=x:=⟨_,rfl⟩
  obtain⟨dr,hdr⟩:∃x,(bV (l.take k)).dr=x:=⟨_,rfl⟩
  obtain⟨cm,hcm⟩:∃x,(bV (l.take k)).cm=x:=⟨_,rfl⟩
  have hle:=alZ.out k hk;rw[htx,hdr,hcm]at hle;obtain⟨hle1,hle2,hle3⟩:=hle;rw[htx,hdr]at HAT;rw[hcm];have UD:=hid htx;have HDR:=hid hdr;have HCM:=hid hcm;clear hat htx hdr hcm;by_cases hkn:k<n
  ·obtain ⟨e,he⟩:∃e,EL[k]? = some e:=⟨_,List.getElem?_eq_getElem (by rw[HN.out];exact hkn)⟩
   have hrow:=own_below HOWN.out HAT.out.b (fun q e=>by rw[<-HG.out];exact(HOWN.out.lt q e).2);obtain⟨g,Qi,e1,_,Lu⟩:=dV hrow (by omega);injection e1 with e3 e4 e5;subst e3;subst e5;have hst:=sS.out k e he;have hrr:=HR.out e (List.mem_of_getElem? he);obtain⟨aN,⟨kd,tn,pv,nx,pp,of,dM,LV,lQ,dirty,cn⟩,vb,va⟩:=e;have hcl:∀j u,(eG ⟨aN,⟨kd,tn,pv,nx,pp,of,dM,LV,lQ,dirty,cn⟩,vb,va⟩)[j]? = some u->wr.cell? ⟨g,k*12+j,none⟩=some u:=fun j u hu=>by
    have h1:=dh hrow (k*12+j) u (oK EL k _ he j u hu);rw[Addr.add_lit,Nat.zero_add]at h1;exact h1
   have z0:=hcl 0 _ rfl;rw[Nat.add_zero]at z0;have z1:=hcl 1 _ rfl;have z2':=hcl 2 _ rfl;have z3':=hcl 3 _ rfl;have z4:=hcl 4 _ rfl;have z5:=hcl 5 _ rfl;have ZP:=hcl 6 _ rfl;have z7':=hcl 7 _ rfl;have ZQ:=hcl 8 _ rfl;have z9:=hcl 9 _ rfl;have z10:=hcl 10 _ rfl;have z11:=hcl 11 _ rfl;simp only at hrr;obtain⟨hk7,htn,⟨ab,nb,cb,rfl⟩,aa,na,ca,rfl⟩:=hrr;simp only at z0 z1 z2' z3' z4 z5 ZP z7' ZQ z9 z10 z11;have HST:Hid (bV (l.take (k+1))=⟨anT tx tn aN kd,LU dr pp aN kd,Jq cm kd⟩):=hid (by rw[hst];unfold An.step;rw[UD.out,HDR.out,HCM.out]);clear hst hcl he hrow;go_upto_region 5 with (fail);have bx0:=Box.new wr #[.int .i64 (aN:Nat),.int .i64 (kd:Nat),.int .i64 (tn:Nat),.int .i64 (pv:Nat),.int .i64 (nx:Nat),.int .i64 (pp:Nat),.int .i64 (of:Nat),.slice ab nb cb,.slice aa na ca,.slice none 0 0,.slice none 0 0,.int .i64 (cn:Nat)] 87 rfl;have bx1:=bx0.alloc (.cells #[.int .i64 (kd:Nat),.int .i64 (tn:Nat),.int .i64 (pv:Nat),.int .i64 (nx:Nat),.int .i64 (pp:Nat),.int .i64 (of:Nat),.slice ab nb cb,.slice aa na ca,.slice none 0 0,.slice none 0 0,.int .i64 (cn:Nat)] 85);have br1:=Box.new (wr.alloc (.cells #[.int .i64 (aN:Nat),.int .i64 (kd:Nat),.int .i64 (tn:Nat),.int .i64 (pv:Nat),.int .i64 (nx:Nat),.int .i64 (pp:Nat),.int .i64 (of:Nat),.slice ab nb cb,.slice aa na ca,.slice none 0 0,.slice none 0 0,.int .i64 (cn:Nat)] 87)) #[.int .i64 (kd:Nat),.int .i64 (tn:Nat),.int .i64 (pv:Nat),.int .i64 (nx:Nat),.int .i64 (pp:Nat),.int .i64 (of:Nat),.slice ab nb cb,.slice aa na ca,.slice none 0 0,.slice none 0 0,.int .i64 (cn:Nat)] 85 rfl
   have hb2:=((Below.refl wr.heap.size wr).alloc (Nat.le_refl _) (.cells #[.int .i64 (aN:Nat),.int .i64 (kd:Nat),.int .i64 (tn:Nat),.int .i64 (pv:Nat),.int .i64 (nx:Nat),.int .i64 (pp:Nat),.int .i64 (of:Nat),.slice ab nb cb,.slice aa na ca,.slice none 0 0,.slice none 0 0,.int .i64 (cn:Nat)] 87)).alloc (by simp) (.cells #[.int .i64 (kd:Nat),.int .i64 (tn:Nat),.int .i64 (pv:Nat),.int .i64 (nx:Nat),.int .i64 (pp:Nat),.int .i64 (of:Nat),.slice ab nb cb,.slice aa na ca,.slice none 0 0,.slice none 0 0,.int .i64 (cn:Nat)] 85);obtain⟨w1,hw1⟩:∃x,(wr.alloc (.cells #[.int .i64 (aN:Nat),.int .i64 (kd:Nat),.int .i64 (tn:Nat),.int .i64 (pv:Nat),.int .i64 (nx:Nat),.int .i64 (pp:Nat),.int .i64 (of:Nat),.slice ab nb cb,.slice aa na ca,.slice none 0 0,.slice none 0 0,.int .i64 (cn:Nat)] 87)).alloc (.cells #[.int .i64 (kd:Nat),.int .i64 (tn:Nat),.int .i64 (pv:Nat),.int .i64 (nx:Nat),.int .i64 (pp:Nat),.int .i64 (of:Nat),.slice ab nb cb,.slice aa na ca,.slice none 0 0,.slice none 0 0,.int .i64 (cn:Nat)] 85)=x:=⟨_,rfl⟩
   obtain⟨g5,hg5⟩:∃x,wr.heap.size=x:=⟨_,rfl⟩
   have Ar:(wr.alloc (.cells #[.int .i64 (aN:Nat),.int .i64 (kd:Nat),.int .i64 (tn:Nat),.int .i64 (pv:Nat),.int .i64 (nx:Nat),.int .i64 (pp:Nat),.int .i64 (of:Nat),.slice ab nb cb,.slice aa na ca,.slice none 0 0,.slice none 0 0,.int .i64 (cn:Nat)] 87)).heap.size=g5+1:=by rw[<-hg5];simp
   obtain⟨g6,hgg⟩:∃x,g5+1=x:=⟨_,rfl⟩
   rw[Ar,hgg]at br1;rw[hg5]at bx1;rw[hw1]at bx1 br1 hb2
   try rw[hw1]
   try rw[hg5]
   try rw[hgg]
   have HR1:Hid (wS w G u2 u3 tx dr g5 g6 [.int .i64 (aN:Nat),.int .i64 (kd:Nat),.int .i64 (tn:Nat),.int .i64 (pv:Nat),.int .i64 (nx:Nat),.int .i64 (pp:Nat),.int .i64 (of:Nat),.slice ab nb cb,.slice aa na ca,.slice none 0 0,.slice none 0 0,.int .i64 (cn:Nat)] [.int .i64 (kd:Nat),.int .i64 (tn:Nat),.int .i64 (pv:Nat),.int .i64 (nx:Nat),.int .i64 (pp:Nat),.int .i64 (of:Nat),.slice ab nb cb,.slice aa na ca,.slice none 0 0,.slice none 0 0,.int .i64 (cn:Nat)] w1):=hid ⟨HAT.out.below hb2,bx1,br1,fun q e=>by
    rcases e with e|e
    ·have:=(HAT.out.t.lt q e).2;exact⟨by omega,by omega⟩
    ·have:=(HAT.out.d.lt q e).2;exact⟨by omega,by omega⟩,by have:=HAT.out.b.size;rw[HG.out]at this;exact⟨by omega,by omega⟩⟩
   clear bx0 bx1 br1 hb2 Ar hw1 z0 z1 z2' z3' z4 z5 ZP z7' ZQ z9 z10 z11 HAT hg5 hgg;have b7:((kd:Int)==7)=false:=by simpa using (by omega:¬(kd:Int)=7)
   have b7':decide ((kd:Int)=7)=false:=by simpa using (by omega:¬(kd:Int)=7)
   obtain⟨c0,hc0⟩:∃x,Jq cm kd=x:=⟨_,rfl⟩
   have FD:=hid hc0;clear hc0;have br:=HR1.out.br.cell 0 _ rfl;have brl:=HR1.out.br.lt;go_upto_region 7 with (fail);go_upto_if 30 with (fail);go_cut [4] (fun z wx=>z=.int .i64 (c0:Nat)/\wx=w1)
   case first=>
    by_cases h4:kd=4
    ·subst h4;obtain rfl:cm+1=c0:=by rw[<-FD.out];simp[Jq]
     go_wp2_with fail;go_meet;exact⟨by go_num,rfl⟩
    ·have b4:((kd:Int)==4)=false:=by simpa using (by omega:¬(kd:Int)=4)
     have b4':decide ((kd:Int)=4)=false:=by simpa using (by omega:¬(kd:Int)=4)
     obtain rfl:cm=c0:=by rw[<-FD.out];simp[Jq,h4]
     go_wp2_with fail;go_meet;exact⟨rfl,rfl⟩
   case rest=>
    obtain⟨rfl,rfl⟩:=hcut;obtain⟨CO,Ky⟩:∃x,LU dr pp aN kd=x:=⟨_,rfl⟩
    have HD2:=hid Ky;have hdl:CO.length<=k+1:=by rw[<-Ky];unfold LU;split<;>(try rw[List.length_append])<;>(try show _+1<=_)<;>omega
    clear Ky;obtain⟨bd,hbd⟩:∃x,decide ((kd=2\/kd=3)/\Gj dr pp=none)=x:=⟨_,rfl⟩
    have Az:=hid hbd;clear hbd;go_upto_region 9 with (fail);go_cut [41] (fun z wx=>z=.bool bd/\wS w G u2 u3 tx dr g5 g6 [.int .i64 (aN:Nat),.int .i64 (kd:Nat),.int .i64 (tn:Nat),.int .i64 (pv:Nat),.int .i64 (nx:Nat),.int .i64 (pp:Nat),.int .i64 (of:Nat),.slice ab nb cb,.slice aa na ca,.slice none 0 0,.slice none 0 0,.int .i64 (cn:Nat)] [.int .i64 (kd:Nat),.int .i64 (tn:Nat),.int .i64 (pv:Nat),.int .i64 (nx:Nat),.int .i64 (pp:Nat),.int .i64 (of:Nat),.slice ab nb cb,.slice aa na ca,.slice none 0 0,.slice none 0 0,.int .i64 (cn:Nat)] wx)
    case first=>
     have y0:=HR1.out.br.cell 0 _ rfl;have y1:=HR1.out.br.cell 1 _ rfl;have y2:=HR1.out.br.cell 2 _ rfl;have y3:=HR1.out.br.cell 3 _ rfl;have y4:=HR1.out.br.cell 4 _ rfl;have y5:=HR1.out.br.cell 5 _ rfl;have y6:=HR1.out.br.cell 6 _ rfl;have y7:=HR1.out.br.cell 7 _ rfl;have y8:=HR1.out.br.cell 8 _ rfl;have y9:=HR1.out.br.cell 9 _ rfl;have IW:=HR1.out.br.cell 10 _ rfl;have hca:=fun w=>Xy [.int .i64 (kd:Nat),.int .i64 (tn:Nat),.int .i64 (pv:Nat),.int .i64 (nx:Nat),.int .i64 (pp:Nat),.int .i64 (of:Nat),.slice ab nb cb,.slice aa na ca,.slice none 0 0,.slice none 0 0,.int .i64 (cn:Nat)] kd rfl w _ _ _ _ _ _ _ _ _ _ rfl;have cO:Hid _:=hca;clear hca;by_cases hch:kd=2\/kd=3
     ·have hcb:(decide (kd=2) || decide (kd=3))=true:=by simpa using hch
      go_wp2_with fail;refine(cO.out _).mono ?_;rintro e wa ⟨rfl,hba⟩;rw[hcb];have qg:=hid (HR1.out.below hba);clear y0 y1 y2 y3 y4 y5 y6 y7 y8 y9 IW hba cO;have y4:=qg.out.br.cell 4 _ rfl;have yl:=qg.out.br.lt;have hat:=Vl dr dr.length pp rfl (by omega) wa u3 (Reads.aY qg.out.d);have HAT:=hid hat;clear hat;go_wp2_with fail;refine HAT.out.mono ?_;rintro e wb ⟨rfl,hbb⟩;have fK:=hid (qg.out.below hbb);clear hbb y4 yl HAT;cases hf:Gj dr pp with
      | none=>
       have HE:Hid (bd=true):=hid (by rw[<-Az.out];simp[hch,hf]);unfold Gj at hf;rw[hf];simp only[jh];clear hf;go_wp2_with fail;go_meet;exact⟨by rw[HE.out],fK.out⟩
      | some j=>
       have HE:Hid (bd=false):=hid (by rw[<-Az.out];simp[hf]);unfold Gj at hf;rw[hf];simp only[jh];have bj:decide ((j:Int)<0)=false:=by simp
       clear hf;go_wp2_with fail;go_meet;exact⟨by rw[HE.out],fK.out⟩
     ·have hcb:(decide (kd=2) || decide (kd=3))=false:=by simpa using hch
      have HE:Hid (bd=false):=hid (by rw[<-Az.out];simp[hch]);go_wp2_with fail;refine(cO.out _).mono ?_;rintro e wa ⟨rfl,hba⟩;rw[hcb];have qg:=hid (HR1.out.below hba);clear y0 y1 y2 y3 y4 y5 y6 y7 y8 y9 IW hba cO;go_wp2_with fail;go_meet;exact⟨by rw[HE.out],qg.out⟩
    case rest=>
     obtain⟨rfl,hrb⟩:=hcut;have fK:=hid hrb;clear hrb HR1;go_upto_if 41 with (fail);go_cut [3] (fun z wx=>wS w G u2 z tx CO g5 g6 [.int .i64 (aN:Nat),.int .i64 (kd:Nat),.int .i64 (tn:Nat),.int .i64 (pv:Nat),.int .i64 (nx:Nat),.int .i64 (pp:Nat),.int .i64 (of:Nat),.slice ab nb cb,.slice aa na ca,.slice none 0 0,.slice none 0 0,.int .i64 (cn:Nat)] [.int .i64 (kd:Nat),.int .i64 (tn:Nat),.int .i64 (pv:Nat),.int .i64 (nx:Nat),.int .i64 (pp:Nat),.int .i64 (of:Nat),.slice ab nb cb,.slice aa na ca,.slice none 0 0,.slice none 0 0,.int .i64 (cn:Nat)] wx)
     case first=>
      cases bd with
      | true=>
       have hbd:=Az.out;simp only[decide_eq_true_eq]at hbd;have HE:Hid (CO=dr++[(pp,aN)]):=hid (by rw[<-HD2.out];unfold LU;rw[if_pos hbd]);clear hbd;have y4:=fK.out.br.cell 4 _ rfl;have yl:=fK.out.br.lt;have x0:=fK.out.bx.cell 0 _ rfl;have xl:=fK.out.bx.lt;go_wp2_with (at_builtin;refine bI adn (.tmp 42) (.tmp 48) rfl rfl rfl (fK.out.d.alloc _) rfl (Reads.lit rfl rfl (Nat.le_refl _) rfl) (by intro u hu;simp at hu;rcases hu with rfl|rfl<;>rfl) (by omega) (by omega) (by have:=fK.out.gs;simp;omega) ?_;intro ob cq wq ho2 hg2 hn2);have hal:Below wc.heap.size wc (wc.alloc (.cells #[.int .i64 (pp:Nat),.int .i64 (aN:Nat)] 123)):=(Below.refl _ _).alloc (Nat.le_refl _) _;have HF:Hid (wS w G u2 (.slice ob (dr.length+1) cq) tx CO g5 g6 [.int .i64 (aN:Nat),.int .i64 (kd:Nat),.int .i64 (tn:Nat),.int .i64 (pv:Nat),.int .i64 (nx:Nat),.int .i64 (pp:Nat),.int .i64 (of:Nat),.slice ab nb cb,.slice aa na ca,.slice none 0 0,.slice none 0 0,.int .i64 (cn:Nat)] [.int .i64 (kd:Nat),.int .i64 (tn:Nat),.int .i64 (pv:Nat),.int .i64 (nx:Nat),.int .i64 (pp:Nat),.int .i64 (of:Nat),.slice ab nb cb,.slice aa na ca,.slice none 0 0,.slice none 0 0,.int .i64 (cn:Nat)] wq):=hid ((fK.out.below hal).aqj (by
        rw[HE.out,List.length_append];have e1:iE (dr++[(pp,aN)])=iE dr++[.int .i64 (pp:Nat),.int .i64 (aN:Nat)]:=by simp[iE,d2]
        rw[e1];exact ho2) hg2 hn2)
       clear ho2 hg2 hn2 hal;go_wp2_with fail;go_meet;exact HF.out
      | false=>
       have hbd:=Az.out;simp only[decide_eq_false_iff_not]at hbd;have HE:Hid (dr=CO):=hid (by rw[<-HD2.out];unfold LU;rw[if_neg hbd]);clear hbd;go_wp2_with fail;go_meet;rw[<-HE.out];exact fK.out
     case rest=>
      have Vq:=hid hcut;clear hcut fK;have b11:decide ((tn:Int)<=0)=false:=by simpa using (by omega:¬(tn:Int)<=0)
      obtain⟨a2,c2,rfl⟩:=bF Vq.out.t;have y1:=Vq.out.br.cell 1 _ rfl;have yl:=Vq.out.br.lt;have hat:=afC tx tx.length tn rfl (by omega) wc _ (Reads.aY Vq.out.t);have HAT:=hid hat;clear hat;go_wp2_with fail;refine HAT.out.mono ?_;rintro e wd ⟨rfl,hbb⟩;have jD:=hid (Vq.out.below hbb);clear hbb y1 yl HAT Vq;obtain⟨x,hx⟩:∃x,jh (tx.findIdx? fun x=>decide (x.1=tn))=x:=⟨_,rfl⟩
      rw[hx];have HX:=hid hx;clear hx;go_upto_if 58 with (fail);go_cut [2,8] (fun z z8 wx=>z8=.int .i64 (yN tx tn:Nat)/\wS w G z u3 (tY tx tn) CO g5 g6 [.int .i64 (aN:Nat),.int .i64 (kd:Nat),.int .i64 (tn:Nat),.int .i64 (pv:Nat),.int .i64 (nx:Nat),.int .i64 (pp:Nat),.int .i64 (of:Nat),.slice ab nb cb,.slice aa na ca,.slice none 0 0,.slice none 0 0,.int .i64 (cn:Nat)] [.int .i64 (kd:Nat),.int .i64 (tn:Nat),.int .i64 (pv:Nat),.int .i64 (nx:Nat),.int .i64 (pp:Nat),.int .i64 (of:Nat),.slice ab nb cb,.slice aa na ca,.slice none 0 0,.slice none 0 0,.int .i64 (cn:Nat)] wx)
      case first=>
       cases hf:Vp tx tn with
       | none=>
        have HK:Hid (yN tx tn=tx.length):=hid (by unfold yN;rw[hf]);have HY:Hid (tY tx tn=tx++[(tn,0,1)]):=hid (by unfold tY;rw[hf]);obtain rfl:x = -1:=by rw[<-HX.out];unfold Vp at hf;rw[hf];rfl
        clear hf HX;have y1:=jD.out.br.cell 1 _ rfl;have yl:=jD.out.br.lt;go_wp2_with (at_builtin;refine bI yL (.tmp 61) (.tmp 65) rfl rfl rfl (jD.out.t.alloc _) rfl (Reads.lit rfl rfl (Nat.le_refl _) rfl) (by intro u hu;simp at hu;rcases hu with rfl|rfl|rfl<;>rfl) (by omega) (by omega) (by have:=jD.out.gs;simp;omega) ?_;intro ob cq wq ho2 hg2 hn2);have hal:Below wd.heap.size wd (wd.alloc (.cells #[.int .i64 (tn:Nat),.int .i64 0,.int .i64 1] 120)):=(Below.refl _ _).alloc (Nat.le_refl _) _;have HF:Hid (wS w G (.slice ob (tx.length+1) cq) u3 (tY tx tn) CO g5 g6 [.int .i64 (aN:Nat),.int .i64 (kd:Nat),.int .i64 (tn:Nat),.int .i64 (pv:Nat),.int .i64 (nx:Nat),.int .i64 (pp:Nat),.int .i64 (of:Nat),.slice ab nb cb,.slice aa na ca,.slice none 0 0,.slice none 0 0,.int .i64 (cn:Nat)] [.int .i64 (kd:Nat),.int .i64 (tn:Nat),.int .i64 (pv:Nat),.int .i64 (nx:Nat),.int .i64 (pp:Nat),.int .i64 (of:Nat),.slice ab nb cb,.slice aa na ca,.slice none 0 0,.slice none 0 0,.int .i64 (cn:Nat)] wq):=hid ((jD.out.below hal).RF (by
         rw[HY.out,List.length_append];have e1:fB (tx++[(tn,0,1)])=fB tx++[.int .i64 (tn:Nat),.int .i64 0,.int .i64 1]:=by simp[fB,t3]
         rw[e1];exact ho2) hg2 hn2)
        clear ho2 hg2 hn2 hal;go_wp2_with fail;go_meet;exact⟨by rw[HK.out],HF.out⟩
       | some j=>
        have HK:Hid (yN tx tn=j):=hid (by unfold yN;rw[hf]);have HY:Hid (tY tx tn=tx):=hid (by unfold tY;rw[hf]);obtain rfl:x=(j:Int):=by rw[<-HX.out];unfold Vp at hf;rw[hf];rfl
        have bj:decide ((j:Int)<0)=false:=by simp
        clear hf HX;go_wp2_with fail;go_meet;exact⟨by rw[HK.out],by rw[HY.out];exact jD.out⟩
      case rest=>
       obtain⟨rfl,hre⟩:=hcut;have wo:=hid hre;clear hre jD HX;obtain⟨l0,s0,hy,hyk,hyl,_⟩:=ZO tx tn;have rZ:Hid (bV (l.take (k+1))=⟨if kd=6 then(tY tx tn).eraseIdx (yN tx tn)else(tY tx tn).set (yN tx tn) (tn,aN,ZN kd ((tY tx tn).getD (yN tx tn) (0,0,0)).2.2),CO,c0⟩):=hid (by rw[HST.out,HD2.out,FD.out];rfl);clear HST HD2 FD;generalize tY tx tn=Y at *;generalize yN tx tn=q at *;have hyd:(Y.getD q (0,0,0)).2.2=s0:=by rw[List.getD_eq_getElem?_getD,hy];rfl
       rw[hyd]at rZ;obtain⟨gt,ct,hu2⟩:∃gt ct,u2=.slice (some ⟨gt,0,none⟩) Y.length ct:=by
        rcases BO wo.out.t with ⟨_,h⟩|h
        ·omega
        ·exact h
       subst hu2;have hqz:(q:Int)<(Y.length:Int):=by omega
       have cq1:wc.cell? ⟨gt,q*3+1,none⟩=some (.int .i64 (l0:Nat)):=by
        have h1:=dh wo.out.t (q*3+1) _ (qp Y q _ hy 1 (by omega) _ rfl);rw[Addr.add_lit,Nat.zero_add]at h1;exact h1
       have fq1:wc.frozen? ⟨gt,q*3+1,none⟩=false:=mJ wo.out.t rfl _;have x0:=wo.out.bx.cell 0 _ rfl;have xl:=wo.out.bx.lt;have y0:=wo.out.br.cell 0 _ rfl;have yl:=wo.out.br.lt;have auO:g6≠gt:=fun e=>(wo.out.nx gt (.inl rfl)).2 e.symm;have kN:Hid (wS w G (.slice (some ⟨gt,0,none⟩) Y.length ct) u3 (Y.set q (tn,aN,s0)) CO g5 g6 [.int .i64 (aN:Nat),.int .i64 (kd:Nat),.int .i64 (tn:Nat),.int .i64 (pv:Nat),.int .i64 (nx:Nat),.int .i64 (pp:Nat),.int .i64 (of:Nat),.slice ab nb cb,.slice aa na ca,.slice none 0 0,.slice none 0 0,.int .i64 (cn:Nat)] [.int .i64 (kd:Nat),.int .i64 (tn:Nat),.int .i64 (pv:Nat),.int .i64 (nx:Nat),.int .i64 (pp:Nat),.int .i64 (of:Nat),.slice ab nb cb,.slice aa na ca,.slice none 0 0,.slice none 0 0,.int .i64 (cn:Nat)] (wc.setCell ⟨gt,q*3+1,none⟩ (.int .i64 (aN:Nat)))):=hid (wo.out.RF (by
        have h1:=qW wo.out.t rfl (q*3+1) (by omega) (.int .i64 (aN:Nat));rw[Fg Y q tn l0 s0 tn aN s0 hy 1 (by omega) (.int .i64 (aN:Nat)) rfl]at h1;rw[List.length_set];exact h1) ((aF wc gt (q*3+1) _).mono (fun z e=>by rw[e];rfl)) (fun z e=>.inl e))
       have Bl:(Y.set q (tn,aN,s0)).length=Y.length:=List.length_set;have hy2:(Y.set q (tn,aN,s0))[q]? = some (tn,aN,s0):=by rw[List.getElem?_set_self hyk]
       have HY:=hid hy2;have LW:=hid Bl;have HYS:Hid (∀st,(Y.set q (tn,aN,s0)).set q (tn,aN,st)=Y.set q (tn,aN,st)):=hid (fun st=>by rw[List.set_set]);have HYE:Hid ((Y.set q (tn,aN,s0)).eraseIdx q=Y.eraseIdx q):=hid (by rw[List.eraseIdx_set_eq]);obtain⟨y,PG⟩:∃x,Y.length=x:=⟨_,rfl⟩
       have HYY:=hid PG;rw[PG]at hqz hyl kN LW⊢;clear hy hyd Bl hy2 PG br brl wo;go_upto_region 17 with (fail);obtain⟨we,hwe⟩:∃x,wc.setCell ⟨gt,q*3+1,none⟩ (.int .i64 (aN:Nat))=x:=⟨_,rfl⟩
       rw[hwe]at kN⊢;clear cq1 fq1 x0 y0 hwe xl yl;have y0:=kN.out.br.cell 0 _ rfl;have yl:=kN.out.br.lt;have Lp:we.ownsRow G 120 3 (.slice (some ⟨gt,0,none⟩) y ct) y (fB (Y.set q (tn,aN,s0))):=by have:=kN.out.t;rw[LW.out]at this;exact this
       have Qg:we.cell? ⟨gt,q*3+2,none⟩=some (.int .i64 (s0:Nat)):=by
        have h1:=dh Lp (q*3+2) _ (qp _ q _ HY.out 2 (by omega) _ rfl);rw[Addr.add_lit,Nat.zero_add]at h1;exact h1
       have fq2:we.frozen? ⟨gt,q*3+2,none⟩=false:=mJ Lp rfl _;clear Lp;by_cases h4:kd=4
       ·subst h4;have HF:Hid (pU w G (.slice (some ⟨gt,0,none⟩) y ct) u3 (bV (l.take (k+1))).tx (bV (l.take (k+1))).dr (we.setCell ⟨gt,q*3+2,none⟩ (.int .i64 2))):=hid (by
         rw[rZ.out];show pU w G _ u3 (Y.set q (tn,aN,2)) CO _;rw[<-HYS.out 2];refine(kN.out.RF (v2':=.slice (some ⟨gt,0,none⟩) y ct) (DK:=(Y.set q (tn,aN,s0)).set q (tn,aN,2)) (by
          have h0:=kN.out.t;have h1:=qW h0 (cap:=ct) (by rw[LW.out]) (q*3+2) (by have:=LW.out;have:=HYY.out;omega) (.int .i64 2);rw[Fg (Y.set q (tn,aN,s0)) q tn aN s0 tn aN 2 HY.out 2 (by omega) (.int .i64 2) rfl]at h1;rw[List.length_set];exact h1) ((aF we gt (q*3+2) _).mono (fun z e=>by rw[e];rfl)) (fun z e=>.inl e)).topU)
        go_wp2_with fail;go_roundw
        case rel=>exact⟨k+1,by omega,by go_num,by rw[rZ.out],HF.out⟩
        case measure=>simp[intOf];omega
       ·have b4:((kd:Int)==4)=false:=by simpa using (by omega:¬(kd:Int)=4)
        have b4':decide ((kd:Int)=4)=false:=by simpa using (by omega:¬(kd:Int)=4)
        by_cases h5:kd=5
        ·subst h5;have HF:Hid (pU w G (.slice (some ⟨gt,0,none⟩) y ct) u3 (bV (l.take (k+1))).tx (bV (l.take (k+1))).dr (we.setCell ⟨gt,q*3+2,none⟩ (.int .i64 3))):=hid (by
          rw[rZ.out];show pU w G _ u3 (Y.set q (tn,aN,3)) CO _;rw[<-HYS.out 3];refine(kN.out.RF (v2':=.slice (some ⟨gt,0,none⟩) y ct) (DK:=(Y.set q (tn,aN,s0)).set q (tn,aN,3)) (by
           have h0:=kN.out.t;have h1:=qW h0 (cap:=ct) (by rw[LW.out]) (q*3+2) (by have:=LW.out;have:=HYY.out;omega) (.int .i64 3);rw[Fg (Y.set q (tn,aN,s0)) q tn aN s0 tn aN 3 HY.out 2 (by omega) (.int .i64 3) rfl]at h1;rw[List.length_set];exact h1) ((aF we gt (q*3+2) _).mono (fun z e=>by rw[e];rfl)) (fun z e=>.inl e)).topU)
         go_wp2_with fail;go_roundw
         case rel=>exact⟨k+1,by omega,by go_num,by rw[rZ.out],HF.out⟩
         case measure=>simp[intOf];omega
        ·have b5:((kd:Int)==5)=false:=by simpa using (by omega:¬(kd:Int)=5)
         have b5':decide ((kd:Int)=5)=false:=by simpa using (by omega:¬(kd:Int)=5)
         by_cases h6:kd=6
         ·subst h6;have hcall:=ZJ (Y.set q (tn,aN,s0)) G gt y ct q ((q:Int)+1) we LW.out (by have:=kN.out.t;rw[LW.out]at this;exact this) (by have:=HYY.out;omega) rfl (by omega);have HC:=hid hcall;clear hcall;have qw:IntKind.i64.wrap ((q:Int)+1)=(q:Int)+1:=by rw[IntKind.wrap_i64];omega
          go_wp2_with fail;refine HC.out.mono ?_;rintro e wf ⟨rfl,ho3,hg3⟩;have hle:(Y.eraseIdx q).length=y-1:=by rw[List.length_eraseIdx,if_pos hyk,HYY.out]
          have HF:Hid (pU w G (.slice (some ⟨gt,0,none⟩) (y-1) ct) u3 (bV (l.take (k+1))).tx (bV (l.take (k+1))).dr wf):=hid (by
           have ajB:=rZ.out;simp only[if_true]at ajB;rw[ajB];refine(kN.out.RF (v2':=.slice (some ⟨gt,0,none⟩) (y-1) ct) (DK:=Y.eraseIdx q) (by rw[hle,<-HYE.out];exact ho3) (hg3.mono (fun z e=>by rw[e];rfl)) (fun z e=>.inl e)).topU)
          clear ho3 hg3;go_wp2_with fail;go_roundw
          case rel=>exact⟨k+1,by omega,by go_num,by rw[rZ.out],HF.out⟩
          case measure=>simp[intOf];omega
         ·have b6:((kd:Int)==6)=false:=by simpa using (by omega:¬(kd:Int)=6)
          have b6':decide ((kd:Int)=6)=false:=by simpa using (by omega:¬(kd:Int)=6)
          have HF:Hid (pU w G (.slice (some ⟨gt,0,none⟩) y ct) u3 (bV (l.take (k+1))).tx (bV (l.take (k+1))).dr we):=hid (by
           rw[rZ.out];show pU w G _ u3 (if kd=6 then _ else Y.set q (tn,aN,ZN kd s0)) CO we;rw[if_neg h6,show ZN kd s0=s0 by unfold ZN;rw[if_neg h4,if_neg h5]];exact kN.out.topU)
          go_wp2_with fail;go_roundw
          case rel=>exact⟨k+1,by omega,by go_num,by rw[rZ.out],HF.out⟩
          case measure=>simp[intOf];omega
  ·obtain rfl:k=n:=by omega
   have hfin:=HAT.out;rw[<-UD.out,<-HDR.out]at hfin;have hc0:(bV l).cm=cm:=by rw[<-HCM.out,jH.out]
   have ht0:(bV l).tx=tx:=by rw[<-UD.out,jH.out]
   have hd0:(bV l).dr=dr:=by rw[<-HDR.out,jH.out]
   have FD:=hid hc0;have HT0:=hid ht0;have HD0:=hid hd0;have htl:tx.length<=20:=by rw[<-ht0];exact HT.out
   have hdl:dr.length<=20:=by rw[<-hd0];exact HD.out
   clear hfin hc0 ht0 hd0;have hst:Calls Tryz.prog 145 #[u2,.func (.func 146) #[] #[]] wr fun r w'=>∃T:List T3,r=.returned (.tuple #[])/\T.Perm tx/\T.Pairwise (fun a b=>a.1<=b.1)/\pU w G u2 u3 T dr w':=by
    have hh:=HAT.out;rcases BO hh.t with ⟨rfl,h0⟩|⟨gt,ct,rfl⟩
    ·have htn:tx=[]:=List.eq_nil_of_length_eq_zero h0;subst htn;refine(XA 0 wr).mono ?_;rintro e w1 ⟨rfl,rfl⟩;exact⟨[],rfl,List.Perm.refl _,List.Pairwise.nil,hh⟩
    ·refine(Xz tx gt ct tx.length G rfl htl w wr hh.t hh.b).mono ?_;rintro e w1 ⟨T,rfl,hp,hs,ho,hb,hg⟩;have hl:=hp.length_eq;exact⟨T,rfl,hp,hs,by rw[hl];exact ho,aI hh.d hg (fun q e e2=>hh.ne q (by rw[e2];rfl) e),hh.ne,hb,hh.eq⟩
   have HS:=hid hst;clear hst;go_wp2_with fail;refine HS.out.mono ?_;rintro e w1 ⟨T,rfl,hp,hs,ha1⟩;have HP:=hid hp;have HSO:=hid hs;have HA1:=hid ha1;clear hp hs ha1 HS;have hst:Calls Tryz.prog 148 #[u3,.func (.func 149) #[] #[]] w1 fun r w'=>∃D:List D2,r=.returned (.tuple #[])/\D.Perm dr/\D.Pairwise (fun a b=>a.1<=b.1)/\pU w G u2 u3 T D w':=by
    have hh:=HA1.out;rcases BO hh.d with ⟨rfl,h0⟩|⟨gt,ct,rfl⟩
    ·have htn:dr=[]:=List.eq_nil_of_length_eq_zero h0;subst htn;refine(XC 0 w1).mono ?_;rintro e w2 ⟨rfl,rfl⟩;exact⟨[],rfl,List.Perm.refl _,List.Pairwise.nil,hh⟩
    ·refine(XB dr gt ct dr.length G rfl hdl w w1 hh.d hh.b).mono ?_;rintro e w2 ⟨D,rfl,hp,hs,ho,hb,hg⟩;have hl:=hp.length_eq;exact⟨D,rfl,hp,hs,aI hh.t hg (fun q e e2=>hh.ne q e (by rw[e2];rfl)),by rw[hl];exact ho,hh.ne,hb,hh.eq⟩
   have HS:=hid hst;clear hst;go_wp2_with fail;refine HS.out.mono ?_;rintro e w2 ⟨D,rfl,hp,hs,ha2⟩;have HP2:=hid hp;have aqk:=hid hs;have HA2:=hid ha2;clear hp hs ha2 HS;obtain⟨a2,c2,hu2⟩:=bF HA2.out.t;obtain⟨a3,c3,hu3⟩:=bF HA2.out.d;subst hu2 hu3;have RG:T.length<=c2:=by obtain⟨_,_,h,_,h2,_⟩:=Reads.aY HA2.out.t;injection h with _ _ h3;omega
   have ajC:D.length<=c3:=by obtain⟨_,_,h,_,h2,_⟩:=Reads.aY HA2.out.d;injection h with _ _ h3;omega
   have RH:=fun w=>XD a2 T.length c2 w RG;have Kw:=fun w=>KU a3 D.length c3 w ajC;have ZR:Hid _:=RH;have HC2:Hid _:=Kw;clear RH Kw RG ajC;go_wp2_with fail;refine(ZR.out _).mono ?_;rintro e w3 ⟨rfl,rfl⟩;go_wp2_with fail;refine(HC2.out _).mono ?_;rintro e w4 ⟨rfl,rfl⟩;go_wp2_with fail;go_ret3;have hrr:∀(w:World)(K n c:Nat)(a:Option Addr)(xs:List Value),Reads K w (.slice a n c) n xs->Reads K w (.slice a n n) n xs:=fun w K n c a xs ⟨a',c',h1,h2,h3,h4⟩=>by
    injection h1 with e1 e2 e3;subst e1;exact⟨_,n,rfl,h2,Nat.le_refl _,h4⟩
   refine⟨.slice a2 T.length T.length,.slice a3 D.length D.length,T,D,by rw[FD.out];rfl,by rw[HT0.out];exact HP.out,HSO.out,by rw[HD0.out];exact HP2.out,aqk.out,hrr _ _ _ _ _ _ (Reads.aY HA2.out.t),hrr _ _ _ _ _ _ (Reads.aY HA2.out.d),fun q e=>?_,HG.out▸HA2.out.b⟩;rw[HG.out];have hqq:∀(a:Option Addr)(n c:Nat)(q:Nat),(Value.slice a n n).ownBlock=some q->(Value.slice a n c).ownBlock=some q:=fun a n c q e=>by
    rcases a with _|a
    ·cases e
    ·simpa[Value.ownBlock]using e
   rcases e with e|e
   ·exact HA2.out.t.lt q (hqq _ _ _ _ e)
   ·exact HA2.out.d.lt q (hqq _ _ _ _ e)
end
end Go.Proofs.YtpajagkhmodbnaaGreat

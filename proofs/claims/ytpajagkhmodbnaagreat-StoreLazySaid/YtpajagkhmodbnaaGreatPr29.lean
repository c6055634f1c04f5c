/- Pr: texts of the store seat laid together by program: UnKit. Conditions: each theorem names its own. -/
import Derived.Test.YtpajagkhmodbnaaGreatPr25
import Derived.Test.YtpajagkhmodbnaaGreatPr27
import Derived.Test.YtpajagkhmodbnaaGreatPr23
namespace Go.Proofs.YtpajagkhmodbnaaGreat
open Lib(hid)
set_option linter.unusedSimpArgs false
set_option linter.unusedVariables false
section
open Go.RowKit
def gB(id:Nat):Rc:={ Rc.zero with kind:=6,aV:=id }
def sU(id:Nat)(r:Rc):Rc:={ Rc.zero with kind:=3,aV:=id,page:=r.page,off:=r.off,after:=r.before,next:=r.prev }
def better(a b:D2):Bool:=decide (b.2<a.2) || (decide (a.2=b.2)&&decide (a.1<b.1))
def jZ(ls:List D2):Nat->Option Nat
 | 0=>none
 | k+1=>
  match jZ ls k with
  | none=>some k
  | some j=>if better (ls.getD k (0,0)) (ls.getD j (0,0))=true then some k else some j
theorem yQ(ls:List D2):∀k j,jZ ls k=some j->j<k
 | 0,j,h=>by cases h
 | k+1,j,h=>by
  unfold jZ at h;cases hb:jZ ls k with
  | none=>
   rw[hb]at h;obtain rfl:=Option.some.inj h;omega
  | some i=>
   rw[hb]at h;have:=yQ ls k i hb;simp only at h;split at h
   ·obtain rfl:=Option.some.inj h;omega
   ·obtain rfl:=Option.some.inj h;omega
def jc(l:List (Nat×Rc))(x:D2):List Rc×Nat:=
 match l.findIdx? (fun y=>decide (y.1=x.2))with
 | none=>([],0)
 | some j=>(if (l.getD j (0,Rc.zero)).2.kind=2 then [sU x.1 (l.getD j (0,Rc.zero)).2] else [],if (l.getD j (0,Rc.zero)).2.kind=3 then(l.getD j (0,Rc.zero)).2.next else(l.getD j (0,Rc.zero)).2.prev)
theorem aac(l:List (Nat×Rc))(x:D2):(jc l x).1.length<=1:=by
 unfold jc;split
 ·exact Nat.zero_le _
 ·simp only;split
  ·exact Nat.le_refl _
  ·exact Nat.zero_le _
def lX(l:List (Nat×Rc))(ls:List D2)(b:Nat):List D2×List Rc:=
 if (jc l (ls.getD b (0,0))).2=0\/(ls.getD b (0,0)).2<=(jc l (ls.getD b (0,0))).2 then(ls.eraseIdx b,(jc l (ls.getD b (0,0))).1++[gB (ls.getD b (0,0)).1])
 else(ls.set b ((ls.getD b (0,0)).1,(jc l (ls.getD b (0,0))).2),(jc l (ls.getD b (0,0))).1)
def lH(l:List (Nat×Rc)):Nat->List D2->List Rc
 | 0,_=>[]
 | m+1,ls=>
  match jZ ls ls.length with
  | none=>[]
  | some b=>(lX l ls b).2++lH l m (lX l ls b).1
def fH(ls:List D2):Nat:=(ls.map fun x=>x.2+1).sum
theorem CP(f:D2->Nat):∀(l:List D2)(i:Nat),(l.eraseIdx i).map f=(l.map f).eraseIdx i
 | [],_=>rfl
 | a::l,0=>rfl
 | a::l,i+1=>by rw[List.eraseIdx_cons_succ,List.map_cons,List.map_cons,List.eraseIdx_cons_succ,CP f l i]
theorem zU(l:List (Nat×Rc))(ls:List D2)(b:Nat)(hb:b<ls.length):fH (lX l ls b).1<fH ls:=by
 have hx:ls[b]? = some (ls.getD b (0,0)):=by rw[List.getD_eq_getElem?_getD,List.getElem?_eq_getElem hb];rfl
 generalize ls.getD b (0,0)=x at hx;have hm:(ls.map fun x=>x.2+1)[b]? = some (x.2+1):=by rw[List.getElem?_map,hx];rfl
 have hxe:ls.getD b (0,0)=x:=by rw[List.getD_eq_getElem?_getD,hx];rfl
 unfold lX;rw[hxe];split
 ·unfold fH;have:=LJ hm;rw[CP];omega
 ·next hn=>
  unfold fH;have:=Ve (b:=(jc l x).2+1) hm;rw[List.map_set];simp only at this⊢;omega
theorem Js(l:List (Nat×Rc)):∀(m m':Nat)(ls:List D2),fH ls<m->fH ls<m'->lH l m ls=lH l m' ls
 | 0,m',ls,h,_=>by omega
 | m+1,0,ls,_,h=>by omega
 | m+1,m'+1,ls,h,h'=>by
  unfold lH;cases hb:jZ ls ls.length with
  | none=>rfl
  | some b=>
   simp only;have:=zU l ls b (yQ ls _ _ hb);rw[Js l m m' _ (by omega) (by omega)]
theorem XP(l:List (Nat×Rc))(ls:List D2)(b:Nat)(hb:jZ ls ls.length=some b):
  lH l (fH ls+1) ls=(lX l ls b).2++lH l (fH (lX l ls b).1+1) (lX l ls b).1:=by
 have h:=zU l ls b (yQ ls _ _ hb);rw[lH,hb];simp only;rw[Js l (fH ls) (fH (lX l ls b).1+1) _ h (by omega)]
def gX(T:List T3):List D2:=(T.filter fun x=>decide (x.2.2≠2)).map fun x=>(x.1,x.2.1)
def Jt(x:Rc×Value):List Value:=GN x.1 (.slice none 0 0) x.2
def jY(OE:List (Rc×Value)):List Value:=OE.flatMap Jt
instance:Inhabited (Rc×Value):=⟨(Rc.zero,.slice none 0 0)⟩
theorem Nl(E F:List (Rc×Value)):jY (E++F)=jY E++jY F:=by simp[jY]
theorem KD:SliceOf Tryz.prog 169 85 (.agg #[.int .i64 0,.int .i64 0,.int .i64 0,.int .i64 0,.int .i64 0,.int .i64 0,.slice none 0 0,.slice none 0 0,.slice none 0 0,.slice none 0 0,.int .i64 0]) 11 152:=⟨Tryz.underlying169,by kernel_rfl,rfl,by decide⟩
structure lq(w0 w:World)(vo:Value)(OE:List (Rc×Value))(Kn:Nat->Prop)(vq:Value)(ls:List D2):Prop where
 b:Below w0.heap.size w0 w
 o:w.ownsRow w0.heap.size 85 11 vo OE.length (jY OE)
 s:∀x∈OE,x.1.before=[]/\bH w Kn x.1.after x.2/\x.1.small
 q:w.ownsRow w0.heap.size 197 2 vq ls.length (iE ls)
 kn:∀k,Kn k->w0.heap.size<=k/\k<w.heap.size/\¬vo.ownBlock=some k/\¬vq.ownBlock=some k
 oq:∀k,vo.ownBlock=some k->¬vq.ownBlock=some k
section
variable{w0 w w':World}{vo gV vq vq':Value}{OE:List (Rc×Value)}{Kn Ka:Nat->Prop}{ls ls':List D2}
theorem lq.below(h:lq w0 w vo OE Kn vq ls)(hb:Below w.heap.size w w'):lq w0 w' vo OE Kn vq ls:=
 ⟨h.b.trans (hb.mono h.b.size),own_below h.o hb (fun q e=>(h.o.lt q e).2),fun x hx=>⟨(h.s x hx).1,(h.s x hx).2.1.grow (aC hb) (fun _ _ h=>h),(h.s x hx).2.2⟩,own_below h.q hb (fun q e=>(h.q.lt q e).2),fun k hk=>⟨(h.kn k hk).1,Nat.lt_of_lt_of_le (h.kn k hk).2.1 hb.size,(h.kn k hk).2.2⟩,h.oq⟩
theorem lq.KC(h:lq w0 w vo OE Kn vq ls)(r:Rc)(v:Value)(hr:r.before=[]/\bH w Ka r.after v/\r.small)(hka:∀k,Ka k->w0.heap.size<=k/\k<w.heap.size/\¬vo.ownBlock=some k/\¬vq.ownBlock=some k)
  (ho:w'.ownsRow w0.heap.size 85 11 gV (OE.length+1) (jY OE++Jt (r,v))) (hg:aj (fun q=>vo.ownBlock=some q) w w') (hn:∀q,gV.ownBlock=some q->vo.ownBlock=some q\/w.heap.size<=q):
  lq w0 w' gV (OE++[(r,v)]) (fun k=>Kn k\/Ka k) vq ls:=by
 have hnn:∀k,k<w.heap.size->¬vo.ownBlock=some k->¬gV.ownBlock=some k:=fun k h1 h2 h3=>(hn k h3).elim h2 (fun h=>by omega);have hK:∀k,Kn k\/Ka k->w0.heap.size<=k/\k<w.heap.size/\¬vo.ownBlock=some k/\¬vq.ownBlock=some k:=fun k hk=>hk.elim (h.kn k) (hka k);refine⟨h.b.trans (hg.below fun k hk=>⟨Nat.lt_of_lt_of_le hk h.b.size,fun e=>by have:=(h.o.lt k e).1;omega⟩),?_,?_,aI h.q hg (fun q e e2=>h.oq q e2 e),fun k hk=>⟨(hK k hk).1,Nat.lt_of_lt_of_le (hK k hk).2.1 hg.size,hnn k (hK k hk).2.1 (hK k hk).2.2.1,(hK k hk).2.2.2⟩,fun k h1 h2=>?_⟩
 ·rw[List.length_append,Nl];have e:jY [(r,v)]=Jt (r,v):=by simp[jY]
  rw[e];exact ho
 ·intro x hx;rcases List.mem_append.1 hx with hx|hx
  ·exact⟨(h.s x hx).1,((h.s x hx).2.1.mono (fun k hk=>.inl hk)).grow hg (fun k hk=>(hK k hk).2.2.1),(h.s x hx).2.2⟩
  ·rw[List.mem_singleton.1 hx];exact⟨hr.1,(hr.2.1.mono (fun k hk=>.inr hk)).grow hg (fun k hk=>(hK k hk).2.2.1),hr.2.2⟩
 ·rcases hn k h1 with h3|h3
  ·exact h.oq k h3 h2
  ·have:=(h.q.lt k h2).2;omega
theorem lq.XQ(h:lq w0 w vo OE Kn vq ls)(hq:w'.ownsRow w0.heap.size 197 2 vq' ls'.length (iE ls'))(hg:aj (fun q=>vq.ownBlock=some q) w w')(hn:∀q,vq'.ownBlock=some q->vq.ownBlock=some q\/w.heap.size<=q):
  lq w0 w' vo OE Kn vq' ls':=by
 refine⟨h.b.trans (hg.below fun k hk=>⟨Nat.lt_of_lt_of_le hk h.b.size,fun e=>by have:=(h.q.lt k e).1;omega⟩),aI h.o hg (fun q e e2=>h.oq q e e2),fun x hx=>⟨(h.s x hx).1,(h.s x hx).2.1.grow hg (fun k hk=>(h.kn k hk).2.2.2),(h.s x hx).2.2⟩,hq,
  fun k hk=>⟨(h.kn k hk).1,Nat.lt_of_lt_of_le (h.kn k hk).2.1 hg.size,(h.kn k hk).2.2.1,fun e=>?_⟩,fun k h1 h2=>?_⟩
 ·rcases hn k e with h3|h3
  ·exact(h.kn k hk).2.2.2 h3
  ·have:=(h.kn k hk).2.1;omega
 ·rcases hn k h2 with h3|h3
  ·exact h.oq k h1 h3
  ·have:=(h.o.lt k h1).2;omega
theorem afG(L:List D2)(i:Nat)(a b a' b':Nat)(h:L[i]? = some (a,b))(j:Nat)(hj:j<2)(v:Value)(hs:(d2 (a,b)).set j v=d2 (a',b')):(iE L).set (i*2+j) v=iE (L.set i (a',b')):=by
 induction L generalizing i with
 | nil=>cases h
 | cons x r ih=>
  unfold iE;cases i with
  | zero=>
   obtain rfl:=Option.some.inj h;rw[List.flatMap_cons,List.set_cons_zero,List.flatMap_cons,Nat.zero_mul,Nat.zero_add,List.set_append_left _ _ (by show j<2;exact hj),hs]
  | succ i=>
   rw[List.flatMap_cons,List.set_cons_succ,List.flatMap_cons,List.set_append_right _ _ (by show 2<=_;omega)];have:=ih i h;unfold iE at this;show _++(r.flatMap d2).set ((i+1)*2+j-2) v=_;rw[show(i+1)*2+j-2=i*2+j by omega,this]
end
theorem XR(ao:Option Addr)(n cap:Nat)(w:World)(h:n<=cap):Calls Tryz.prog 153 #[.slice ao n cap] w fun e w'=>e=.returned (.slice ao n n)/\w=w':=by
 have hb:decide (n<=cap)=true:=by simpa using h
 go_enter Tryz.func153,Tryz.ntmps153;go_wp2_with fail;go_ret;exact⟨rfl,rfl⟩
theorem afH{w:World}(x:Le)(m b gq ix:Nat)(h:Box w b [.pointer (some ⟨gq,ix,none⟩)])(hgq:gq<w.heap.size)(hc:w.cell? ⟨gq,ix+1,none⟩=some (.int .i64 (m:Nat))):
  Calls Tryz.prog 154 #[.agg (eG x).toArray,.pointer (some ⟨b,0,none⟩)] w fun e w'=>e=.returned (.bool (decide (x.aN=m)))/\Below w.heap.size w w':=by
 have hbb:((x.aN:Int)==(m:Int))=decide (x.aN=m):=by
  by_cases h:x.aN=m
  ·simp[h]
  ·have h2:¬(x.aN:Int)=(m:Int):=by omega
   simp[h,h2]
 have BK:decide ((x.aN:Int)=(m:Int))=decide (x.aN=m):=by
  by_cases h:x.aN=m
  ·simp[h]
  ·have h2:¬(x.aN:Int)=(m:Int):=by omega
   simp[h,h2]
 have hal:Below w.heap.size w (w.alloc (.cells (eG x).toArray 87)):=(Below.refl _ _).alloc (Nat.le_refl _) _;have hbx:Box (w.alloc (.cells (eG x).toArray 87)) w.heap.size (eG x):=Box.new w (eG x).toArray 87 rfl;have b0:=hbx.cell 0 _ rfl;have bl:=hbx.lt;have b2:=(h.below hal (Nat.le_refl _)).cell 0 _ rfl;have ZY:=(h.below hal (Nat.le_refl _)).lt;have b3:(w.alloc (.cells (eG x).toArray 87)).cell? ⟨gq,ix+1,none⟩=some (.int .i64 (m:Nat)):=by
  rw[<-hc];exact World.cell?_of_block (w:=w) (hal.block gq hgq)
 have bl3:gq<(w.alloc (.cells (eG x).toArray 87)).heap.size:=Nat.lt_of_lt_of_le hgq hal.size;simp only[eG,GN]at b0 b2 b3 bl ZY bl3 hal⊢;have HA:=hid hal;clear hal hbx h hc hgq;go_enter Tryz.func154,Tryz.ntmps154;go_upto_region 1 with (fail);go_quiet (fail);go_wp2_with fail;go_ret;exact⟨by first|rfl|rw[hbb];rfl|rw[BK];rfl,jW HA.out nq⟩
theorem aco(E:List Le)(n m b gq ix:Nat){G:Nat}{vq:Value}{nq:Nat}{xs:List Value}(w:World)(h:Box w b [.pointer (some ⟨gq,ix,none⟩)])(hq:w.ownsRow G 197 2 vq nq xs)(hgq:vq.ownBlock=some gq)(hc:xs[ix+1]? = some (.int .i64 (m:Nat)))
  (hl:E.length=n) (hn:n<=1099511627776) (ao:Option Addr) (cp:Nat) (hv:Reads 12 w (.slice ao n cp) n (fA E)):
  Calls Tryz.prog 121 #[.slice ao n cp,.func (.func 154) #[] #[.pointer (some ⟨b,0,none⟩)]] w fun e w'=>e=.returned (.int .i64 (jh (E.findIdx? fun x=>decide (x.aN=m))))/\Below w.heap.size w w':=
 RJ E n 154 #[.pointer (some ⟨b,0,none⟩)] (fun x=>decide (x.aN=m)) (fun W=>Box W b [.pointer (some ⟨gq,ix,none⟩)]/\W.ownsRow G 197 2 vq nq xs) (enters_of Tryz.func154 (by kernel_rfl) rfl)
  (fun W x hF=>afH x m b gq ix hF.1 (hF.2.lt gq hgq).2 (by
   have hne:0<nq:=by
    rcases Nat.eq_zero_or_pos nq with h0|h0
    ·have h1:=hF.2.1;rw[h0]at h1;have hxe:xs=[]:=List.eq_nil_of_length_eq_zero (by omega);rw[hxe]at hc;cases hc
    ·exact h0
   obtain⟨g2,c2,e,_,_⟩:=dV hF.2 hne;have h2:=hF.2;rw[e]at h2 hgq;injection hgq with hgq;subst hgq;have h3:=dh h2 (ix+1) _ hc;rw[Addr.add_lit,Nat.zero_add]at h3;exact h3)) (fun W W' hF hb=>⟨hF.1.below hb (Nat.le_refl _),own_below hF.2 hb (fun q e=>(hF.2.lt q e).2)⟩) hl hn w ⟨h,hq⟩ ao cp hv
end
end Go.Proofs.YtpajagkhmodbnaaGreat

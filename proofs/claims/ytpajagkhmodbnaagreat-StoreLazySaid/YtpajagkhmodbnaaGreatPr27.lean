/- Pr: texts of the store seat laid together by program: AgLn RgScan. Conditions: each theorem names its own. -/
import Derived.Test.YtpajagkhmodbnaaGreatPr25
import Derived.Test.YtpajagkhmodbnaaGreatPr23
import Derived.Test.YtpajagkhmodbnaaGreatPr22
import Derived.Test.YtpajagkhmodbnaaGreatPr21
namespace Go.Proofs.YtpajagkhmodbnaaGreat
open Lib(hid)
set_option linter.unusedSimpArgs false
set_option linter.unusedVariables false
section
open Go.RowKit
instance:Inhabited Le:=⟨⟨0,Rc.zero,.slice none 0 0,.slice none 0 0⟩⟩
theorem al0(w:World):(isAgg 87).run Tryz.prog w=.ok true w:=by kernel_rfl
theorem ajN(w:World):(Go.sizeOf 87).run Tryz.prog w=.ok 12 w:=by kernel_rfl
theorem RJ(E:List Le)(n:Nat)(fn:Nat)(caps:Array Value)(p:Le->Bool)(F:World->Prop)(eg:∀args w,(callFunc fn args).run Tryz.prog w=.ok (.enter fn args) w)
  (hP:∀W (x:Le),F W->Calls Tryz.prog fn (#[.agg (eG x).toArray]++caps) W fun e w'=>e=.returned (.bool (p x))/\Below W.heap.size W w')
  (hst:∀W W',F W->Below W.heap.size W W'->F W') (hl:E.length=n) (hn:n<=1099511627776) (w:World) (hF:F w) (ao:Option Addr) (cp:Nat) (hv:Reads 12 w (.slice ao n cp) n (fA E)):
  Calls Tryz.prog 121 #[.slice ao n cp,.func (.func fn) #[] caps] w fun e w'=>e=.returned (.int .i64 (jh (E.findIdx? p)))/\Below w.heap.size w w':=by
 by_cases hpos:0<n
 ·obtain⟨_,_,b,o,e1,hbl,hc⟩:=hv.gG hpos;subst e1;have:=AnyQ.slices_IndexFunc (α:=Le) Tryz.idxLn 12 al0 ajN eG (fun _=>rfl) p fn caps eg b o n cp E w
   (fun W x hW=>(hP W x (hst w W hF hW)).mono fun _ _ ⟨h1,h2⟩=>⟨h1,hW.trans (h2.mono hW.size)⟩) (Nat.le_of_eq hl.symm) (by omega) hbl
   (fun j hj i v hi=>by rw[Nat.add_assoc];exact hc _ _ (uh eG 12 (fun _=>rfl) E j hj i v hi))
  rw[List.take_of_length_le (Nat.le_of_eq hl),uN]at this;exact this
 ·have h0:n=0:=by omega
  subst h0;have hE:E=[]:=List.eq_nil_of_length_eq_zero hl;subst hE;clear hv hP hst hF hl;go_enter Tryz.func121,Tryz.ntmps121;go_wp2_with fail;go_loopw [8] (fun i wr=>i=.int .i64 0/\w=wr) (fun _ _=>0)
  case atStart=>exact⟨rfl,rfl⟩
  case round=>
   obtain⟨rfl,rfl⟩:=hrel;go_wp2_with fail;go_ret;exact⟨rfl,Below.refl _ _⟩
section
variable{w:World}
theorem afE(x:Le)(m b:Nat)(h:Box w b [.int .i64 (m:Nat)]):
  Calls Tryz.prog 152 #[.agg (eG x).toArray,.pointer (some ⟨b,0,none⟩)] w fun e w'=>e=.returned (.bool (decide (x.aN=m)))/\Below w.heap.size w w':=by
 have hbb:((x.aN:Int)==(m:Int))=decide (x.aN=m):=by
  by_cases h:x.aN=m
  ·simp[h]
  ·have h2:¬(x.aN:Int)=(m:Int):=by omega
   simp[h,h2]
 have BK:decide ((x.aN:Int)=(m:Int))=decide (x.aN=m):=by
  by_cases h:x.aN=m
  ·simp[h]
  ·have h2:¬(x.aN:Int)=(m:Int):=by omega
   simp[h,h2]
 have hal:Below w.heap.size w (w.alloc (.cells (eG x).toArray 87)):=(Below.refl _ _).alloc (Nat.le_refl _) _;have hbx:Box (w.alloc (.cells (eG x).toArray 87)) w.heap.size (eG x):=Box.new w (eG x).toArray 87 rfl;have b0:=hbx.cell 0 _ rfl;have bl:=hbx.lt;have b2:=(h.below hal (Nat.le_refl _)).cell 0 _ rfl;have ZY:=(h.below hal (Nat.le_refl _)).lt;simp only[eG,GN]at b0 b2 bl ZY hal⊢;have HA:=hid hal;clear hal hbx h;go_enter Tryz.func152,Tryz.ntmps152;go_wp2_with fail;go_ret;exact⟨by first|rfl|rw[hbb];rfl|rw[BK];rfl,HA.out⟩
end
theorem Z4(E:List Le)(n m b:Nat)(w:World)(h:Box w b [.int .i64 (m:Nat)])(hl:E.length=n)(hn:n<=1099511627776)(ao:Option Addr)(cp:Nat)(hv:Reads 12 w (.slice ao n cp) n (fA E)):
  Calls Tryz.prog 121 #[.slice ao n cp,.func (.func 152) #[] #[.pointer (some ⟨b,0,none⟩)]] w fun e w'=>e=.returned (.int .i64 (jh (E.findIdx? fun x=>decide (x.aN=m))))/\Below w.heap.size w w':=
 RJ E n 152 #[.pointer (some ⟨b,0,none⟩)] (fun x=>decide (x.aN=m)) (fun W=>Box W b [.int .i64 (m:Nat)]) (enters_of Tryz.func152 (by kernel_rfl) rfl)
  (fun W x hF=>afE x m b hF) (fun W W' hF hb=>hF.below hb (Nat.le_refl _)) hl hn w h ao cp hv
end
section
theorem ajO(k:Nat)(h:k<1152921504606846976):dB.take 8≠aJ (k+1):=fun e=>by
 have h1:=oJ (k+1) (by omega);rw[<-e]at h1;have h2:dN (dB.take 8)=0:=by decide
 omega
theorem Vs{n:Nat}{R:Rg}{D:Dv}(h:D.good)(hn:2<=n)(hD:2+n<=D.l.length)(k j:Nat)(hj:j<n):∀m,k+m<=n->(Rg.nM n R m k D).sec (2+j)=if k<=j/\j<k+m then R.sec j else D.sec (2+j)
 | 0,_=>by rw[if_neg (by omega)];rfl
 | m+1,hk=>by
  obtain⟨h1,h2,h3⟩:=Rg.ou (R:=R) h hn hD k m;have hm:(k+m) % n=k+m:=Nat.mod_eq_of_lt (by omega);rw[Rg.uw,h1.jV _ _ (by rw[h2,hm];omega) (R.je _),hm,Vs h hn hD k j hj m (by omega)];by_cases e:j=k+m
  ·subst e;rw[if_pos rfl,if_pos (by omega)]
  ·rw[if_neg (by omega)];by_cases e2:k<=j/\j<k+m
   ·rw[if_pos e2,if_pos (by omega)]
   ·rw[if_neg e2,if_neg (by omega)]
theorem XJ{n:Nat}{R:Rg}{D:Dv}(h:D.good)(hn:2<=n)(hD:2+n<=D.l.length)(hb:R.base=0)(hf:R.fin=0)(hlen:1<=R.bytes.length)(hnb:(R.bytes.length-1) / 118+1<n):
  (∀k,k<=(R.bytes.length-1) / 118->(R.jm n D).sec (2+k)=R.sec k)/\(R.jm n D).sec (2+((R.bytes.length-1) / 118+1))=dB/\(R.jm n D).sec 0=D.sec 0/\(R.jm n D).sec 1=D.sec 1:=by
 have ht:R.tail=R.bytes.length:=by unfold Rg.tail;omega
 have hz:dB.length=128:=by simp[dB]
 unfold Rg.jm;simp only[hf,ht,Nat.zero_div,Nat.sub_zero,Nat.zero_add,Nat.zero_mod,Nat.add_zero];generalize hbb:(R.bytes.length-1) / 118=b at hnb⊢;have hmb:(b+1) % n=b+1:=Nat.mod_eq_of_lt hnb;rw[hmb];obtain⟨h1,h2,h3⟩:=Rg.ou (R:=R) h hn hD 1 b;obtain⟨f1,f2,f3⟩:=h1.write (2+(b+1)) dB (by rw[h2];omega) hz;obtain⟨s1,s2,s3,s4⟩:=f1.sync;obtain⟨i1,i2,i3⟩:=s1.write 2 (R.sec 0) (by rw[s2,f2,h2];omega) (R.je 0);obtain⟨j1,j2,j3,j4⟩:=i1.sync;have key:∀q,(((((Rg.nM n R b 1 D).write (2+(b+1)) dB).sync).write 2 (R.sec 0)).sync).sec q=if 2=q then R.sec 0 else if 2+(b+1)=q then dB else(Rg.nM n R b 1 D).sec q:=fun q=>by
  rw[j4,s1.jV _ _ (by rw[s2,f2,h2];omega) (R.je 0),s4,h1.jV _ _ (by rw[h2];omega) hz]
 have low:∀q,q<2->∀m k,(Rg.nM n R m k D).sec q=D.sec q:=fun q hq m k=>by
  induction m with
  | zero=>rfl
  | succ m ih=>
   obtain⟨h1,h2,h3⟩:=Rg.ou (R:=R) h hn hD k m;have hm:=Nat.mod_lt (k+m) (show 0<n by omega);rw[Rg.uw,h1.jV _ _ (by rw[h2];omega) (R.je _),if_neg (by omega)];exact ih
 refine⟨fun k hk=>?_,?_,?_,?_⟩
 ·rw[key];by_cases e:k=0
  ·subst e;exact if_pos rfl
  ·rw[if_neg (by omega),if_neg (by omega),Vs h hn hD 1 k (by omega) b (by omega),if_pos (by omega)]
 ·rw[key,if_neg (by omega),if_pos rfl]
 ·rw[key,if_neg (by omega),if_neg (by omega),low 0 (by omega)]
 ·rw[key,if_neg (by omega),if_neg (by omega),low 1 (by omega)]
end
end Go.Proofs.YtpajagkhmodbnaaGreat

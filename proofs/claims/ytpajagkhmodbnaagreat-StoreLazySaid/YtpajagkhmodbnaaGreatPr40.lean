/- Pr: texts of the store seat laid together by program: SvNew. Conditions: each theorem names its own. -/
import Derived.Test.YtpajagkhmodbnaaGreatPr23
import Derived.Test.YtpajagkhmodbnaaGreatPr39
namespace Go.Proofs.YtpajagkhmodbnaaGreat
set_option maxRecDepth 100000
set_option maxHeartbeats 3200000
open Lib(hid)
set_option linter.unusedSimpArgs false
set_option linter.unusedVariables false
section
open Go.RowKit
theorem AQ(n i:Nat):(Dv.new n).sec i=dB:=by
 unfold Dv.sec Dv.new kX;simp only[kK,List.foldl_nil];rw[if_pos];rw[List.getD_eq_getElem?_getD,List.getElem?_replicate];split<;>rfl
theorem Ia{n:Nat}(h:n<=8192):(Dv.new n).good:=⟨Dv.YC h,rfl,rfl⟩
def nz(k:Nat):List UInt8:=List.replicate k 0
theorem Jy(n:Nat)(h:128<=n):Cf.of n=⟨n / 4,2+n / 4,(n-2-n / 4-5) / 4⟩:=by
 unfold Cf.of jg;rw[if_neg (by omega)]
theorem Cf.NS(n:Nat)(h:128<=n):(Cf.of n).ok:=by rw[Jy n h];exact⟨rfl,by show 2<=n / 4;omega⟩
theorem Tq(n nf:Nat)(h:128<=n):Fine (Cf.of n) 0 0 (St.new n nf):=by
 refine⟨rfl,rfl,Nat.le_refl _,Nat.zero_le _,⟨Nat.le_refl _,Nat.le_refl _⟩,Nat.zero_le _,Nat.zero_le _,fun x hx=>(by cases hx),List.nodup_nil,Nat.le_refl _,?_⟩;rw[Jy n h];show 0+2048<=(n / 4-1)*118;omega
theorem KI(n nf:Nat)(h:128<=n)(h2:n<=8192)(hJ:Jg (Cf.of n) (St.new n nf).io)(hok:D5 nf (St.new n nf).p):fG (Cf.of n) nf (St.new n nf) (fun _=>nz 504):=by
 have hg:=((((Ia h2).reads 2).reads 1).reads 1)
 obtain⟨r1,r2,_,_,r5⟩:=Dv.kH (((Dv.new n).reads 2).reads 1) 1;obtain⟨q1,q2,_,_,q5⟩:=Dv.kH ((Dv.new n).reads 2) 1;obtain⟨p1,p2,_,_,p5⟩:=Dv.kH (Dv.new n) 2;have hm:(dw 1 0 0 1).length=128:=by simp[dw,dL]
 obtain⟨w1,w2,w3⟩:=hg.write 1 (dw 1 0 0 1) (by rw[r1,q1,p1];show 1<(List.replicate n ([]:List UInt8)).length;rw[List.length_replicate];omega) hm;obtain⟨s1,s2,s3,s4⟩:=w1.sync;have hpg:∀q,q<(Cf.of n).pg->(Io.ops (Cf.of n).n (Cf.of n).fr).fJ (St.new n nf).io q=nz 512:=fun q hq=>by
  show dO ((((((Dv.new n).reads 2).reads 1).reads 1).write 1 (dw 1 0 0 1)).sync) ((Cf.of n).fr+5+4*q) 4=_;have e:∀i,(Cf.of n).fr+5+4*q<=i->i<(Cf.of n).fr+5+4*q+4->((((((Dv.new n).reads 2).reads 1).reads 1).write 1 (dw 1 0 0 1)).sync).sec i=(Dv.new n).sec i:=fun i h1 _=>by
   rw[s4,hg.jV 1 _ (by rw[r1,q1,p1];show 1<(List.replicate n ([]:List UInt8)).length;rw[List.length_replicate];omega) hm,if_neg (by rw[Jy n h]at h1;simp only at h1;omega),r5,q5,p5]
  rw[kP e];simp only[dO,AQ,dB,nz,List.nil_append,List.replicate_append_replicate]
 refine⟨fun _=>nz 512,⟨hJ,hok,(ig.new (Cf.of n).pg nf (fun _=>nz 512) (fun q _=>List.length_replicate)).disk hpg⟩,fun q _=>?_⟩;unfold nz;rw[List.drop_replicate]
theorem aP.KI{W0 w:World}{A:bG}{n:Nat}{vl vo:Value}{EL:List Le}{EO:List Te}{K S1:Nat->Prop}(h:aP W0 w A (Cf.of n) (St.new n A.nf) vl vo EL EO K S1)(h1:128<=n)(h2:n<=8192):fG (Cf.of n) A.nf (St.new n A.nf) (fun _=>nz 504):=
 Go.Proofs.YtpajagkhmodbnaaGreat.KI n A.nf h1 h2 h.ioJ h.hok
theorem MI(W0 w:World)(hb:Below W0.heap.size W0 w)(n nf:Nat)(h1:128<=n)(h2:n<=8192)(h3:1<=nf)(h4:nf<=64):
  Calls Tryz.prog 27 #[.int .i64 (n:Nat),.int .i64 (nf:Nat)] w fun e w'=>∃(A:bG)(S':Nat->Prop),e=.returned (.tuple #[.pointer (some ⟨A.d,0,none⟩),.pointer (some ⟨A.sb,0,none⟩)])/\A.nf=nf/\
   SV W0 A (Cf.of n) (St.new n nf) S' w'/\fG (Cf.of n) nf (St.new n nf) (fun _=>nz 504)/\(∀k,S' k->w.heap.size<=k)/\Below w.heap.size w w':=by
 have HN:=hid (ae9 W0 w hb n (by omega) h2);go_enter Tryz.func27,Tryz.ntmps27;go_wp2_with fail;refine HN.out.mono ?_;rintro e w1 ⟨d,S,rfl,hdv,hS,hb1⟩;have HO:=hid (Ym hdv (Ia h2) rfl n (by show(List.replicate n ([]:List UInt8)).length=n;exact List.length_replicate) h1 h2 (AQ n) nf h3 h4);have HB1:=hid hb1;have HS:=hid hS;have jH:=hid hdv.lt;clear hdv hb1 hS HN;go_wp2_with fail;refine HO.out.mono ?_;rintro e w2 ⟨A,S',σ',rfl,hd,hnf,hsv,hσ,hft⟩;obtain rfl:σ'=St.new n nf:=hσ;have sF:=hid hsv;have HF:=hid hft;have HD:=hid hd;have Eo:=hid hnf;clear hsv hft hd hnf HO;go_wp2_with fail;go_ret2;have e1:d=A.d:=HD.out.symm;subst e1;refine⟨A,_,rfl,Eo.out,sF.out,?_,fun k hk=>?_,?_⟩
 ·obtain rfl:=Eo.out;obtain⟨_,_,_,_,_,_,h,_⟩:=sF.out;exact h.KI h1 h2
 ·rcases HF.out.new k hk with h|h
  ·exact HS.out k h
  ·have:=HB1.out.size;omega
 ·exact HB1.out.trans (HF.out.grow.below (fun k hk=>⟨by have:=HB1.out.size;omega,fun hx=>by have:=HS.out k hx;omega⟩))
end
end Go.Proofs.YtpajagkhmodbnaaGreat

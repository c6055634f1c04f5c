/- Pr: texts of the store seat laid together by program: DvBurn. Conditions: each theorem names its own. -/
import Derived.Test.YtpajagkhmodbnaaGreatPr4
import Derived.Test.YtpajagkhmodbnaaGreatProg
import Derived.Lib.Hide
import Derived.WalkLawsBesides
import Derived.IntWalk
namespace Go.Proofs.YtpajagkhmodbnaaGreat
open Lib(hid)
set_option linter.unusedSimpArgs false
set_option linter.unusedVariables false
section
open Go.RowKit
def jS(b:Bool):Int:=if b then 0 else 50
theorem Dv.Aa(D:Dv):D.bJ.2.l=D.l/\D.bJ.2.c=D.c:=by
 unfold Dv.bJ;split
 ·exact⟨rfl,rfl⟩
 ·split<;>exact⟨rfl,rfl⟩
theorem Dv.JF{D:Dv}(h:D.ok):D.bJ.2.ok:=by
 obtain⟨h1,h2,h3,h4,h5⟩:=h;unfold Dv.bJ;split
 ·exact⟨h1,h2,h3,h4,h5⟩
 ·split
  ·exact⟨h1,h2,h3,by simp;omega,by simp;omega⟩
  ·exact⟨h1,h2,h3,h4,h5⟩
theorem bF{w:World}{base e K n:Nat}{v:Value}{xs:List Value}(h:w.ownsRow base e K v n xs):∃a c,v=.slice a n c:=by
 rcases h.2 with ⟨rfl,rfl⟩|⟨g,cap,cur,rfl,_⟩
 ·exact⟨none,0,rfl⟩
 ·exact⟨_,_,rfl⟩
theorem Dv.wV(D:Dv):(D.fuse=0/\D.bJ.1=false/\D.bJ.2.fuse=D.fuse/\D.bJ.2.dead=true/\D.bJ.2.calls=D.calls)\/
  (0<D.fuse/\D.bJ.1=true/\D.bJ.2.fuse=D.fuse-1/\D.bJ.2.dead=D.dead/\D.bJ.2.calls=iw D.calls)\/
  (¬D.fuse=0/\¬0<D.fuse/\D.bJ.1=true/\D.bJ.2.fuse=D.fuse/\D.bJ.2.dead=D.dead/\D.bJ.2.calls=iw D.calls):=by
 unfold Dv.bJ;by_cases h0:D.fuse=0
 ·left;rw[if_pos h0];exact⟨h0,rfl,rfl,rfl,rfl⟩
 ·by_cases h1:0<D.fuse
  ·right;left;rw[if_neg h0,if_pos h1];exact⟨h1,rfl,rfl,rfl,rfl⟩
  ·right;right;rw[if_neg h0,if_neg h1];exact⟨h0,h1,rfl,rfl,rfl,rfl⟩
theorem size_at{w:World}{G d:Nat}{D:Dv}{vl vc:Value}{EL:List Se}{EC:List Ce}{K:Nat->Prop}(h:iJ w G d D vl vc EL EC K):
  Calls Tryz.prog 77 #[.pointer (some ⟨d,0,none⟩)] w fun e w'=>e=.returned (.int .i64 (D.l.length:Nat))/\w'=w:=by
 obtain⟨al,cl,e⟩:=bF h.nH;have c0:=h.box.cell 0 _ rfl;rw[e]at c0;have hlt:=h.box.lt;rw[h.lZ,List.length_map];clear h;go_enter Tryz.func77,Tryz.ntmps77;go_wp2_with fail;go_ret;exact⟨rfl,rfl⟩
theorem Ut{w:World}{G d:Nat}{D:Dv}{vl vc:Value}{EL:List Se}{EC:List Ce}{K:Nat->Prop}(h:iJ w G d D vl vc EL EC K):
  Calls Tryz.prog 161 #[.pointer (some ⟨d,0,none⟩)] w fun e w'=>e=.returned (.int .i64 (jS D.bJ.1))/\iJ w' G d D.bJ.2 vl vc EL EC K/\aj (fun k=>k=d) w w':=by
 have c2:=h.box.cell 2 _ rfl;have c3:=h.box.cell 3 _ rfl;have c4:=h.box.cell 4 _ rfl;have ff:=h.box.free;have hlt:=h.box.lt;have HB:=hid h;have HO:=hid (Dv.JF h.ok);obtain⟨hl,hc⟩:=Dv.Aa D;have HL:=hid hl;have HC:=hid hc;have f1:=h.ok.f1;have f2:=h.ok.f2;clear h hl hc;have hcs:=Dv.wV D;generalize D.bJ.2=D2 at *;generalize D.bJ.1=b1 at *;obtain⟨fu,hfu⟩:∃f,D.fuse=f:=⟨_,rfl⟩
 obtain⟨ca,hca⟩:∃f,D.calls=f:=⟨_,rfl⟩
 obtain⟨de,hde⟩:∃f,D.dead=f:=⟨_,rfl⟩
 rw[hfu]at c2 f1 f2;rw[hca]at c4;rw[hde]at c3;rw[hfu,hca,hde]at hcs;have hbx:=HB.out.box;rw[hfu,hca,hde]at hbx;have HX:=hid hbx;clear hfu hca hde hbx;rcases hcs with ⟨h0,rfl,g1,g2,g3⟩|⟨h1,rfl,g1,g2,g3⟩|⟨h0,h1,rfl,g1,g2,g3⟩
 ·have hb0:(fu==0)=true:=by simp[h0]
  have HG:=hid (show _/\_/\_ from⟨g1,g2,g3⟩);clear g1 g2 g3 h0;go_enter Tryz.func161,Tryz.ntmps161;go_wp2_with fail;go_ret;obtain⟨k1,k2⟩:=Box.set1 HX.out 3 (.bool true);have k3:aj (fun k=>k=d) w (w.setCell ⟨d,3,none⟩ (.bool true)):=aj.aK k2 (fun k o h=>h.1);exact⟨rfl,HB.out.put (by rw[HG.out.1,HG.out.2.1,HG.out.2.2];exact k1) k3 HL.out HC.out HO.out,k3⟩
 ·have hb0:(fu==0)=false:=by simp;omega
  have hb1:decide (fu>0)=true:=by simpa using h1
  have hb2:decide (0<fu)=true:=by simpa using h1
  have hw1:IntKind.i64.wrap (fu-1)=fu-1:=IntWalk.i64_in _ (by omega);have HG:=hid (show _/\_/\_ from⟨g1,g2,g3⟩);clear g1 g2 g3;go_enter Tryz.func161,Tryz.ntmps161;go_wp2_with fail;go_ret;obtain⟨k1,k2⟩:=Box.set1 HX.out 2 (.int .i64 (fu-1));obtain⟨k3,k4⟩:=Box.set1 k1 4 (.int .i64 (iw ca));have k5:aj (fun k=>k=d) w ((w.setCell ⟨d,2,none⟩ (.int .i64 (fu-1))).setCell ⟨d,4,none⟩ (.int .i64 (iw ca))):=(aj.aK k2 (fun k o h=>h.1)).trans (aj.aK k4 (fun k o h=>h.1));have k6:iJ _ G d D2 vl vc EL EC K:=HB.out.put (by rw[HG.out.1,HG.out.2.1,HG.out.2.2];exact k3) k5 HL.out HC.out HO.out;refine⟨rfl,?_,?_⟩
  ·first|exact k6|(simpa[iw]using k6)|trace_state
  ·first|exact k5|(simpa[iw]using k5)|trace_state
 ·have hb0:(fu==0)=false:=by simp[h0]
  have hb1:decide (fu>0)=false:=by simpa using h1
  have hb2:decide (0<fu)=false:=by simpa using h1
  have HG:=hid (show _/\_/\_ from⟨g1,g2,g3⟩);clear g1 g2 g3;go_enter Tryz.func161,Tryz.ntmps161;go_wp2_with fail;go_ret;obtain⟨k1,k2⟩:=Box.set1 HX.out 4 (.int .i64 (iw ca));have k3:aj (fun k=>k=d) w (w.setCell ⟨d,4,none⟩ (.int .i64 (iw ca))):=aj.aK k2 (fun k o h=>h.1);exact⟨rfl,HB.out.put (by rw[HG.out.1,HG.out.2.1,HG.out.2.2];exact k1) k3 HL.out HC.out HO.out,k3⟩
end
end Go.Proofs.YtpajagkhmodbnaaGreat

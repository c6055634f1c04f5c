/- Pr: texts of the store seat laid together by program: RdZero SvAgain SvRlog SvStart SvNum SvMas SvLayo SvOpen. Conditions: each theorem names its own. -/
import Derived.Test.YtpajagkhmodbnaaGreatPr20
import Derived.WalkSpells
namespace Go.Proofs.YtpajagkhmodbnaaGreat
set_option maxRecDepth 100000
set_option maxHeartbeats 6400000
open Lib(hid)
set_option linter.unusedSimpArgs false
set_option linter.unusedVariables false
section
open Go.RowKit
theorem QT(w:World):Calls Tryz.prog 72 #[.slice none 0 0] w fun e w'=>e=.returned (.slice none 0 0)/\w'=w:=by
 have hq:=run_eql_nil_slice (P:=Tryz.prog) w 76 120 none 0 0 0 0 Tryz.underlying76;go_enter Tryz.func72,Tryz.ntmps72;go_wp2_with fail;go_ret
 first|exact⟨rfl,rfl⟩|trivial
theorem TY(w:World):Calls Tryz.prog 71 #[.slice none 0 0] w fun e w'=>e=.returned (.slice none 0 0)/\w'=w:=by
 go_enter Tryz.func71,Tryz.ntmps71;go_wp2_with fail;go_ret
 first|exact⟨rfl,rfl⟩|trivial
theorem Nc(w:World)(f:Value):Calls Tryz.prog 182 #[.slice none 0 0,.int .i64 0,.int .i64 0,f] w fun e w'=>e=.returned (.tuple #[])/\w'=w:=by
 go_enter Tryz.func182,Tryz.ntmps182;go_wp2_with fail;go_loopw [8] (fun v8 wr=>v8=.int .i64 1/\wr=w) (fun _ _=>0)
 case atStart=>exact⟨rfl,rfl⟩
 case round=>
  obtain⟨rfl,hy⟩:=hrel;obtain rfl:w=wr:=hy.symm;go_wp2_with fail;exact bodyPost_end (v:=.tuple #[]) (by simp[results,Tryz.results182,go_sem]) rfl ⟨rfl,rfl⟩
theorem Nh(w:World)(f:Value):Calls Tryz.prog 168 #[.slice none 0 0,.int .i64 0,f] w fun e w'=>e=.returned (.tuple #[])/\w'=w:=by
 go_enter Tryz.func168,Tryz.ntmps168;go_wp2_with fail;go_loopw [7,8] (fun v7 v8 wr=>v7=.int .i64 0/\v8=.int .i64 20/\wr=w) (fun _ _ _=>0)
 case atStart=>exact⟨rfl,rfl,rfl⟩
 case round=>
  obtain⟨rfl,rfl,hy⟩:=hrel;obtain rfl:w=wr:=hy.symm;go_wp2_with fail;refine(Nc _ f).mono ?_;rintro er w1 ⟨rfl,hy⟩;obtain rfl:w=w1:=hy.symm;go_wp2_with fail;go_loopw [6,7,8] (fun v6 v7 v8 wr=>v6=.int .i64 20/\wr=w) (fun _ _ _ _=>0)
  case atStart=>exact⟨rfl,rfl⟩
  case round=>
   obtain⟨rfl,hy⟩:=hrel;obtain rfl:w=wr:=hy.symm;go_wp2_with fail;exact bodyPost_end (v:=.tuple #[]) (by simp[results,Tryz.results168,go_sem]) rfl ⟨rfl,rfl⟩
theorem Ua(w:World)(f:Value):Calls Tryz.prog 145 #[.slice none 0 0,f] w fun e w'=>e=.returned (.tuple #[])/\w'=w:=by
 go_enter Tryz.func145,Tryz.ntmps145;go_wp2_with fail;refine(Nh _ f).mono ?_;rintro er w1 ⟨rfl,hy⟩;obtain rfl:w=w1:=hy.symm;go_wp2_with fail;exact bodyPost_end (v:=.tuple #[]) (by simp[results,Tryz.results145,go_sem]) rfl ⟨rfl,rfl⟩
theorem Nj(w:World):Calls Tryz.prog 73 #[.slice none 0 0] w fun e w'=>e=.returned (.slice none 0 0)/\w'=w:=by
 go_enter Tryz.func73,Tryz.ntmps73;go_wp2_with fail;go_ret
 first|exact⟨rfl,rfl⟩|trivial
theorem Jd(w:World)(f:Value):Calls Tryz.prog 172 #[.slice none 0 0,.int .i64 0,.int .i64 0,f] w fun e w'=>e=.returned (.tuple #[])/\w'=w:=by
 go_enter Tryz.func172,Tryz.ntmps172;go_wp2_with fail;go_loopw [8] (fun v8 wr=>v8=.int .i64 1/\wr=w) (fun _ _=>0)
 case atStart=>exact⟨rfl,rfl⟩
 case round=>
  obtain⟨rfl,hy⟩:=hrel;obtain rfl:w=wr:=hy.symm;go_wp2_with fail;exact bodyPost_end (v:=.tuple #[]) (by simp[results,Tryz.results172,go_sem]) rfl ⟨rfl,rfl⟩
theorem Je(w:World)(f:Value):Calls Tryz.prog 170 #[.slice none 0 0,.int .i64 0,f] w fun e w'=>e=.returned (.tuple #[])/\w'=w:=by
 go_enter Tryz.func170,Tryz.ntmps170;go_wp2_with fail;go_loopw [7,8] (fun v7 v8 wr=>v7=.int .i64 0/\v8=.int .i64 20/\wr=w) (fun _ _ _=>0)
 case atStart=>exact⟨rfl,rfl,rfl⟩
 case round=>
  obtain⟨rfl,rfl,hy⟩:=hrel;obtain rfl:w=wr:=hy.symm;go_wp2_with fail;refine(Jd _ f).mono ?_;rintro er w1 ⟨rfl,hy⟩;obtain rfl:w=w1:=hy.symm;go_wp2_with fail;go_loopw [6,7,8] (fun v6 v7 v8 wr=>v6=.int .i64 20/\wr=w) (fun _ _ _ _=>0)
  case atStart=>exact⟨rfl,rfl⟩
  case round=>
   obtain⟨rfl,hy⟩:=hrel;obtain rfl:w=wr:=hy.symm;go_wp2_with fail;exact bodyPost_end (v:=.tuple #[]) (by simp[results,Tryz.results170,go_sem]) rfl ⟨rfl,rfl⟩
theorem Nk(w:World)(f:Value):Calls Tryz.prog 148 #[.slice none 0 0,f] w fun e w'=>e=.returned (.tuple #[])/\w'=w:=by
 go_enter Tryz.func148,Tryz.ntmps148;go_wp2_with fail;refine(Je _ f).mono ?_;rintro er w1 ⟨rfl,hy⟩;obtain rfl:w=w1:=hy.symm;go_wp2_with fail;exact bodyPost_end (v:=.tuple #[]) (by simp[results,Tryz.results148,go_sem]) rfl ⟨rfl,rfl⟩
theorem Ub(w:World):Calls Tryz.prog 153 #[.slice none 0 0] w fun e w'=>e=.returned (.slice none 0 0)/\w'=w:=by
 go_enter Tryz.func153,Tryz.ntmps153;go_wp2_with fail;go_ret
 first|exact⟨rfl,rfl⟩|trivial
theorem Uc(w:World)(al:Option Addr)(cl:Nat):Calls Tryz.prog 117 #[.slice al 0 cl] w fun e w'=>e=.returned (.tuple #[.slice none 0 0,.slice none 0 0,.int .i64 0])/\w'=w:=by
 go_enter Tryz.func117,Tryz.ntmps117;go_wp2_with fail;go_loopw [2,3,4,11] (fun v2 v3 v4 i wr=>v2=.slice none 0 0/\v3=.slice none 0 0/\v4=.int .i64 0/\i=.int .i64 (0:Nat)/\wr=w) (fun _ _ _ _ _=>0)
 case atStart=>exact⟨rfl,rfl,rfl,rfl,rfl⟩
 case round=>
  obtain⟨rfl,rfl,rfl,rfl,hy⟩:=hrel;obtain rfl:w=wr:=hy.symm;go_wp2_with fail;refine(Ua _ _).mono ?_;rintro er w1 ⟨rfl,hy⟩;obtain rfl:w=w1:=hy.symm;go_wp2_with fail;refine(Nk _ _).mono ?_;rintro er w1 ⟨rfl,hy⟩;obtain rfl:w=w1:=hy.symm;go_wp2_with fail;refine(TY _).mono ?_;rintro er w1 ⟨rfl,hy⟩;obtain rfl:w=w1:=hy.symm;go_wp2_with fail;refine(Nj _).mono ?_;rintro er w1 ⟨rfl,hy⟩;obtain rfl:w=w1:=hy.symm;go_wp2_with fail;go_ret3
  first|exact⟨rfl,rfl⟩|trivial
theorem abS(w:World)(al:Option Addr)(cl:Nat)(f:Value):Calls Tryz.prog 150 #[.slice al 0 cl,.slice none 0 0,f] w fun e w'=>e=.returned (.slice none 0 0)/\Below w.heap.size w w':=by
 go_enter Tryz.func150,Tryz.ntmps150;go_wp2_with fail;go_ret
 first|exact⟨rfl,Below.refl _ _⟩|exact Below.refl _ _
theorem abT(w:World)(al:Option Addr)(cl:Nat):Calls Tryz.prog 119 #[.slice al 0 cl,.slice none 0 0] w fun e w'=>e=.returned (.slice none 0 0)/\w'=w:=by
 go_enter Tryz.func119,Tryz.ntmps119;go_wp2_with fail;go_step3;go_wp2_with fail;go_loopw [5,6,18] (fun v5 v6 i wr=>v5=.slice none 0 0/\v6=.slice none 0 0/\i=.int .i64 (0:Nat)/\wr=w) (fun _ _ _ _=>0)
 case atStart=>exact⟨rfl,rfl,rfl,rfl⟩
 case round=>
  obtain⟨rfl,rfl,rfl,hy⟩:=hrel;obtain rfl:w=wr:=hy.symm;go_wp2_with fail;go_step3;go_wp2_with fail;go_loopw [9,47] (fun v9 i wr=>v9=.int .i64 (-1)/\i=.int .i64 (0:Nat)/\wr=w) (fun _ _ _=>0)
  case atStart=>exact⟨rfl,rfl,rfl⟩
  case round=>
   obtain⟨rfl,rfl,hy⟩:=hrel;obtain rfl:w=wr:=hy.symm;go_wp2_with fail;refine(Ub _).mono ?_;rintro er w1 ⟨rfl,hy⟩;obtain rfl:w=w1:=hy.symm;go_wp2_with fail;rw[Exit.noGoto_ret];go_ret
   first|exact⟨rfl,rfl⟩|trivial
end
section
open Go.RowKit
section
variable{W0 w w' w2:World}{A:bG}{c:Cf}{σ:St}{S:Nat->Prop}{vl vo gV:Value}{EL:List Le}{EO:List Te}{K S1:Nat->Prop}{X:Nat->Prop}
theorem Zx(h:aP W0 w A c σ vl vo [] EO K S1):
  Calls Tryz.prog 118 #[.pointer (some ⟨A.sb,0,none⟩),.slice none 0 0] w fun er w'=>er=.returned (.int .i64 0)/\Below w.heap.size w w':=by
 obtain⟨al,cl,hvl⟩:=bF h.ln.row;have hb1:Below w.heap.size w (w.alloc (.cells #[.pointer (some ⟨A.sb,0,none⟩)] 28)):=(Below.refl _ _).alloc (Nat.le_refl _) _;have hb2:Below w.heap.size w ((w.alloc (.cells #[.pointer (some ⟨A.sb,0,none⟩)] 28)).alloc (.cells #[.int .i64 0] 35)):=hb1.alloc (by simp) _;have h2:=h.below hb2;have bb:=(Box.new w #[.pointer (some ⟨A.sb,0,none⟩)] 28 rfl).alloc (.cells #[.int .i64 0] 35);have bd:=Box.new (w.alloc (.cells #[.pointer (some ⟨A.sb,0,none⟩)] 28)) #[.int .i64 0] 35 rfl;obtain⟨t2,ht2⟩:∃x,w.heap.size=x:=⟨_,rfl⟩
 have c4:=h2.bC.cell 4 _ rfl;rw[hvl]at c4;have bU:=h2.bC.lt;have HB2:=hid hb2;have xZ:=hid bb;have Az:=hid bd;have k0:=bb.cell 0 _ rfl;have Gh:=bb.lt;have hsz:(w.alloc (.cells #[.pointer (some ⟨A.sb,0,none⟩)] 28)).heap.size=w.heap.size+1:=by simp
 clear h hb1 hb2 h2 hvl bb bd;go_enter Tryz.func118,Tryz.ntmps118;go_wp2_with fail;refine(abS _ al cl _).mono ?_;rintro er y ⟨rfl,hb⟩;have HY:=hid (HB2.out.trans (hb.mono HB2.out.size));have bd:=Az.out.below hb (by simp);rw[hsz,ht2]at bd;have d0:=bd.cell 0 _ rfl;have mg:=bd.lt;clear hb bd c4 k0 Gh bU hsz;go_wp2_with fail;go_loopw [23] (fun i wr=>i=.int .i64 (0:Nat)/\wr=y) (fun _ _=>0)
 case atStart=>exact⟨rfl,rfl⟩
 case round=>
  obtain⟨rfl,hy⟩:=hrel;obtain rfl:y=wr:=hy.symm;go_wp2_with fail;go_ret
  first|exact⟨rfl,HY.out⟩|exact⟨rfl,by rw[<-ht2];exact HY.out⟩
end
theorem num_nil(w:World)(x:Nat)(ao:Option Addr)(cb:Nat)(hb:Box w x [.slice ao 0 cb,.bool false]):
  Calls Tryz.prog 163 #[.pointer (some ⟨x,0,none⟩)] w fun e w'=>e=.returned (.int .i64 0)/\w'=w.setCell ⟨x,1,none⟩ (.bool true):=by
 have c0:=hb.cell 0 _ rfl;have c1:=hb.cell 1 _ rfl;have cfz:=hb.free;have bU:=hb.lt;clear hb;go_enter Tryz.func163,Tryz.ntmps163;go_wp2_with fail;refine jC 0 rfl ?_;go_wp2_with fail;go_step3;refine⟨rfl,?_⟩;go_wp2_with fail;simp only[Exit.jump];go_ret;exact⟨rfl,rfl⟩
theorem decode_nil(w:World)(ao:Option Addr)(cb:Nat):
  Calls Tryz.prog 138 #[.slice ao 0 cb] w fun e w'=>e=.returned (.tuple #[.agg #[.int .i64 0,.int .i64 0,.int .i64 0,.int .i64 0,.int .i64 0,.int .i64 0,.slice none 0 0,.slice none 0 0,.slice none 0 0,.slice none 0 0,.int .i64 0],.int .i64 0,.bool false])/\Below w.heap.size w w':=by
 have b1:Below w.heap.size w (w.alloc (.cells #[.int .i64 0,.int .i64 0,.int .i64 0,.int .i64 0,.int .i64 0,.int .i64 0,.slice none 0 0,.slice none 0 0,.slice none 0 0,.slice none 0 0,.int .i64 0] 85)):=(Below.refl _ _).alloc (Nat.le_refl _) _;have b2:Below w.heap.size w ((w.alloc (.cells #[.int .i64 0,.int .i64 0,.int .i64 0,.int .i64 0,.int .i64 0,.int .i64 0,.slice none 0 0,.slice none 0 0,.slice none 0 0,.slice none 0 0,.int .i64 0] 85)).alloc (.cells #[.slice ao 0 cb,.bool false] 207)):=b1.alloc (by simp) _;have x1:=(Box.new w #[.int .i64 0,.int .i64 0,.int .i64 0,.int .i64 0,.int .i64 0,.int .i64 0,.slice none 0 0,.slice none 0 0,.slice none 0 0,.slice none 0 0,.int .i64 0] 85 rfl).alloc (.cells #[.slice ao 0 cb,.bool false] 207);have x2:=Box.new (w.alloc (.cells #[.int .i64 0,.int .i64 0,.int .i64 0,.int .i64 0,.int .i64 0,.int .i64 0,.slice none 0 0,.slice none 0 0,.slice none 0 0,.slice none 0 0,.int .i64 0] 85)) #[.slice ao 0 cb,.bool false] 207 rfl;have hsz:(w.alloc (.cells #[.int .i64 0,.int .i64 0,.int .i64 0,.int .i64 0,.int .i64 0,.int .i64 0,.slice none 0 0,.slice none 0 0,.slice none 0 0,.slice none 0 0,.int .i64 0] 85)).heap.size=w.heap.size+1:=by simp
 rw[hsz]at x2;obtain⟨t2,ht2⟩:∃x,w.heap.size=x:=⟨_,rfl⟩
 rw[ht2]at x1 x2;have HB2:=hid b2;have HX1:=hid x1;have O4:=hid x2;have HT2:=hid ht2;clear b1 b2 x1 x2 hsz ht2;go_enter Tryz.func138,Tryz.ntmps138;go_wp2_with fail;rw[HT2.out];have hn:=num_nil _ (t2+1) ao cb O4.out;have HN:=hid hn;clear hn;generalize (w.alloc (.cells #[.int .i64 0,.int .i64 0,.int .i64 0,.int .i64 0,.int .i64 0,.int .i64 0,.slice none 0 0,.slice none 0 0,.slice none 0 0,.slice none 0 0,.int .i64 0] 85)).alloc (.cells #[.slice ao 0 cb,.bool false] 207)=w2 at *;refine HN.out.mono ?_;rintro er y ⟨rfl,rfl⟩;have x2:=O4.out.setCell 1 (.bool true);have x1:=HX1.out.MQ (show t2+1≠t2 by omega) 1 (.bool true);have hb:=HB2.out.setCell (p:=⟨t2+1,1,none⟩) (by show w.heap.size<=t2+1;have:=HT2.out;omega) (.bool true);generalize w2.setCell ⟨t2+1,1,none⟩ (.bool true)=y at *;have HB3:=hid hb;have sN:Hid (Box y t2 [.int .i64 0,.int .i64 0,.int .i64 0,.int .i64 0,.int .i64 0,.int .i64 0,.slice none 0 0,.slice none 0 0,.slice none 0 0,.slice none 0 0,.int .i64 0]):=hid x1;have d1:y.cell? ⟨t2+1,1,none⟩=some (.bool true):=x2.cell 1 _ rfl;have mg:=x2.lt;have z0:=sN.out.cell 0 _ rfl;have z1:=sN.out.cell 1 _ rfl;have z2:=sN.out.cell 2 _ rfl;have z3:=sN.out.cell 3 _ rfl;have z4:=sN.out.cell 4 _ rfl;have z5:=sN.out.cell 5 _ rfl;have z6:=sN.out.cell 6 _ rfl;have z7:=sN.out.cell 7 _ rfl;have z8:=sN.out.cell 8 _ rfl;have z9:=sN.out.cell 9 _ rfl;have z10:=sN.out.cell 10 _ rfl;have Qw:=sN.out.free;have IL:=sN.out.lt;clear x1 x2 hb HN O4;go_wp2_with fail;clear z0 z1 z2 z3 z4 z5 z6 z7 z8 z9 z10 Qw IL d1 mg;obtain⟨hp1,hp2⟩:=NG sN.out (.int .i64 0) (.int .i64 0) (.int .i64 0) (.int .i64 0) (.int .i64 0) (.int .i64 0) (.slice none 0 0) (.slice none 0 0) (.slice none 0 0) (.slice none 0 0) (.int .i64 0)
 generalize (((((((((((y.setCell ⟨t2,0,none⟩ (.int .i64 0)).setCell ⟨t2,1,none⟩ (.int .i64 0)).setCell ⟨t2,2,none⟩ (.int .i64 0)).setCell ⟨t2,3,none⟩ (.int .i64 0)).setCell ⟨t2,4,none⟩ (.int .i64 0)).setCell ⟨t2,5,none⟩ (.int .i64 0)).setCell ⟨t2,6,none⟩ (.slice none 0 0)).setCell ⟨t2,7,none⟩ (.slice none 0 0)).setCell ⟨t2,8,none⟩ (.slice none 0 0)).setCell ⟨t2,9,none⟩ (.slice none 0 0)).setCell ⟨t2,10,none⟩ (.int .i64 0))=y2 at *;have hbl:Below w.heap.size w y2:=HB3.out.trans (hp2.below (fun k hk=>⟨Nat.lt_of_lt_of_le hk HB3.out.size,fun e=>by have:=HT2.out;omega⟩));have hag:(isAgg 85).run Tryz.prog y2=.ok true y2:=by kernel_rfl
 have hsz:(Go.sizeOf 85).run Tryz.prog y2=.ok 11 y2:=by kernel_rfl
 have hld:=run_loadCellsFrom_list Tryz.prog y2 ⟨t2,0,none⟩ [.int .i64 0,.int .i64 0,.int .i64 0,.int .i64 0,.int .i64 0,.int .i64 0,.slice none 0 0,.slice none 0 0,.slice none 0 0,.slice none 0 0,.int .i64 0] 11 rfl (fun i v hi=>by rw[Addr.add_lit,Nat.zero_add];exact hp1.cell i v hi);have q0:=hp1.cell 0 _ rfl;have q1:=hp1.cell 1 _ rfl;have q2:=hp1.cell 2 _ rfl;have q3:=hp1.cell 3 _ rfl;have q4:=hp1.cell 4 _ rfl;have q5:=hp1.cell 5 _ rfl;have q6:=hp1.cell 6 _ rfl;have q7:=hp1.cell 7 _ rfl;have q8:=hp1.cell 8 _ rfl;have q9:=hp1.cell 9 _ rfl;have q10:=hp1.cell 10 _ rfl;refine bodyPost_ret (v:=.tuple #[.agg #[.int .i64 0,.int .i64 0,.int .i64 0,.int .i64 0,.int .i64 0,.int .i64 0,.slice none 0 0,.slice none 0 0,.slice none 0 0,.slice none 0 0,.int .i64 0],.int .i64 0,.bool false]) ?_ rfl ⟨rfl,hbl⟩;simp[results,Tryz.results138,go_sem,loadVar,hag,hsz,loadCells,asAddr,Result.andThen,q0,q1,q2,q3,q4,q5,q6,q7,q8,q9,q10]
end
section
open Go.RowKit
end
section
open Go.RowKit
section
variable{W0 w w' w2:World}{A:bG}{c:Cf}{σ:St}{S:Nat->Prop}{vl vo gV:Value}{EL:List Le}{EO:List Te}{K S1:Nat->Prop}{X:Nat->Prop}
theorem aP.Zy(h:aP W0 w A c σ vl vo EL EO K S1):Calls Tryz.prog 83 #[.pointer (some ⟨A.r,0,none⟩)] w fun e w'=>e=.returned (.int .i64 (σ.io.R.fin:Nat))/\w'=w:=by
 obtain⟨S5,gW,_⟩:=h.EW;obtain⟨Y1,uy⟩:=gW.at;exact JK uy
theorem WZ(h:aP W0 w A c σ vl vo EL EO K S1)(ht:σ.io.R.tail=σ.io.R.fin):
  Calls Tryz.prog 58 #[.pointer (some ⟨A.r,0,none⟩)] w fun e w'=>∃aT,e=.returned (.int .i64 0)/\aP W0 w' A c σ vl vo EL EO K aT/\aG S1 aT w w':=by
 refine(LD h).mono ?_;rintro e w' ⟨aT,rfl,h1,h2⟩;have e1:({ σ with io:={ D:=(σ.io.R.flush c.n σ.io.D).2,R:=(σ.io.R.flush c.n σ.io.D).1 } }:St)=σ:=by
  unfold Rg.flush;rw[if_pos ht]
 rw[e1]at h1;exact⟨aT,rfl,h1,h2⟩
end
end
section
open Go.RowKit
def dN(l:List UInt8):Nat:=l.foldl (fun n c=>n*256+c.toNat) 0
theorem Zz(l:List UInt8)(c:UInt8):dN (l++[c])=dN l*256+c.toNat:=by simp[dN]
theorem oI(L:List UInt8)(t:Nat)(h:t<L.length):dN (L.take (t+1))=dN (L.take t)*256+(L[t]).toNat:=by
 rw[List.take_add_one,List.getElem?_eq_getElem h];exact Zz _ _
theorem DY(L:List UInt8):∀t,t<=L.length->dN (L.take t)<=dN L:=by
 intro t ht
 induction hk:L.length-t generalizing t with
 | zero=>rw[List.take_of_length_le (by omega)];exact Nat.le_refl _
 | succ k ih=>
  have h1:=ih (t+1) (by omega) (by omega);rw[oI L t (by omega)]at h1;omega
theorem oJ(n:Nat)(h:n<=1152921504606846976):dN (aJ n)=n:=by
 simp only[aJ,dN,hbyte,List.range,List.range.loop,List.map,List.foldl,UInt8.toNat_ofNat'];omega
theorem Kt(a:Nat)(c:UInt8)(h:a*256+c.toNat<=4611686018427387904):bits BinOp.or IntKind.i64 ((a:Int)*256) (c.toNat:Int)=((a*256+c.toNat:Nat):Int):=by
 have hc:=c.toNat_lt;have e0:((a:Int)*256)=((a*256:Nat):Int):=by omega
 have e1:(BitVec.ofInt 64 ((a*256:Nat):Int) ||| BitVec.ofInt 64 (c.toNat:Int)).toNat=a*256+c.toNat:=by
  rw[BitVec.toNat_or,BitVec.ofInt_natCast,BitVec.ofInt_natCast,BitVec.toNat_ofNat,BitVec.toNat_ofNat,Nat.mod_eq_of_lt (by omega),Nat.mod_eq_of_lt (by omega)];have:=Nat.two_pow_add_eq_or_of_lt (i:=8) (b:=c.toNat) (by omega) a;rw[show a*256=2 ^ 8*a by omega,this]
 rw[e0];show IntKind.i64.wrap ((BitVec.ofInt 64 ((a*256:Nat):Int) ||| BitVec.ofInt 64 (c.toNat:Int)).toNat:Int)=_;rw[e1];simp[IntKind.wrap,IntKind.signed,IntKind.bits];omega
theorem W9(w:World)(g o m cc:Nat)(L:List UInt8)(hL:L.length=8)(hm:8<=m)(hc:m<=cc)(hcc:cc<=1000000)(hn:dN L<=1152921504606846976)(hg:g<w.heap.size)(hl:∀j c,L[j]? = some c->w.cell? ⟨g,o+j,none⟩=some (B c)):
  Calls Tryz.prog 110 #[.slice (some ⟨g,o,none⟩) m cc] w fun e w'=>e=.returned (.int .i64 (dN L:Nat))/\w'=w:=by
 have HL:=hid hl;have nS:=hid hL;have HN:=hid hn;have hc8:8<=cc:=by omega
 have hc0:0<cc:=by omega
 have b1:decide ((cc:Int)<8)=false:=by simp;omega
 have b2:decide (cc<8)=false:=by simp;omega
 clear hl hn;go_enter Tryz.func110,Tryz.ntmps110;go_wp2_with fail;go_loopw [3,5,9] (fun nn cz j wr=>∃t:Nat,t<=8/\j=.int .i64 t/\nn=.int .i64 ((dN (L.take t):Nat):Int)/\wr=w) (fun _ _ j _=>8-(intOf j).toNat)
 case atStart=>exact⟨0,by omega,rfl,rfl,rfl⟩
 case round=>
  obtain⟨t,ht,rfl,rfl,hy⟩:=hrel;obtain rfl:w=wr:=hy.symm;by_cases hlt:t<8
  ·have htl:t<L.length:=by rw[nS.out];exact hlt
   have hck:=HL.out t _ (List.getElem?_eq_getElem htl);simp only[B]at hck;have hsm:=DY L (t+1) (by omega);rw[oI L t htl]at hsm;have HS:=hid (oI L t htl);generalize hae:dN (L.take t)=a at hsm HS⊢;generalize hce:L[t]=cb at hck hsm HS;have hcb:=cb.toNat_lt;have hab:a<=4503599627370496:=by have:=HN.out;omega
   have HO:=hid (Kt a cb (by have:=HN.out;omega));clear hae hce hsm;go_wp2_with fail;go_roundw
   case rel=>exact⟨t+1,by omega,by go_num,by rw[HS.out];exact congrArg (Value.int IntKind.i64) HO.out,trivial⟩
   case measure=>simp[intOf];omega
  ·obtain rfl:t=8:=by omega
   have HT:=hid (show L.take 8=L from List.take_of_length_le (Nat.le_of_eq nS.out));go_wp2_with fail;go_ret;rw[HT.out];exact⟨rfl,rfl⟩
end
section
open Go.RowKit
section
variable{W0 w w' w2:World}{d:Nat}{D:Dv}{S:Nat->Prop}
theorem Dv.rJ(D:Dv)(k:Nat):(D.reads k).sec=D.sec:=by
 induction k with
 | zero=>rfl
 | succ k ih=>rw[<-ih];rfl
theorem Dv.fM(D:Dv)(k:Nat):(D.reads k).l.length=D.l.length:=by
 induction k with
 | zero=>rfl
 | succ k ih=>rw[<-ih];rfl
theorem Dv.Xa(D:Dv)(k:Nat):(D.reads k).dead=D.dead:=by
 induction k with
 | zero=>rfl
 | succ k ih=>rw[<-ih];rfl
theorem aii{w:World}{g:Nat}{a0 a1 a2 a3:Value}(h:Box w g [a0,a1,a2,a3])(v0 v1 v2 v3:Value):
  Box ((((w.setCell ⟨g,0,none⟩ v0).setCell ⟨g,1,none⟩ v1).setCell ⟨g,2,none⟩ v2).setCell ⟨g,3,none⟩ v3) g [v0,v1,v2,v3]/\aj (fun b=>b=g) w ((((w.setCell ⟨g,0,none⟩ v0).setCell ⟨g,1,none⟩ v1).setCell ⟨g,2,none⟩ v2).setCell ⟨g,3,none⟩ v3):=
 ⟨(((h.setCell 0 v0).setCell 1 v1).setCell 2 v2).setCell 3 v3,((((aF w g 0 v0).trans (aF _ g 1 v1)).trans (aF _ g 2 v2)).trans (aF _ g 3 v3))⟩
end
end
section
open Go.RowKit
def BD(n:Int):Int×Int:=if n<128 then(0,0)else(n / 4,(n-2-n / 4-5) / 4)
theorem abU(n:Nat):BD (n:Int)=((((jg n).1:Nat):Int),(((jg n).2:Nat):Int)):=by
 unfold BD jg;by_cases h:n<128
 ·rw[if_pos (by omega),if_pos h];rfl
 ·rw[if_neg (by omega),if_neg h];refine Prod.ext ?_ ?_<;>simp only<;>omega
theorem BF(w:World)(n:Int)(h1 : -9223372036854775808<=n)(h2:n<=9223372036854775807):
  Calls Tryz.prog 16 #[.int .i64 n] w fun e w'=>e=.returned (.tuple #[.int .i64 (BD n).1,.int .i64 (BD n).2])/\w'=w:=by
 by_cases h:n<128
 ·have hE:=hid (show BD n=(0,0) by unfold BD;rw[if_pos h]);have hb:decide (n<128)=true:=by simpa using h
  rw[hE.out];go_enter Tryz.func16,Tryz.ntmps16;go_wp2_with fail;go_ret2;exact⟨rfl,rfl⟩
 ·have hE:=hid (show BD n=(n / 4,(n-2-n / 4-5) / 4) by unfold BD;rw[if_neg h]);have hb:decide (n<128)=false:=by simpa using h
  rw[hE.out];go_enter Tryz.func16,Tryz.ntmps16;go_wp2_with fail;go_ret2;exact⟨rfl,rfl⟩
theorem ZA{W0 w:World}{d:Nat}{D:Dv}{S:Nat->Prop}(h:DV W0 d D S w)(hgood:D.good)(hcl:D.c.length<=1000)(fr pg:Nat)(hpg:1<=pg)(hq:fr+5+4*pg<=D.l.length)(hz:D.sec fr=dB):
  Calls Tryz.prog 80 #[.pointer (some ⟨d,0,none⟩),.int .i64 (fr:Nat),.int .i64 (pg:Nat)] w fun e w'=>∃f,e=.returned (.tuple #[.pointer (some ⟨f,0,none⟩),.int .i64 0])/\iG w' f d fr pg false/\¬S f/\w.heap.size<=f/\DV W0 d (D.reads 1) S w'/\aj S w w':=by
 have hn:=h.ok.n;have hsz:=h.size;obtain⟨n,hnn⟩:∃n,D.l.length=n:=⟨_,rfl⟩
 rw[hnn]at hsz hq hn;have ny:=hid hsz;have H:=hid h;have HG:=hid hgood;have HN:=hid hnn;have HZ:=hid hz;have HQ:=hid hq;have hb1:decide ((pg:Int)<1)=false:=by simp;omega
 have hb2:decide ((fr:Int)<0)=false:=by simp
 have hb3:decide ((n:Int)<(fr:Int))=false:=by simp;omega
 have hb4:decide ((n:Int)-(fr:Int)<5)=false:=by simp;omega
 have hb5:decide (n<fr)=false:=by simp;omega
 clear hsz h hgood hnn hz;go_enter Tryz.func80,Tryz.ntmps80;go_wp2_with fail;refine ny.out.mono ?_;rintro e wh ⟨rfl,rfl⟩;go_wp2_with fail;refine ny.out.mono ?_;rintro e wh ⟨rfl,rfl⟩;go_wp2_with fail;refine ny.out.mono ?_;rintro e wh ⟨rfl,rfl⟩;go_wp2_with fail;have bx:=Box.new wh #[.pointer (some ⟨d,0,none⟩),.int .i64 (fr:Nat),.int .i64 (pg:Nat),.bool false] 147 rfl;have hal:Below wh.heap.size wh (wh.alloc (.cells #[.pointer (some ⟨d,0,none⟩),.int .i64 (fr:Nat),.int .i64 (pg:Nat),.bool false] 147)):=(Below.refl _ _).alloc (Nat.le_refl _) _;have H1:Hid (DV W0 d D S (wh.alloc (.cells #[.pointer (some ⟨d,0,none⟩),.int .i64 (fr:Nat),.int .i64 (pg:Nat),.bool false] 147))):=hid (H.out.below hal);have ji:=hid hal;obtain⟨f,hf⟩:∃f,wh.heap.size=f:=⟨_,rfl⟩
 rw[hf]at bx ji⊢;clear hal;generalize wh.alloc (.cells #[.pointer (some ⟨d,0,none⟩),.int .i64 (fr:Nat),.int .i64 (pg:Nat),.bool false] 147)=w1 at *;refine(ug H1.out HG.out.dead fr (by rw[HN.out];omega)).mono ?_;rintro e w2 ⟨g,rfl,hdv,hbuf,hg,hgr⟩;rw[HZ.out]at hbuf;have H2:=hid hdv;have HG2:=hid hgr;have HB2:=hid hbuf;have iC:=hid bx;have hz:∀k,k<8->w2.cell? ⟨g,k,none⟩=some (.int .u8 0):=fun k hk=>hbuf.cell k _ (by rw[dB,List.map_replicate,List.getElem?_replicate,if_pos (by omega)];rfl);have zk:=hbuf.lt;clear hdv hgr hbuf bx hb1 hb2 hb3 hb4 hb5;go_wp2_with fail;go_loopw [11,66] (fun s z wr=>∃k:Nat,k<=8/\z=.int .i64 k/\s=.int .i64 0/\wr=w2) (fun _ z _=>8-(intOf z).toNat)
 case atStart=>exact⟨0,Nat.zero_le _,rfl,rfl,rfl⟩
 case round=>
  obtain⟨k,hk,rfl,rfl,rfl⟩:=hrel;by_cases hk8:k<8
  case neg=>
   obtain rfl:k=8:=by omega
   go_wp2_with fail;go_ret2;have hfS:¬S f:=fun hs=>by have:=(H.out.lt f hs).2;omega
   have hfd:f≠d:=fun e=>hfS (e▸H.out.self);refine⟨f,rfl,iC.out.aH HG2.out hfd,hfS,by omega,H2.out,?_⟩;exact(aj.step (X:=S) (Y:=fun _=>False) (aj.refl _) (aC (by rw[hf];exact ji.out)) (fun _ _ h=>h.elim)).step HG2.out (fun q _ e=>e▸H.out.self)
  have hkb:decide ((k:Int)<8)=true:=by simp;omega
  have hc:=hz k hk8;have hpb:decide ((0:Int)>(pg:Int))=false:=by simp
  have auF:decide ((pg:Int)<0)=false:=by simp
  go_wp2_with fail;exact⟨⟨k+1,by omega,by simp,by rfl,trivial⟩,by simp[intOf];omega⟩
section
variable{W0:World}{n f pg:Nat}{T:Type}{aag:T->(Nat->Prop)->World->Prop}{s:T}{S1 S2:Nat->Prop}{w:World}{fn:Nat}{caps:Array Value}{O:qc T}
theorem abV(hF:nI W0 f pg fn caps aag O)(h3:DM W0 S1 w)(h4:aag s S2 w)(h9:dA S1 S2)(h1:1<=n)(h2:n<=64):
  Calls Tryz.prog 81 #[.pointer (some ⟨f,0,none⟩),.int .i64 (n:Nat),.func (.func fn) #[] caps] w fun e w'=>∃g S',e=.returned (.tuple #[.pointer (some ⟨g,0,none⟩),.int .i64 0])/\PV W0 g n f pg (.func (.func fn) #[] caps) aag (Pq.new n) s S' w'/\Below w.heap.size w w'/\(∀k,S' k->(S1 k\/S2 k)\/w.heap.size<=k):=by
 have hb1:decide ((n:Int)<1)=false:=by simp;omega
 have hb2:decide ((n:Int)>64)=false:=by simp;omega
 have hb3:decide (64<(n:Int))=false:=by simp;omega
 have hb4:decide (64<n)=false:=by simp;omega
 have hb5:decide (n<1)=false:=by simp;omega
 obtain⟨i0,hi,hz0,hz1,hz2⟩:=info_parts agL;have H3:=hid h3;have H4:=hid h4;have H9:=hid h9;have HF:=hid hF;have hbs:=h3.bel.size;have hfn:=fun w=>agM (P:=Tryz.prog) w _ fn caps Tryz.underlying52;clear h3 h4 h9 hF;go_enter Tryz.func81,Tryz.ntmps81;go_wp2_with (at_make;refine wpList_make_full _ rfl _ _ 155 rfl w.heap.size 159 i0 (.agg Z6) 6 Tryz.underlying155 hi hz0 hz1 .i64 .i64 _ _ n rfl rfl rfl rfl (by rw[hz2];omega) (by unfold maxLen;omega) (Nat.le_refl _) ?_;intro w0 hown0 hgrow0);have hb0:Below w.heap.size w w0:=(Below.refl w.heap.size w).grown hgrow0 (Nat.le_refl _) (fun q e=>by cases e);have bx:=Box.new w0 #[.pointer (some ⟨f,0,none⟩),.slice (some ⟨w.heap.size,0,none⟩) n n,.func (.func fn) #[] caps,.int .i64 0,.int .i64 0] 157 rfl;have hal:=hb0.alloc hb0.size (.cells #[.pointer (some ⟨f,0,none⟩),.slice (some ⟨w.heap.size,0,none⟩) n n,.func (.func fn) #[] caps,.int .i64 0,.int .i64 0] 157);have hrow:w0.ownsRow w.heap.size 159 6 (.slice (some ⟨w.heap.size,0,none⟩) n n) n (nC (newE n 0)):=by
  have:=hown0;rw[show(Value.agg Z6).cells=Z6 from rfl,TN]at this;exact this
 have hrow1:=hrow.alloc (.cells #[.pointer (some ⟨f,0,none⟩),.slice (some ⟨w.heap.size,0,none⟩) n n,.func (.func fn) #[] caps,.int .i64 0,.int .i64 0] 157);have hlb:w.heap.size<w0.heap.size:=(hrow.lt w.heap.size rfl).2;have hat:dD (w0.alloc (.cells #[.pointer (some ⟨f,0,none⟩),.slice (some ⟨w.heap.size,0,none⟩) n n,.func (.func fn) #[] caps,.int .i64 0,.int .i64 0] 157)) W0.heap.size w0.heap.size w.heap.size n f (.func (.func fn) #[] caps) (newE n 0) 0 0 (fun _=>False):=
  ⟨bx,own_base hrow1 hbs,OV (Nat.zero_le _),fun e he=>by obtain⟨e1,e2⟩:=aa5 he;rw[e1,e2];exact bH.nil,fun k h=>h.elim,fun h=>h,fun h=>h,by omega⟩
 obtain⟨lb,Xb⟩:∃x,w.heap.size=x:=⟨_,rfl⟩
 obtain⟨g,hge⟩:∃x,w0.heap.size=x:=⟨_,rfl⟩
 rw[Xb,hge]at hat;rw[Xb]at hal hlb;have LH:=hid Xb;rw[Xb,hge];clear hown0 hgrow0 hrow hrow1 bx hb0;generalize w0.alloc (.cells #[.pointer (some ⟨f,0,none⟩),.slice (some ⟨lb,0,none⟩) n n,.func (.func fn) #[] caps,.int .i64 0,.int .i64 0] 157)=w1 at *;have c1:=hat.box.cell 1 _ rfl;have glt:=hat.box.lt;have HAT:=hid hat;have ji:=hid hal;clear hat hal;go_wp2_with fail;go_loopw [35] (fun z wr=>∃k:Nat,k<=n/\z=.int .i64 k/\dD wr W0.heap.size g lb n f (.func (.func fn) #[] caps) (newE n k) 0 0 (fun _=>False)/\Below lb w wr/\g<wr.heap.size) (fun z _=>n-(intOf z).toNat)
 case atStart=>exact⟨0,Nat.zero_le _,rfl,HAT.out,ji.out,glt⟩
 case round=>
  obtain⟨k,hk,rfl,hat,hbl,hgz⟩:=hrel;have d1:=hat.box.cell 1 _ rfl;have mg:=hat.box.lt;have qK:=hat.tC;have rV:=hat.ll.2;have HA:=hid hat;have HB:=hid hbl;by_cases hkn:k<n
  ·have x0:=hat.cell k _ (UF hkn) 0 _ rfl;rw[Nat.add_zero]at x0;simp only[Fm.zero]at x0;have hkb:decide (k<n)=true:=by simpa using hkn
   obtain⟨a1,a2⟩:=hat.lM k _ (Fm.free,.slice none 0 0) (UF hkn) 0 (by omega) (.int .i64 (-1)) rfl bH.nil;rw[Nat.add_zero,YW hkn]at a1;rw[Nat.add_zero]at a2;have HA1:=hid a1;have HA2:=hid a2;clear hat hbl a1 a2;go_wp2_with fail;go_roundw
   ·exact⟨k+1,by omega,by go_num,HA1.out,HB.out.trans (HA2.out.below (fun k hk=>⟨by have:=HB.out.size;have:=LH.out;omega,fun e=>by omega⟩)),by have:=HA2.out.size;omega⟩
   ·simp[intOf];omega
  ·obtain rfl:k=n:=by omega
   clear hat hbl;go_wp2_with fail;go_ret2;have hmF:(newE k k).map (·.1)=List.replicate k Fm.free:=by simp[newE]
   have hlw:w.heap.size=lb:=LH.out;have hbw:Below w.heap.size w wr:=by rw[hlw];exact HB.out
   have h3':=H3.out.below hbw;have h4':aag s S2 wr:=HF.out.grow _ _ (fun _=>False) _ _ H4.out (aC hbw) (fun _ _ h=>h) h3'.bel;refine⟨g,_,rfl,⟨lb,newE k k,_,S1,S2,HA.out,by omega,h3',h4',hmF,afk h1 h2,?_,?_,H9.out,rfl⟩,hbw,?_⟩
   ·rintro q (e|e|e) hs
    ·have:=(H3.out.lt q hs).2;omega
    ·have:=(H3.out.lt q hs).2;omega
    ·exact e
   ·rintro q (e|e|e) hs
    ·have:=(HF.out.lt _ _ _ H4.out q hs).2;omega
    ·have:=(HF.out.lt _ _ _ H4.out q hs).2;omega
    ·exact e
   ·rintro q ((e|e|e)|hs)
    ·exact .inr (by omega)
    ·exact .inr (by omega)
    ·exact e.elim
    ·exact .inl hs
end
end
section
open Go.RowKit
section
variable{W0 w w' w2:World}{r d n:Nat}{D:Dv}{S:Nat->Prop}{s:Io}
theorem Dv.Ku(D:Dv)(k:Nat):(D.reads k).c=D.c:=by
 induction k with
 | zero=>rfl
 | succ k ih=>rw[<-ih];rfl
theorem Kv{a b:Nat}(h:(Value.tuple #[.pointer (some ⟨a,0,none⟩),.int .i64 0])=.tuple #[.pointer (some ⟨b,0,none⟩),.int .i64 0]):a=b:=by
 injection h with h;injection h with h;injection h with h _;injection h with h;injection h with h;injection h with h
theorem abW(h:dY W0 r d n s S w)(hcl:s.D.c.length<=1000)(fr pg:Nat)(hpg:1<=pg)(hq:fr+5+4*pg<=s.D.l.length)(hz:s.D.sec fr=dB):
  Calls Tryz.prog 80 #[.pointer (some ⟨d,0,none⟩),.int .i64 (fr:Nat),.int .i64 (pg:Nat)] w fun e w'=>∃f S',e=.returned (.tuple #[.pointer (some ⟨f,0,none⟩),.int .i64 0])/\dY W0 r d n { s with D:=s.D.reads 1 } S' w'/\iG w' f d fr pg false/\¬S' f/\w.heap.size<=f/\aG S S' w w':=by
 have hlt:=h.lt;obtain⟨vb,S0,h1,h2,h3,h4,h5,h6,h7,rfl⟩:=h;refine(ZA h2 h3 hcl fr pg hpg hq hz).mono ?_;rintro e w' ⟨f,rfl,hb,hnf,hf,hd,hg⟩;obtain⟨z1,z2⟩:=dY.dev h1 h2 h4 h6 h7 hd (h3.reads 1) (by rw[Dv.fM];exact h5) ⟨hg,fun k hk=>.inl hk⟩;exact⟨f,_,rfl,z1,hb,fun hs=>by have:=(hlt f hs).2;omega,hf,z2⟩
end
end
end Go.Proofs.YtpajagkhmodbnaaGreat

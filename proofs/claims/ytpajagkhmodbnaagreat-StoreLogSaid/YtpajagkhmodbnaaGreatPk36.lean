/- Pk: texts of the store seat laid together by program: SvSto2 SvWrite0. Conditions: each theorem names its own. -/
import Derived.Test.YtpajagkhmodbnaaGreatPk28
namespace Go.Proofs.YtpajagkhmodbnaaGreat
set_option linter.unusedSimpArgs false
set_option linter.unusedVariables false
section
open Go.RowKit
section
variable{c:Cf}{nf k b:Nat}{σ σ':St}{W:Nat→List UInt8}
theorem end_fine(hf:Fine c k b σ)(h:StD c nf σ W){i:Nat}{x:Tx}(hx:σ.opn[i]? = some x):
  (σ.end_ c i x).1=0∧Fine c (k+1) b (σ.end_ c i x).2∧StD c nf (σ.end_ c i x).2 W∧(σ.end_ c i x).2.opn=σ.opn.eraseIdx i∧(σ.end_ c i x).2.next=σ.next∧(σ.end_ c i x).2.lines=σ.lines++[(σ.io.R.tail+1,{ Rc.zero with kind:=6,txn:=x.id,prev:=x.last })]∧(σ.end_ c i x).2.io.R.tail=σ.io.R.tail+96:=by
 have hr:=hf.room
 have hcs:=hf.cost
 have htp:=hf.top
 have hrs:=hf.res_ge hx
 have e:=St.end_eq σ c i x (by simp only[txC]at hrs;omega)
 rw[e]
 have hs:Rc.size { Rc.zero with kind:=6,txn:=x.id,prev:=x.last }=96:=rfl
 refine⟨rfl,?_,h.congr rfl rfl,rfl,rfl,rfl,?_⟩
 ·have h1:=sum_erase (l:=σ.opn.map txC) (i:=i) (a:=txC x) (by rw[List.getElem?_map,hx];rfl)
  refine hf.app { Rc.zero with kind:=6,txn:=x.id,prev:=x.last } rfl rfl (σ.opn.eraseIdx i) σ.next σ.commits 1 0 (Nat.le_refl _) (by have:=hf.next.2;omega) (Nat.le_trans hf.commits (by omega)) (Nat.le_trans (List.length_eraseIdx_le _ _) (by have:=hf.opn;omega)) (fun y hy=>?_) ?_ ?_ htp
  ·exact(hf.tx y (List.mem_of_mem_eraseIdx hy)).mono (by omega) (Nat.le_refl _)
  ·rw[map_erase]
   exact List.Nodup.sublist (List.eraseIdx_sublist _ _) hf.nd
  ·rw[hs,map_erase,res_eq]
   simp only[txC]at h1 hrs⊢
   omega
 ·show(σ.io.R.app _).tail=_
  rw[app_tail,enc_len _ rfl rfl,hs]
theorem step_fine(hf:Fine c k b σ)(h:StD c nf σ W){i:Nat}{x:Tx}(hx:σ.opn[i]? = some x)(kd:Nat)(hb:b+96+2048≤(c.n-1)*118):
  (σ.step c i x { Rc.zero with kind:=kd }).1=0∧Fine c (k+1) (b+96) (σ.step c i x { Rc.zero with kind:=kd }).2∧StD c nf (σ.step c i x { Rc.zero with kind:=kd }).2 W∧(σ.step c i x { Rc.zero with kind:=kd }).2.opn=σ.opn.set i { x with last:=σ.io.R.tail+1 }∧(σ.step c i x { Rc.zero with kind:=kd }).2.next=σ.next∧
   (σ.step c i x { Rc.zero with kind:=kd }).2.lines=σ.lines++[(σ.io.R.tail+1,{ Rc.zero with kind:=kd,txn:=x.id,prev:=x.last })]∧(σ.step c i x { Rc.zero with kind:=kd }).2.io.R.tail=σ.io.R.tail+96:=by
 have hr:=hf.room
 have hcs:=hf.cost
 have e:=St.step_eq σ c i x kd (by omega)
 rw[e]
 have hs:Rc.size { Rc.zero with kind:=kd,txn:=x.id,prev:=x.last }=96:=rfl
 refine⟨rfl,?_,h.congr rfl rfl,rfl,rfl,rfl,?_⟩
 ·exact hf.setT { Rc.zero with kind:=kd,txn:=x.id,prev:=x.last } rfl rfl hx x.l 96 σ.commits (Nat.le_trans hf.commits (by omega)) (by omega) (fun u hu=>.inl hu) (by rw[hs];omega) hb
 ·show(σ.io.R.app _).tail=_
  rw[app_tail,enc_len _ rfl rfl,hs]
theorem rollback_fine(hc:c.ok)(hf:Fine c k b σ)(h:StD c nf σ W){i:Nat}{x:Tx}(hx:σ.opn[i]? = some x)(hb:b+96+2048≤(c.n-1)*118):
  Fine c (k+3*x.l.length+2) (b+96) (σ.rollback c i x).2∧StD c nf (σ.rollback c i x).2 (popU 0 (x.l.length+1) x.l W).2∧(σ.rollback c i x).2.opn=σ.opn.eraseIdx i∧(σ.rollback c i x).2.next=σ.next:=by
 obtain⟨a1,a2,a3,a4,a5,_,_⟩:=step_fine hf h hx 5 hb
 have hi:=(List.getElem?_eq_some_iff.1 hx).1
 obtain⟨s,hs⟩:∃s,σ.step c i x { Rc.zero with kind:=5 }=(0,s):=⟨_,Prod.ext a1 rfl⟩
 rw[hs]at a2 a3 a4 a5
 simp only at a2 a3 a4 a5
 have hx2:s.opn[i]? = some { x with last:=σ.io.R.tail+1 }:=by rw[a4];exact List.getElem?_set_self hi
 obtain⟨x',r1,r2,r3,r4,r5,r6,r7,r8,r9,r10,r11⟩:=undo_fine hc i 0 x.l.length (k+1) s _ W a2 a3 hx2 (Nat.le_refl _)
 obtain⟨s2,hs2⟩:∃s2,St.undo c i 0 (x.l.length+1) s=(0,s2):=⟨_,Prod.ext r1 rfl⟩
 rw[hs2]at r2 r3 r8 r9
 simp only at r2 r3 r8 r9
 have hx3:s2.opn[i]? = some x':=by
  rw[r3];exact List.getElem?_set_self (by rw[a4,List.length_set];exact hi)
 obtain⟨e1,e2,e3,e4,e5,_,_⟩:=end_fine r2 r8 hx3
 have e:σ.rollback c i x=s2.end_ c i x':=by
  unfold St.rollback
  rw[hs]
  simp only[ne_eq,not_true_eq_false,if_false]
  rw[hs2]
  simp only[ne_eq,not_true_eq_false,if_false]
  rw[hx3]
 rw[e]
 refine⟨e2.more _ (by omega),e3,?_,by rw[e5,r9,a5]⟩
 rw[e4,r3,a4,List.set_set]
 exact List.eraseIdx_set_eq
theorem commit_fine(hc:c.ok)(hf:Fine c k b σ)(h:StD c nf σ W){i:Nat}{x:Tx}(hx:σ.opn[i]? = some x)(hb:b+96+2048≤(c.n-1)*118):
  Fine c (k+3) (b+96) (St.commit c σ i x).2∧StD c nf (St.commit c σ i x).2 W∧(St.commit c σ i x).2.opn=σ.opn.eraseIdx i∧(St.commit c σ i x).2.next=σ.next:=by
 obtain⟨a1,a2,a3,a4,a5,a6,a7⟩:=step_fine hf h hx 4 hb
 have hi:=(List.getElem?_eq_some_iff.1 hx).1
 obtain⟨s,hs⟩:∃s,(σ.step c i x { Rc.zero with kind:=4 }).2=s:=⟨_,rfl⟩
 rw[hs]at a2 a3 a4 a5
 have hx2:s.opn[i]? = some { x with last:=σ.io.R.tail+1 }:=by rw[a4];exact List.getElem?_set_self hi
 have hsame:=flush_same c.n s.io.R s.io.D
 have hf2:Fine c (k+2) (b+96) ({ s with commits:=s.commits+1,io:={ D:=(s.io.R.flush c.n s.io.D).2,R:=(s.io.R.flush c.n s.io.D).1 } }:St):=by
  have ht:=hsame.tail
  refine⟨hsame.2.2.trans a2.start,hsame.1.trans a2.base,Nat.le_trans a2.wr (by omega),?_,⟨a2.next.1,by have:=a2.next.2;show s.next≤_;omega⟩,by have:=a2.commits;show s.commits+1≤_;omega,Nat.le_trans a2.opn (by omega),?_,a2.nd,?_,a2.top⟩
  ·show 96*s.lines.length≤(s.io.R.flush c.n s.io.D).1.tail
   rw[ht];exact a2.lines
  ·show ∀y∈s.opn,TxFine c (s.io.R.flush c.n s.io.D).1.tail s.next y
   rw[ht];exact a2.tx
  ·show(s.io.R.flush c.n s.io.D).1.tail+(s.opn.map txC).sum≤_
   rw[ht];exact a2.cost
 have hd2:StD c nf ({ s with commits:=s.commits+1,io:={ D:=(s.io.R.flush c.n s.io.D).2,R:=(s.io.R.flush c.n s.io.D).1 } }:St) W:=a3.flush hc rfl rfl
 obtain⟨e1,e2,e3,e4,e5,_,_⟩:=end_fine hf2 hd2 (i:=i) (x:={ x with last:=σ.io.R.tail+1 }) hx2
 have e:St.commit c σ i x=St.end_ c ({ s with commits:=s.commits+1,io:={ D:=(s.io.R.flush c.n s.io.D).2,R:=(s.io.R.flush c.n s.io.D).1 } }:St) i { x with last:=σ.io.R.tail+1 }:=by
  unfold St.commit
  simp only[]
  rw[if_neg (by rw[a1];simp),hs]
  rw[hx2]
 rw[e]
 refine⟨e2,e3,?_,by rw[e5];exact a5⟩
 rw[e4]
 show s.opn.eraseIdx i=_
 rw[a4]
 exact List.eraseIdx_set_eq
end
section
variable{W0 w w' w2:World}{A:Adr}{c:Cf}{σ:St}{S X:Nat→Prop}{k b:Nat}{W:Nat→List UInt8}
theorem rollback_st(h:Sto W0 A c k b σ W S w)(hk:k≤900000){i:Nat}{x:Tx}(hx:σ.opn[i]? = some x)(hb:b+96+2048≤(c.n-1)*118):
  Calls Tryz.prog 30 #[.pointer (some ⟨A.sb,0,none⟩),.int .i64 (x.id:Nat)] w fun er w'=>∃σ' S',er=.returned (.int .i64 0)∧Sto W0 A c (k+3*x.l.length+2) (b+96) σ' (popU 0 (x.l.length+1) x.l W).2 S' w'∧Foot S S' w w'∧σ'.opn=σ.opn.eraseIdx i∧σ'.next=σ.next:=by
 obtain⟨r1,r2,r3,r4⟩:=rollback_fine h.ok h.fine h.std hx hb
 refine(rollback_sv h.sv h.fine (by omega) (by have:=h.fine.wr;omega) hx).mono ?_
 rintro er w' ⟨S',rfl,g1,g2⟩
 exact⟨_,S',rfl,⟨g1,r1,r2,h.ok⟩,g2,r3,r4⟩
theorem commit_st(h:Sto W0 A c k b σ W S w)(hk:k≤900000){i:Nat}{x:Tx}(hx:σ.opn[i]? = some x)(hb:b+96+2048≤(c.n-1)*118):
  Calls Tryz.prog 29 #[.pointer (some ⟨A.sb,0,none⟩),.int .i64 (x.id:Nat)] w fun er w'=>∃σ' S',er=.returned (.int .i64 0)∧Sto W0 A c (k+3) (b+96) σ' W S' w'∧Foot S S' w w'∧σ'.opn=σ.opn.eraseIdx i∧σ'.next=σ.next:=by
 obtain⟨r1,r2,r3,r4⟩:=commit_fine h.ok h.fine h.std hx hb
 refine(commit_sv h.sv h.fine (by omega) hx).mono ?_
 rintro er w' ⟨S',rfl,g1,g2⟩
 exact⟨_,S',rfl,⟨g1,r1,r2,h.ok⟩,g2,r3,r4⟩
end
end
section
open Go.RowKit
theorem busy_zero(σ:St)(t:Int)(p off:Nat):σ.busy t p off 0=false:=by
 unfold St.busy
 rw[List.any_eq_false]
 intro x _
 simp[hits]
section
variable{W0 w w':World}{A:Adr}{c:Cf}{σ:St}{S:Nat→Prop}{vl vo:Value}{EL:List Le}{EO:List Te}{K S1:Nat→Prop}{X:Nat→Prop}
set_option maxRecDepth 100000 in
set_option maxHeartbeats 6400000 in
theorem write0_at(h:SvAt W0 w A c σ vl vo EL EO K S1)(hn:EO.length≤1000000)(hr:resA EO≤1099511627776)(hu:TxB EO)(i:Nat)(e:Te)(hof:σ.of (e.x.id:Int)=some i)(hei:EO[i]? = some e)
  (p off:Nat) (ab:Option Addr) (cb:Nat) (hpg:p<c.pg) (hoff:off≤504) (hid:e.x.id≤1099511627776) (hla:e.x.last≤1099511627776) (hpp:c.pg≤1099511627776)
  (hwr:σ.p.wr+2≤1000000000):
  Calls Tryz.prog 31 #[.pointer (some ⟨A.sb,0,none⟩),.int .i64 (e.x.id:Nat),.int .i64 (p:Nat),.int .i64 (off:Nat),.slice ab 0 cb] w fun er w'=>∃S',er=.returned (.int .i64 0)∧SV W0 A c (σ.write c i e.x p off []).2 S' w'∧Foot (sfoot S1 vl vo EO K) S' w w':=by
 have HN:=Lib.hid hn
 have HR:=Lib.hid hr
 have HU:=Lib.hid hu
 have HEI:=Lib.hid hei
 have HPG:=Lib.hid hpg
 have HPP:=Lib.hid hpp
 have HWR:=Lib.hid hwr
 have HS:=Lib.hid h
 have HOFF:=Lib.hid hoff
 have c9:=h.sbx.cell 9 _ rfl
 have clt:=h.sbx.lt
 have hcall:=of_at h (e.x.id:Int) (Nat.le_trans hn (by decide))
 have HOF:=Lib.hid hcall
 have HO1:=Lib.hid hof
 have hcall2:=within_at h (p:Int) (off:Int) ((0:Nat):Int)
 rw[decide_eq_true (show _ from⟨by omega,by omega,by omega,by omega,by omega,by omega⟩)]at hcall2
 have HWI:=Lib.hid hcall2
 have hcall3:=busy_at h (Nat.le_trans hn (by decide)) (fun e he=>⟨Nat.le_trans (hu e he).1 (by decide),fun u hq=>Nat.le_trans ((hu e he).2 u hq) (by decide)⟩) (e.x.id:Int) p off 0 (by omega) (by omega)
 rw[busy_zero]at hcall3
 have HBU:=Lib.hid hcall3
 obtain⟨id,hidd⟩:∃x,e.x.id=x:=⟨_,rfl⟩
 rw[hidd]at HOF HO1 HBU hid⊢
 have HID:=Lib.hid hidd
 clear h hn hr hu hei hpg hpp hwr hof hcall hcall2 hcall3 hidd
 go_enter Tryz.func31,Tryz.ntmps31
 go_wp2_with fail
 refine HOF.out.mono ?_
 rintro er y0 ⟨⟨v,rfl,hof⟩,hy⟩
 obtain rfl:w=y0:=hy.symm
 obtain rfl:v=ptrT e:=by
  rcases hof with ⟨i',e',h1,h2,h3⟩|⟨h1,_⟩
  ·have h0:=HO1.out
   rw[h1]at h0
   obtain rfl:=Option.some.inj h0
   have h4:=HEI.out
   rw[h2]at h4
   obtain rfl:=Option.some.inj h4
   exact h3
  ·have h0:=HO1.out
   rw[h1]at h0;cases h0
 clear hof HOF
 simp only[ptrT]
 go_wp2_with fail
 refine HWI.out.mono ?_
 rintro er y0 ⟨rfl,hy⟩
 obtain rfl:w=y0:=hy.symm
 clear HWI
 go_wp2_with fail
 refine HBU.out.mono ?_
 rintro er y1 ⟨rfl,hb1⟩
 have HB1:=Lib.hid hb1
 have hs1:=HS.out.below hb1
 have HS1:=Lib.hid hs1
 have c3:=hs1.sbx.cell 3 _ rfl
 have clt1:=hs1.sbx.lt
 have hget:=sget_ok hs1 p HPG.out (by have:=HWR.out;omega)
 have HG:=Lib.hid hget
 clear hb1 hs1 hget c9 clt HBU
 go_wp2_with fail
 refine HG.out.mono ?_
 rintro er y2 ⟨g,k,S2,rfl,hrow,hgg,hkk,hng,hs2,hf2⟩
 obtain⟨pgb,hpgb⟩:∃x,(σ.get c p).2.1=x:=⟨_,rfl⟩
 rw[hpgb]at hrow
 have HPB:=Lib.hid hpgb
 have HROW:=Lib.hid hrow
 have HGG:=Lib.hid hgg
 have HKK:=Lib.hid hkk
 have HNG:=Lib.hid hng
 have HS2:=Lib.hid hs2
 have HF2:=Lib.hid hf2
 have hz0:Reads 1 y2 (.slice ab 0 cb) 0 (([]:List UInt8).map B):=⟨_,_,rfl,rfl,Nat.zero_le _,fun h=>absurd h (by omega)⟩
 have HB2:=Lib.hid hf2
 clear hrow hgg hng hs2 hf2 hpgb c3 clt1 HG
 have hrd2:=run_str_reads Tryz.underlying48 Tryz.underlying5 Tryz.underlying9 [] hz0
 have fin:SV W0 A c (σ.write c i e.x p off []).2 (sfoot S2 vl vo EO K) y2∧Foot (sfoot S1 vl vo EO K) (sfoot S2 vl vo EO K) w y2:=by
  refine⟨⟨vl,vo,EL,EO,K,S2,?_,rfl⟩,(Foot.below (grow_below HB1.out)).trans (sfoot_of HF2.out)⟩
  have e0:(σ.get c p).1=0:=(σ.get_ok c p HPG.out).1
  have e1:(σ.write c i e.x p off []).2=(σ.get c p).2.2:=by
   unfold St.write
   simp only[]
   rw[if_neg (by rw[e0];simp),if_pos (by simp)]
  rw[e1]
  exact HS2.out
 have FIN:=Lib.hid fin
 clear fin
 have hz1:Reads 1 y2 (.slice (some ⟨g,0,none⟩) 0 0) 0 (([]:List UInt8).map B):=⟨_,_,rfl,rfl,Nat.le_refl _,fun h=>absurd h (by omega)⟩
 have hz2:Reads 1 y2 (.slice (some ⟨g,8+off,none⟩) 0 (k-(8+off))) 0 (([]:List UInt8).map B):=⟨_,_,rfl,rfl,Nat.zero_le _,fun h=>absurd h (by omega)⟩
 have hrd0:=run_str_reads Tryz.underlying48 Tryz.underlying5 Tryz.underlying9 [] hz1
 have hrd1:=run_str_reads Tryz.underlying48 Tryz.underlying5 Tryz.underlying9 [] hz2
 have hss:=str_self []
 clear hz1 hz2 hz0
 go_wp2_with fail
 all_goals (go_wp2_with fail;go_ret;first|exact⟨rfl,_,FIN.out.1,FIN.out.2⟩|exact⟨_,rfl,FIN.out.1,FIN.out.2⟩)
end
section
variable{W0 w w':World}{A:Adr}{c:Cf}{σ:St}{S X:Nat→Prop}{k b:Nat}{W:Nat→List UInt8}
theorem write0_st(h:Sto W0 A c k b σ W S w)(hk:k≤900000){i:Nat}{x:Tx}(hx:σ.opn[i]? = some x)(p off:Nat)(ab:Option Addr)(cb:Nat)(hpg:p<c.pg)(hoff:off≤504):
  Calls Tryz.prog 31 #[.pointer (some ⟨A.sb,0,none⟩),.int .i64 (x.id:Nat),.int .i64 (p:Nat),.int .i64 (off:Nat),.slice ab 0 cb] w fun er w'=>∃σ' S',er=.returned (.int .i64 0)∧Sto W0 A c (k+3) b σ' W S' w'∧Foot S S' w w'∧Like σ σ':=by
 have hwr:=h.fine.wr
 have hcs:=h.fine.cost
 have htp:=h.fine.top
 have hrm:=h.fine.room
 obtain⟨a1,a2,a3⟩:=h.std.write h.ok i x p off [] hpg (by simpa using hoff) (by simp only[List.length_nil];omega)
 have e0:overB (W p) off []=W p:=by
  have:=overB_same (W p) off 0 (by rw[h.std.len hpg];omega)
  simpa using this
 rw[e0,updV_self]at a2
 have hs:SSame σ (σ.write c i x p off []).2 1:=by
  rcases a3 with ⟨_,hs⟩|⟨hne,_⟩
  ·exact hs
  ·exact absurd (by simp) hne
 obtain⟨vl,vo,EL,EO,K,S1,h1,rfl⟩:=h.sv
 obtain⟨b1,b2,b3,b4,b5,b6,b7,b8⟩:=h1.say h.fine (by omega)
 obtain⟨e,he,rfl⟩:=h1.eat hx
 obtain⟨c1,c2,c3,c4,c5,c6⟩:=b8 e (List.mem_of_getElem? he)
 refine(write0_at h1 b1 (by omega) b7 i e (h.fine.of hx) he p off ab cb hpg hoff (by omega) (by omega) (by omega) (by omega)).mono ?_
 rintro er w' ⟨S',rfl,g1,g2⟩
 exact⟨_,S',rfl,⟨g1,(h.fine.same hs).more _ (by omega),a2,h.ok⟩,g2,⟨hs.opn,hs.next,hs.lines,hs.R.tail⟩⟩
end
end
end Go.Proofs.YtpajagkhmodbnaaGreat

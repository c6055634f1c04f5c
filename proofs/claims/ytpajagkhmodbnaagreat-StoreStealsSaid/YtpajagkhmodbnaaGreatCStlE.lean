/- store.Evict of a page that one transaction wrote: what the device holds behind it. Conditions: the device does not fail. -/
import Derived.Test.YtpajagkhmodbnaaGreatPr44
namespace Go.Proofs.YtpajagkhmodbnaaGreat
set_option maxRecDepth 100000
set_option maxHeartbeats 3200000
open Lib(hid)
set_option linter.unusedSimpArgs false
set_option linter.unusedVariables false
open Go.RowKit
def og(p off:Nat)(bs:List UInt8):Rc:=uI 1 1 p off (nz bs.length) bs
theorem NT(p off:Nat)(bs:List UInt8):bV (dG 0 [jA 1,og p off bs])=⟨[(1,97,1)],[(p,97)],0⟩:=rfl
theorem ae3(p off:Nat)(bs:List UInt8):lH (dG 0 [jA 1,og p off bs]) (fH (gX [(1,97,1)])+1) (gX [(1,97,1)])=[sU 1 (og p off bs),gB 1]:=rfl
theorem amh(p off:Nat)(bs:List UInt8)(pl:Nat->Nat)(h:pl p=97):(fE [(p,97)] pl (dG 0 [jA 1,og p off bs])).2=[]:=by
 have e:dG 0 [jA 1,og p off bs]=[(1,jA 1),(97,og p off bs)]:=rfl;have e1:fC [(p,97)] (pl,[]) (1,jA 1)=(pl,[]):=by
  unfold fC;rw[if_neg];rintro⟨h1,_⟩;have h2:=of_decide_eq_true h1;rcases h2.1 with h3|h3<;>cases h3
 have e2:fC [(p,97)] (pl,[]) (97,og p off bs)=(pl,[]):=by
  unfold fC;rw[if_neg];rintro⟨_,h1⟩;have h2:pl p<97:=h1;omega
 rw[e];unfold fE;rw[List.foldl_cons,e1,List.foldl_cons,e2];rfl
theorem VG(l:List UInt8)(b:List UInt8)(n:Nat)(hb:8<=b.length)(off:Nat)(ho:8<=off)(hl:off+l.length<=b.length):(aX (aX b 0 (aJ n)) off l).take 8=aJ n:=by
 have hn:=dL n;have e1:(aX b 0 (aJ n)).length=b.length:=dK _ _ _ (Nat.zero_le _);refine List.ext_getElem? (fun i=>?_);rw[List.getElem?_take];by_cases hi:i<8
 ·rw[if_pos hi,kV _ _ _ (by omega),if_pos (by omega),kV _ _ _ (by omega),if_neg (by omega),if_pos (by omega),Nat.sub_zero]
 ·rw[if_neg hi];exact(List.getElem?_eq_none_iff.2 (by omega)).symm
theorem ami(c:Cf)(hpg:1<=c.pg)(p off:Nat)(bs:List UInt8)(hp:p<c.pg)(ho:off+bs.length<=504)(rm:Nat)(hrm:1000<=rm)(T:List T3)(Dd:List D2)(hT:T.Perm (bV (dG 0 [jA 1,og p off bs])).tx)(hD:Dd.Perm (bV (dG 0 [jA 1,og p off bs])).dr):
  X6 c (dG 0 [jA 1,og p off bs]) rm T Dd [sU 1 (og p off bs),gB 1]:=by
 rw[NT]at hT hD;obtain rfl:=List.perm_singleton.1 hT;obtain rfl:=List.perm_singleton.1 hD;refine⟨ae3 p off bs,by decide,fun x hx=>?_,by decide,by show(1:Nat)<=20;decide,fun x hx=>?_,fun r hr=>?_,?_,by show(2:Nat)<=_;decide⟩
 ·rw[List.mem_singleton.1 hx];decide
 ·rw[List.mem_singleton.1 hx];show(97:Nat)<=_;decide
 ·rcases List.mem_cons.1 hr with rfl|hr
  ·exact⟨.inl rfl,hp,by show off+(nz bs.length).length<=504;rw[jE];exact ho,_,List.mem_singleton.2 rfl,rfl⟩
  ·rw[List.mem_singleton.1 hr];exact⟨.inr rfl,hpg,by decide,_,List.mem_singleton.2 rfl,rfl⟩
 ·have e1:dR [sU 1 (og p off bs),gB 1]=96+bs.length+96:=by
   simp only[dR,List.map_cons,List.map_nil,List.sum_cons,List.sum_nil,Rc.size,sU,gB,og,uI,Rc.zero,jE,List.length_nil];omega
  rw[e1];show 96+bs.length+96+96*0<=rm;omega
theorem ac3(p off:Nat)(bs:List UInt8)(V:Nat->List UInt8)(hV:V p=aX (aX (nz 512) 0 (aJ 97)) (8+off) bs)(ho:off+bs.length<=504)(T:List T3)(Dd:List D2)(U:List Rc)(hT:T.Perm (bV (dG 0 [jA 1,og p off bs])).tx)(hD:Dd.Perm (bV (dG 0 [jA 1,og p off bs])).dr)
  (hU:lH (dG 0 [jA 1,og p off bs]) (fH (gX T)+1) (gX T)=U):
  yS (AL (dG 0 [jA 1,og p off bs]) (fun q=>(V q).drop 8) (fE Dd (fun p=>dN ((V p).take 8)) (dG 0 [jA 1,og p off bs])).2) U p=nz 504:=by
 rw[NT]at hT hD;obtain rfl:=List.perm_singleton.1 hT;obtain rfl:=List.perm_singleton.1 hD;rw[ae3]at hU;subst hU;have hpl:dN ((V p).take 8)=97:=by
  rw[hV,VG _ _ _ (by rw[jE];decide) _ (by omega) (by rw[jE];omega),oJ 97 (by decide)]
 rw[amh p off bs _ hpl];have e1:(V p).drop 8=aX (nz 504) off bs:=by
  rw[hV,zT (nz 512) (aJ 97) bs off (jE _) (dL _) ho];rfl
 show yS (fun q=>(V q).drop 8) [sU 1 (og p off bs),gB 1] p=_;show fF (fun q=>(V q).drop 8) p (aX ((V p).drop 8) off (nz bs.length)) p=_;unfold fF;rw[if_pos rfl,e1];refine Xd (nz 504) bs (nz bs.length) off (by rw[jE];exact ho) ?_;unfold nz;rw[List.drop_replicate,List.take_replicate,Nat.min_eq_left (by omega)]
section
variable{nf dn:Nat}{ps:List Int}{D0:Nat->List UInt8}{σ σ':St}{c:Cf}{V:Nat->List UInt8}
theorem Yr(q:Nat)(h:∀x∈σ.p.F,x.page=(q:Int)->x.dirty=false):(σ.p.bQ c.ops σ.io (q:Int)).1=0/\(σ.p.bQ c.ops σ.io (q:Int)).2.2=σ.io:=by
 unfold Pq.bQ;cases hf:fZ σ.p.F (q:Int)with
 | none=>exact⟨rfl,rfl⟩
 | some i=>
  obtain⟨x,hx,hxp,_⟩:=mW hf;have hd:=h x (List.mem_of_getElem? hx) hxp;have e:σ.p.clean c.ops σ.io i=(0,σ.p,σ.io):=by
   unfold Pq.clean;rw[getD_at hx,hd];simp
  simp only[e];exact⟨rfl,rfl⟩
theorem Us(hc:c.ok)(hV:mF c nf σ V)(h:Raw nf dn ps D0 σ)(hb:σ.io.R.base=0)(h2:D0 2=dB)(hh:D0 c.fr=dB)(hroom:σ.io.R.tail<=(c.n-1)*118)
  {y:Fm} (hy:y∈σ.p.F) {q:Nat} (hq:y.page=(q:Int)) (hd:y.dirty=true) (hl:1<=y.aN):
  (σ.p.bQ c.ops σ.io (q:Int)).1=0/\Held c D0 σ.io.R.bytes (σ.p.bQ c.ops σ.io (q:Int)).2.2.D/\(σ.p.bQ c.ops σ.io (q:Int)).2.2.D.l.length=σ.io.D.l.length:=by
 obtain⟨i,hi,hgd⟩:=found hV.inv.uniq hy hq;obtain⟨hq1,hq2,_⟩:=hV.inv.page hy hq;have hlen:=hV.inv.len q hq1;have hst:c.ops.step σ.io y.aN=(0,{ D:=(σ.io.R.flush c.n σ.io.D).2,R:=(σ.io.R.flush c.n σ.io.D).1 }):=by
  show(if _ then _ else _:Int×Io)=_;rw[if_pos (by rw[h.fin];omega)]
 obtain⟨f1,f2,f3,f4,f5⟩:=h.flush hc hV.J hb h2 hh hroom;have hfr:=hc.fr;have hl2:=hV.J.2;have hpn:y.page.toNat=q:=by rw[hq];rfl
 have e:σ.p.clean c.ops σ.io i=(0,{ σ.p with F:=σ.p.F.set i { y with dirty:=false },wr:=σ.p.wr+1 },{ D:=(((σ.io.R.flush c.n σ.io.D).2).dQ c.fr q (V q)).2,R:=(σ.io.R.flush c.n σ.io.D).1 }):=by
  unfold Pq.clean;rw[hgd,if_pos hd,hst];simp only[];rw[if_pos True.intro,hpn,hq2];rfl
 have e2:σ.p.bQ c.ops σ.io (q:Int)=(0,{ { σ.p with F:=σ.p.F.set i { y with dirty:=false },wr:=σ.p.wr+1 } with F:=(σ.p.F.set i { y with dirty:=false }).set i Fm.free },{ D:=(((σ.io.R.flush c.n σ.io.D).2).dQ c.fr q (V q)).2,R:=(σ.io.R.flush c.n σ.io.D).1 }):=by
  unfold Pq.bQ;rw[hi];simp only[e];rfl
 rw[e2];refine⟨rfl,?_,?_⟩
 rotate_left
 ·show(((σ.io.R.flush c.n σ.io.D).2).dQ c.fr q (V q)).2.l.length=_;rw[(f1.good.dQ c.fr q (V q) hlen (by rw[f4];omega)).2.2.1,f4]
 obtain⟨w1,w2,w3,w4,w5⟩:=f1.good.dQ c.fr q (V q) hlen (by rw[f4];omega);obtain⟨u1,u2⟩:=f1.good.Yq c.fr q (V q) hlen (by rw[f4];omega);have hta:σ.io.R.tail=σ.io.R.bytes.length:=by unfold Rg.tail;omega
 have hn:=hc.n2;exact⟨w2,w4,(u1 0 (by omega)).trans f1.m0,(u1 1 (by omega)).trans f1.m1,fun hl3=>⟨fun k hk=>(u1 _ (by omega)).trans ((f1.log hl3).1 k hk),by
  have hpos:1<=σ.io.R.bytes.length:=List.length_pos_iff.2 hl3;exact(u1 _ (by have:=hc.n2;omega)).trans (f1.log hl3).2⟩,fun hl3=>(u1 2 (by have:=hc.n2;omega)).trans (f1.nil hl3),u2⟩
theorem aaK(hc:c.ok)(hV:mF c nf σ V){p:Nat}(h:∀x∈σ.p.F,x.page<0\/x.page=(p:Int)):mF c nf { σ with p:=(σ.p.bQ c.ops σ.io (p:Int)).2.1,io:=(σ.p.bQ c.ops σ.io (p:Int)).2.2 } V/\∀q,q<c.pg->dO (σ.p.bQ c.ops σ.io (p:Int)).2.2.D (c.fr+5+4*q) 4=V q:=by
 obtain⟨_,hj,hv,hok⟩:=ZB (D6 hc) hV.J hV.inv (p:Int) hV.hok;refine⟨⟨hj,hok,hv⟩,fun q hq=>hv.out q hq (fun x hx e=>?_)⟩;change x∈(σ.p.bQ c.ops σ.io (p:Int)).2.1.F at hx;unfold Pq.bQ at hx;cases hf:fZ σ.p.F (p:Int)with
 | none=>
  rw[hf]at hx;have hx':x∈σ.p.F:=hx;rcases h x hx' with h1|h1
  ·omega
  ·exact BG hf (by omega) hx' h1
 | some i=>
  obtain⟨y,hy,hyp,_⟩:=mW hf;obtain⟨h1,_,_,h4,_,_⟩:=QU (D6 hc) hV.J hV.inv hy;have h1':(σ.p.clean c.ops σ.io i).1=0:=h1;have h4':(σ.p.clean c.ops σ.io i).2.1.F=σ.p.F.set i { y with dirty:=false }:=h4;rw[hf]at hx;simp only[h1',if_true]at hx;have hx':x∈((σ.p.clean c.ops σ.io i).2.1.F.set i Fm.free):=hx;obtain⟨j,hj⟩:=nG hx';rcases sO hj with ⟨_,rfl⟩|⟨hne,hj2⟩
  ·have:(-1:Int)=(q:Int):=e;omega
  ·rw[h4']at hj2;rcases sO hj2 with ⟨h5,_⟩|⟨_,hj3⟩
   ·exact hne h5
   ·have hxp:=h x (List.mem_of_getElem? hj3);have ark:x.page=(p:Int):=hxp.resolve_left (by omega);exact hV.inv.uniq j i x y hj3 hy hne (by omega) (ark.trans hyp.symm)
theorem Raw.amj(hc:c.ok)(hJ:Jg c σ.io)(h:Raw nf dn ps d0 σ):Held c d0 (cZ []) σ.io.D:=by
 have hfr:=hc.fr;have hn:=hc.n2;refine⟨hJ.1,h.c0,congrFun h.sec 0,congrFun h.sec 1,fun hz=>absurd rfl hz,fun _=>?_,?_⟩
 ·rw[h.sec];rfl
 ·rw[h.sec];unfold d0;rw[if_neg (by omega)]
end
section
variable{W0 w w':World}{A:bG}{c:Cf}{σ:St}{S:Nat->Prop}{vl vo:Value}{EL:List Le}{EO:List Te}{K S1:Nat->Prop}{X:Nat->Prop}
theorem Yt(h:aP W0 w A c σ vl vo EL EO K S1)(p:Nat)(hpg:p<c.pg)(hpp:c.pg<=1099511627776)(hwr:σ.p.wr+1<=1000000000)(h0:(σ.p.bQ c.ops σ.io (p:Int)).1=0):
  Calls Tryz.prog 34 #[.pointer (some ⟨A.sb,0,none⟩),.int .i64 (p:Nat)] w fun er w'=>∃S',er=.returned (.int .i64 0)/\SV W0 A c { σ with p:=(σ.p.bQ c.ops σ.io (p:Int)).2.1,io:=(σ.p.bQ c.ops σ.io (p:Int)).2.2 } S' w'/\aG (aO S1 vl vo EO K) S' w w':=by
 have HS:=hid h;have c9:=h.bC.cell 9 _ rfl;have c3:=h.bC.cell 3 _ rfl;have bU:=h.bC.lt;have hcall:=Dz h;have HP:=hid hcall;have hev:=Lh h (p:Int) hwr;rw[h0]at hev;have HE:=hid hev;have f1:decide ((p:Int)<0)=false:=by simp
 have f2:decide ((p:Int)>=(c.pg:Int))=false:=by simp;omega
 have f3:decide ((c.pg:Int)<=(p:Int))=false:=by simp;omega
 have f4:decide (c.pg<=p)=false:=by simp;omega
 clear h hcall hev h0;go_enter Tryz.func34,Tryz.ntmps34;go_wp2_with fail;refine HP.out.mono ?_;rintro er y0 ⟨rfl,hy⟩;obtain rfl:w=y0:=hy.symm;clear HP;go_wp2_with fail;refine HE.out.mono ?_;rintro er y1 ⟨S2,rfl,hs2,hf2⟩;have HF2:=hid hf2;have HT:=hid (afp hs2 0 (.inl rfl));clear hs2 hf2 HE;go_wp2_with fail;refine HT.out.mono ?_;rintro er y2 ⟨S3,rfl,hs3,hf3⟩;have Aw:=hid hs3;have HF3:=hid hf3;clear hs3 hf3 HT;go_wp2_with fail;go_ret;exact⟨_,rfl,⟨vl,vo,EL,EO,K,S3,Aw.out,rfl⟩,(iY HF2.out).trans HF3.out⟩
end
section
variable{W0 w w':World}{A:bG}{c:Cf}{σ:St}{S:Nat->Prop}{k b dn:Nat}{W V:Nat->List UInt8}{recs:List Rc}{ps:List Int}{nf:Nat}
theorem aaL{p:Nat}(h:Rw W0 A c k b σ W S w V recs [(p:Int)] dn)(hk:k<=900000)(hp:p<c.pg)(hpp:c.pg<=1099511627776)(qH:List Rc)(hcase:(qH=[]/\∀x∈σ.p.F,x.dirty=false)\/(qH=recs/\∃y∈σ.p.F,y.page=(p:Int)/\y.dirty=true/\1<=y.aN)):
  Calls Tryz.prog 34 #[.pointer (some ⟨A.sb,0,none⟩),.int .i64 (p:Nat)] w fun er w'=>er=.returned (.int .i64 0)/\∃D Sd,DV W0 A.d D Sd w'/\Held c d0 (cZ qH) D/\D.l.length=dn/\∀q,q<c.pg->dO D (c.fr+5+4*q) 4=V q:=by
 have hwr:=h.st.fine.wr;have hr:=h.st.fine.room;have hcs:=h.st.fine.cost;have htp:=h.st.fine.top;have hfr:∀x∈σ.p.F,x.page<0\/x.page=(p:Int):=fun x hx=>(h.raw.fr x hx).imp id List.mem_singleton.1;obtain⟨o1,o2⟩:=aaK h.st.ok h.sv hfr;have hev:(σ.p.bQ c.ops σ.io (p:Int)).1=0/\Held c d0 (cZ qH) (σ.p.bQ c.ops σ.io (p:Int)).2.2.D/\(σ.p.bQ c.ops σ.io (p:Int)).2.2.D.l.length=dn:=by
  rcases hcase with ⟨rfl,hd⟩|⟨rfl,y,y1,y2,y3,y4⟩
  ·obtain⟨e1,e2⟩:=Yr (c:=c) p (fun x hx _=>hd x hx);rw[e2];exact⟨e1,h.raw.amj h.st.ok h.sv.J,h.raw.dl⟩
  ·obtain⟨e1,e2,e3⟩:=Us h.st.ok h.sv h.raw h.st.fine.base rfl (amk h.st.ok) (by omega) y1 y2 y3 y4;rw[<-h.Tz];exact⟨e1,e2,e3.trans h.raw.dl⟩
 obtain⟨vl,vo,EL,EO,K,S1,h1,rfl⟩:=h.st.sv;refine(Yt h1 p hp hpp (by omega) hev.1).mono ?_;rintro er w' ⟨S',rfl,hsv,hf⟩;obtain⟨Sd,hd,_⟩:=hsv.dev;exact⟨rfl,_,Sd,hd,hev.2.1,hev.2.2,o2⟩
end
end Go.Proofs.YtpajagkhmodbnaaGreat

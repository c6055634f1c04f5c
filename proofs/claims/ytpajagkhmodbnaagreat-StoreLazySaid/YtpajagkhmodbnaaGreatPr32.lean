/- Pr: texts of the store seat laid together by program: ReMark. Conditions: each theorem names its own. -/
import Derived.Test.YtpajagkhmodbnaaGreatPr20
import Derived.Test.YtpajagkhmodbnaaGreatPr23
namespace Go.Proofs.YtpajagkhmodbnaaGreat
set_option maxRecDepth 100000
set_option maxHeartbeats 6400000
open Lib(hid)
set_option linter.unusedSimpArgs false
set_option linter.unusedVariables false
section
open Go.RowKit
def aaj(A:bG)(σ:St)(vl vo:Value)(ma nx cm start G:Nat)(j b o:Nat):Prop:=False
def jd(A:bG)(σ:St)(vl vo:Value)(ma nx cm start G:Nat)(i:Nat)(VS:Nat->Value)(LO HI:Nat->Nat)(v:Value)(lo hi:Nat)(w:World):Prop:=
 match i with
 | 0=>v=.int .i64 ((ma+1:Nat):Int)
 | 1=>∃g,v=.slice (some ⟨g,0,none⟩) 8 8/\Buf w g (aJ (ma+1))
 | 2=>v=.int .i64 ((start:Nat):Int)
 | 3=>∃g,v=.slice (some ⟨g,0,none⟩) 8 8/\Buf w g (aJ start)
 | 4=>v=.int .i64 ((cm:Nat):Int)
 | 5=>∃g,v=.slice (some ⟨g,0,none⟩) 8 8/\Buf w g (aJ cm)
 | 6=>v=.pointer (some ⟨A.sb,0,none⟩)
 | 7=>v=.pointer (some ⟨A.sb,0,none⟩)
 | 8=>v=.pointer (some ⟨A.sb,7,none⟩)
 | 9=>v=.int .i64 (nx:Nat)
 | 10=>∃g,v=.slice (some ⟨g,0,none⟩) 8 8/\Buf w g (aJ nx)
 | 11=>∃gt,v=.slice (some ⟨gt,0,none⟩) 4 4/\gt<w.heap.size/\∀(j:Nat)(x:Value),[VS 1,VS 3,VS 5,VS 10][j]? = some x->w.cell? ⟨gt,j,none⟩=some x
 | 12=>∃g c,v=.slice (some ⟨g,0,none⟩) 32 c/\w.ownsRow G 5 1 (.slice (some ⟨g,0,none⟩) 32 c) 32 ((aJ (ma+1)++aJ start++aJ cm++aJ nx).map B)/\G<=g
 | _=>True
abbrev Sl:List (List Nat):=[[],[0],[],[0,1,2],[],[0,1,2,3,4],[],[6],[6,7],[6,7,8],[0,1,2,3,4,5,6,7,8,9],[0,1,2,3,4,5,6,7,8,9,10],[0,1,2,3,4,5,6,7,8,9,10,11]]
theorem Nq(A:bG)(σ:St)(vl vo:Value)(ma nx cm start G:Nat)  : ∀i j,i<13->j<13->j≠i->j∉Sl.getD i []->(i,j)∉([]:List (Nat×Nat))->∀VS LO HI v lo hi w w',jd A σ vl vo ma nx cm start G i VS LO HI v lo hi w->aB (aaj A σ vl vo ma nx cm start G j) w w'->jd A σ vl vo ma nx cm start G i VS LO HI v lo hi w':=by
 intro i j hi hj hne hbs hx VS LO HI v lo hj2 w w' h hg
 match i,hi with
 | 0,_|2,_|4,_|6,_|7,_|8,_|9,_=>
  simp only[jd]at h⊢;exact h
 | 1,_|3,_|5,_|10,_=>
  simp only[jd]at h⊢;obtain⟨g,h1,h2⟩:=h;exact⟨g,h1,h2.aH (aj.aK hg (Y:=fun _=>False) (fun k o h=>h)) (fun h=>h)⟩
 | 11,_=>
  simp only[jd]at h⊢;obtain⟨g,h1,h2,h3⟩:=h;exact⟨g,h1,Nat.lt_of_lt_of_le h2 hg.size,fun j x hx=>(hg.cell g j h2 (fun h=>h)).trans (h3 j x hx)⟩
 | 12,_=>
  simp only[jd]at h⊢;obtain⟨g,c,h1,h2,h3⟩:=h;exact⟨g,c,h1,aI h2 (aj.aK hg (Y:=fun _=>False) (fun k o h=>h)) (fun _ _ h=>h),h3⟩
 | (q+13),hq=>exact absurd hq (by omega)
theorem Um(A:bG)(σ:St)(vl vo:Value)(ma nx cm start G:Nat):∀i,i<13->∀VS dZ LO eu HI eF v lz hz w,(∀j∈Sl.getD i [],VS j=dZ j/\LO j=eu j/\HI j=eF j)->jd A σ vl vo ma nx cm start G i VS LO HI v lz hz w->jd A σ vl vo ma nx cm start G i dZ eu eF v lz hz w:=by
 intro i hi VS dZ LO eu HI eF v lz hz w he h
 match i,hi with
 | 0,_|1,_|2,_|3,_|4,_|5,_|6,_|7,_|8,_|9,_|10,_|12,_=>
  simp only[jd]at h⊢;exact h
 | 11,_=>
  simp only[jd]at h⊢;obtain⟨e1a,e1b,e1c⟩:=he 1 (by decide);obtain⟨e3a,e3b,e3c⟩:=he 3 (by decide);obtain⟨e5a,e5b,e5c⟩:=he 5 (by decide);obtain⟨aqA,aqB,aqC⟩:=he 10 (by decide);simp only[<-e1a,<-e1b,<-e1c,<-e3a,<-e3b,<-e3c,<-e5a,<-e5b,<-e5c,<-aqA,<-aqB,<-aqC];exact h
 | (q+13),hq=>exact absurd hq (by omega)
def Ep(A:bG)(σ:St)(vl vo:Value)(ma nx cm start g cg G G0:Nat)(j b o:Nat):Prop:=(j=10/\b=g)
def qx(A:bG)(σ:St)(vl vo:Value)(ma nx cm start g cg G G0:Nat)(i:Nat)(v:Value)(lo hi:Nat)(w:World):Prop:=
 match i with
 | 0=>v=.pointer (some ⟨A.sb,0,none⟩)
 | 1=>v=.pointer (some ⟨A.sb,0,none⟩)
 | 2=>v=.pointer (some ⟨A.sb,0,none⟩)
 | 3=>v=.pointer (some ⟨A.d,0,none⟩)
 | 4=>v=.int .i64 ((ma+1:Nat):Int)
 | 5=>v=.int .i64 (((ma+1) % 2:Nat):Int)
 | 6=>v=.slice (some ⟨g,0,none⟩) 32 cg
 | 7=>v=.slice (some ⟨g,0,none⟩) 32 cg
 | 8=>v=.int .i64 32
 | 9=>v=.int .i64 96
 | 10=>∃g2 c2,v=.slice (some ⟨g2,0,none⟩) 128 c2/\w.ownsRow G0 5 1 (.slice (some ⟨g2,0,none⟩) 128 c2) 128 ((dw (ma+1) start cm nx).map B)/\(g2=g\/G<=g2)
 | _=>True
theorem Nr(A:bG)(σ:St)(vl vo:Value)(ma nx cm start g cg G G0:Nat)  : ∀i j,i<11->j<11->j≠i->j∉([[],[0],[0,1],[0,1,2],[],[4],[],[],[7],[7,8],[6,7,8,9]]:List (List Nat)).getD i []->∀v lo hi w w',qx A σ vl vo ma nx cm start g cg G G0 i v lo hi w->aB (Ep A σ vl vo ma nx cm start g cg G G0 j) w w'->qx A σ vl vo ma nx cm start g cg G G0 i v lo hi w':=by
 intro i j hi hj hne hbs v lo hj2 w w' h hg
 match i,hi with
 | 0,_|1,_|2,_|3,_|4,_|5,_|6,_|7,_|8,_|9,_=>
  simp only[qx]at h⊢;exact h
 | 10,_=>
  simp only[qx]at h⊢;obtain⟨g2,c2,h1,h2,h3⟩:=h;exact⟨g2,c2,h1,aI h2 (aj.aK hg (Y:=fun _=>False) (fun k o h=>hne h.1)) (fun _ _ h=>h),h3⟩
 | (q+11),hq=>exact absurd hq (by omega)
section
variable{W0 w0 w w' w2:World}{A:bG}{c:Cf}{σ:St}{S:Nat->Prop}{vl vo gV:Value}{EL:List Le}{EO:List Te}{K S1:Nat->Prop}{X:Nat->Prop}
theorem Vy(h:aP W0 w0 A c σ vl vo EL EO K S1)(start:Nat)(hle:∀e∈EL,e.aN<=start)(hn:EL.length<=1000000)(hs1:σ.io.R.start<=start)(hs2:start<=σ.io.R.fin)(hsn:start<=1099511627776)(hma:σ.master<=1099511627776)(hnx:σ.next<=1099511627776)(hcm:σ.commits<=1099511627776):
  Calls Tryz.prog 91 #[.pointer (some ⟨A.sb,0,none⟩),.int .i64 (start:Nat)] w0 fun er w'=>∃aT,er=.returned (.int .i64 0)/\aP W0 w' A c (σ.mark start) (.slice none 0 0) vo [] EO K aT/\aG (aO S1 vl vo EO K) (aO aT (.slice none 0 0) vo EO K) w0 w':=by
 have HS:=hid h;have gY:=hid hs1;have HS2:=hid hs2;have Vw:=hid hle;obtain⟨cm,XY⟩:∃x,σ.commits=x:=⟨_,rfl⟩
 obtain⟨ma,acv⟩:∃x,σ.master=x:=⟨_,rfl⟩
 obtain⟨nx,Ht⟩:∃x,σ.next=x:=⟨_,rfl⟩
 obtain⟨n,hnn⟩:∃x,EL.length=x:=⟨_,rfl⟩
 have c8:w0.cell? ⟨A.sb,8,none⟩=some (.int .i64 (cm:Nat)):=by rw[<-XY];exact h.bC.cell 8 _ rfl
 obtain⟨al,cl,hvl⟩:=bF h.ln.row;rw[hnn]at hvl hn;have c4:w0.cell? ⟨A.sb,4,none⟩=some (.slice al n cl):=by have:=h.bC.cell 4 _ rfl;rw[hvl]at this;exact this
 have bU:=h.bC.lt;have HCM:=hid XY;have LZ:=hid acv;have sH:=hid Ht;have kC:=hid hnn;have pX:=hid hvl;rw[XY]at hcm;rw[acv]at hma;rw[Ht]at hnx;clear h hs1 hs2 XY acv Ht hvl hle hnn;go_enter Tryz.func91,Tryz.ntmps91;go_wp2_with fail;go_loopw [5,6,8,21] (fun v5 v6 v8 i wr=>∃k:Nat,k<=n/\i=.int .i64 (k:Nat)/\v5=.int .i64 (cm:Nat)/\v6=.slice none 0 0/\Below w0.heap.size w0 wr) (fun _ _ _ i _=>n-(intOf i).toNat)
 case atStart=>exact⟨0,Nat.zero_le _,rfl,rfl,rfl,Below.refl _ _⟩
 case round=>
  obtain⟨k,hk,rfl,rfl,rfl,hbl⟩:=hrel;have dP:=hid hbl;have qY:=hid (HS.out.below hbl);clear hbl;by_cases hkn:k<n
  ·obtain⟨e,he⟩:∃e,EL[k]? = some e:=⟨_,List.getElem?_eq_getElem (by rw[kC.out];exact hkn)⟩
   have hrow:=qY.out.ln.row;obtain⟨g,Qi,e1,_,_⟩:=dV hrow (by have:=kC.out;omega);have e2:=pX.out.symm.trans e1;injection e2 with e3 e4 e5;subst e3;rw[e1]at hrow;have hle:=Vw.out e (List.mem_of_getElem? he);have htb:=qY.out.ln.tb e (List.mem_of_getElem? he);obtain⟨aN,r,vb,va⟩:=e;obtain⟨ab,cb,hvb⟩:=Reads.shape htb.1.1;obtain⟨aa,ca,hva⟩:=Reads.shape htb.2.1;simp only at hvb hva hle;subst hvb hva;have hcl:∀j u,(eG ⟨aN,r,.slice ab r.before.length cb,.slice aa r.after.length ca⟩)[j]? = some u->wr.cell? ⟨g,k*12+j,none⟩=some u:=fun j u hu=>by
    have h1:=dh hrow (k*12+j) u (oK EL k _ he j u hu);rw[Addr.add_lit,Nat.zero_add]at h1;exact h1
   have z0:=hcl 0 _ rfl;rw[Nat.add_zero]at z0;have z1:=hcl 1 _ rfl;have z2:=hcl 2 _ rfl;have z3:=hcl 3 _ rfl;have z4:=hcl 4 _ rfl;have z5:=hcl 5 _ rfl;have z6:=hcl 6 _ rfl;have z7:=hcl 7 _ rfl;have z8:=hcl 8 _ rfl;have z9:=hcl 9 _ rfl;have z10:=hcl 10 _ rfl;have z11:=hcl 11 _ rfl;have b1:decide ((aN:Int)<=(start:Int))=true:=by simpa using hle
   have b2:decide (aN<=start)=true:=by simpa using hle
   clear hcl hrow htb he e1 e4 e5;go_wp2_with fail;go_roundw
   case rel=>exact⟨k+1,by omega,by go_num,rfl,rfl,dP.out.trans (((Below.refl wr.heap.size wr).alloc (Nat.le_refl _) _).mono dP.out.size)⟩
   case measure=>simp[intOf];omega
  obtain rfl:n=k:=by omega
  replace HS:=qY;have HSL:Hid (σ.lines.filter (fun x=>decide (start<x.1))=[]):=hid (by
   rw[HS.out.lZ,List.filter_eq_nil_iff];intro x hx;obtain⟨e,he,rfl⟩:=List.mem_map.1 hx;have:=Vw.out e he;simp only[decide_eq_true_eq];omega)
  have c6:wr.cell? ⟨A.sb,6,none⟩=some (.int .i64 (ma:Nat)):=by rw[<-LZ.out];exact HS.out.bC.cell 6 _ rfl
  have aqD:=HS.out.bC.lt;clear qY c8 c4 bU;generalize wr=w at *;go_upto_region 12 with (fail);have bs:Box w A.sb [.pointer (some ⟨A.d,0,none⟩),.pointer (some ⟨A.r,0,none⟩),.pointer (some ⟨A.f,0,none⟩),.pointer (some ⟨A.g,0,none⟩),vl,vo,.int .i64 (ma:Nat),.int .i64 (nx:Nat),.int .i64 (cm:Nat),.bool false,.int .i64 (σ.aW:Nat),.int .i64 (σ.aZ:Nat)]:=by have:=HS.out.bC;rw[<-HCM.out,<-LZ.out,<-sH.out];exact this
  have hB:Below w.heap.size w w:=Below.refl _ _;clear c6 aqD;refine eP (aaj A σ vl vo ma nx cm start (w.heap.size)) 13 Sl [some 45,some 46,some 47,some 48,some 49,some 50,some 51,some 52,some 53,some 54,some 55,some 56,some 57,some 10] [[],[0],[],[2],[],[4],[],[6],[7],[8],[9],[1,3,5,10],[1,3,5,10,11]] [0,1,2,3,4,5,6,7,8,9,10,11,12] [] (by decide) (by kernel_rfl) (by kernel_rfl) rfl (jd A σ vl vo ma nx cm start (w.heap.size)) (Um A σ vl vo ma nx cm start (w.heap.size)) (Nq A σ vl vo ma nx cm start (w.heap.size)) ?aj9 ?_
  case aj9=>
   intro i hi o ho vs lo eX w' hg hp hdd;have hsz:=hg.size;have hgB:Below w.heap.size w w':=hg.below (fun k hk=>⟨hk,fun o=>by rintro⟨j,_,_,_,hw⟩;exact False.elim hw⟩);replace hp:=fun j hj=>(hp j hj).2.2.2
   match i,hi with
   | 0,_|2,_|4,_|6,_|7,_|8,_|9,_=>
    cases ho;simp only[aA,jd]at hp
    first|simp only[ak,Act.put,aA,hp]|simp only[ak,Act.put,aA]
    try have e0:=(hg.cell (A.sb) 7 bs.lt (by rintro⟨j,_,hne,hb,hw⟩;exact False.elim hw)).trans (bs.cell 7 _ rfl)
    go_wp2;exact⟨_,rfl,aB.refl _,rfl⟩
   | 1,_=>
    cases ho;simp only[ak,Act.put,aA];have h0:=hp 0 (by simp);simp only[jd]at h0;rw[h0];go_wp2_with fail;refine(rC w' (ma+1) (by omega)).mono ?_;rintro er wh ⟨g2,rfl,hbuf,hg2,hbl⟩;go_wp2;exact⟨_,rfl,aB.bK ⟨hbl.os,hbl.tape,hbl.output,hbl.size,hbl.block⟩,g2,rfl,hbuf⟩
   | 3,_=>
    cases ho;simp only[ak,Act.put,aA];have h2:=hp 2 (by simp);simp only[jd]at h2;rw[h2];go_wp2_with fail;refine(rC w' start (by omega)).mono ?_;rintro er wh ⟨g2,rfl,hbuf,hg2,hbl⟩;go_wp2;exact⟨_,rfl,aB.bK ⟨hbl.os,hbl.tape,hbl.output,hbl.size,hbl.block⟩,g2,rfl,hbuf⟩
   | 5,_=>
    cases ho;simp only[ak,Act.put,aA];have h4:=hp 4 (by simp);simp only[jd]at h4;rw[h4];go_wp2_with fail;refine(rC w' cm (by omega)).mono ?_;rintro er wh ⟨g2,rfl,hbuf,hg2,hbl⟩;go_wp2;exact⟨_,rfl,aB.bK ⟨hbl.os,hbl.tape,hbl.output,hbl.size,hbl.block⟩,g2,rfl,hbuf⟩
   | 10,_=>
    cases ho;simp only[ak,Act.put,aA];have h9:=hp 9 (by simp);simp only[jd]at h9;rw[h9];go_wp2_with fail;refine(rC w' nx (by omega)).mono ?_;rintro er wh ⟨g2,rfl,hbuf,hg2,hbl⟩;go_wp2;exact⟨_,rfl,aB.bK ⟨hbl.os,hbl.tape,hbl.output,hbl.size,hbl.block⟩,g2,rfl,hbuf⟩
   | 11,_=>
    cases ho;simp only[ak,Act.put,aA];have h1:=hp 1 (by simp);have h3:=hp 3 (by simp);have h5:=hp 5 (by simp);have h10:=hp 10 (by simp);simp only[jd]at h1 h3 h5 h10;obtain⟨g1,e1,_⟩:=h1;obtain⟨g3,e3,_⟩:=h3;obtain⟨g5,e5,_⟩:=h5;obtain⟨g10,e10,_⟩:=h10;have hbl:=(Below.refl w'.heap.size w').alloc (Nat.le_refl _) (.cells #[vs 1,vs 3,vs 5,vs 10] 48);have hbx:=Box.new w' #[vs 1,vs 3,vs 5,vs 10] 48 rfl;rw[e1,e3,e5,e10]at hbl hbx⊢;go_wp2;exact⟨_,rfl,aB.bK ⟨hbl.os,hbl.tape,hbl.output,hbl.size,hbl.block⟩,_,rfl,by simp,fun j x hx=>by rw[e1,e3,e5,e10]at hx;exact hbx.cell j x hx⟩
   | 12,_=>
    cases ho;simp only[ak,Act.put,aA];have h1:=hp 1 (by simp);have h3:=hp 3 (by simp);have h5:=hp 5 (by simp);have h10:=hp 10 (by simp);have h11:=hp 11 (by simp);simp only[jd]at h1 h3 h5 h10 h11;obtain⟨g1,e1,k1⟩:=h1;obtain⟨g3,e3,k3⟩:=h3;obtain⟨g5,e5,k5⟩:=h5;obtain⟨g10,e10,k10⟩:=h10;obtain⟨gt,e11,l11,c11⟩:=h11;rw[e11];have acw:kG [(vs 1,aJ (ma+1)),(vs 3,aJ start),(vs 5,aJ cm),(vs 10,aJ nx)]=(aJ (ma+1)++aJ start++aJ cm++aJ nx):=by simp[kG]
    have hlen:((aJ (ma+1)++aJ start++aJ cm++aJ nx)).length=32:=by simp only[List.length_append,dL]
    have rd:∀(q:Nat)(l:Nat),Buf w' q (aJ l)->Reads 1 w' (.slice (some ⟨q,0,none⟩) 8 8) (aJ l).length ((aJ l).map B):=fun q l hb=>by rw[dL];exact Reads.aY (hb.own (base:=0) (dL _) (Nat.zero_le _) (by decide))
    have hcall:=WY w' [(vs 1,aJ (ma+1)),(vs 3,aJ start),(vs 5,aJ cm),(vs 10,aJ nx)] 4 gt 4 rfl (by decide) (fun j x hx=>c11 j x.1 (by
     match j,hx with
     | 0,hx=>obtain rfl:=Option.some.inj hx;rfl
     | 1,hx=>obtain rfl:=Option.some.inj hx;rfl
     | 2,hx=>obtain rfl:=Option.some.inj hx;rfl
     | 3,hx=>obtain rfl:=Option.some.inj hx;rfl
     | (q+4),hx=>cases hx)) l11 (fun x hx=>by
     simp only[List.mem_cons,List.not_mem_nil,or_false]at hx;rcases hx with rfl|rfl|rfl|rfl
     ·rw[e1];exact rd _ _ k1
     ·rw[e3];exact rd _ _ k3
     ·rw[e5];exact rd _ _ k5
     ·rw[e10];exact rd _ _ k10) (by rw[acw,hlen];decide) (by rw[acw,hlen];decide)
    rw[acw,hlen]at hcall;have cO:=hid hcall;clear hcall e1 e3 e5 e10 e11 k1 k3 k5 k10 l11 c11 rd;go_wp2_with fail;refine cO.out.mono ?_;rintro er wh ⟨g,c,rfl,ho,hbl⟩;go_wp2;exact⟨_,rfl,aB.bK ⟨hbl.os,hbl.tape,hbl.output,hbl.size,hbl.block⟩,g,c,rfl,own_base ho hgB.size,Nat.le_trans hgB.size (ho.lt g rfl).1⟩
   | (q+13),hq=>exact absurd hq (by omega)
  intro vS lo hi zD hg hp hd;have hP:=fun j hj=>(hp j hj).2.2.2;have h0:=hP 0 (by decide) (by decide);have h1:=hP 1 (by decide) (by decide);have h2:=hP 2 (by decide) (by decide);have h3:=hP 3 (by decide) (by decide);have h4:=hP 4 (by decide) (by decide);have h5:=hP 5 (by decide) (by decide);have h6:=hP 6 (by decide) (by decide);have h7:=hP 7 (by decide) (by decide);have h8:=hP 8 (by decide) (by decide);have h9:=hP 9 (by decide) (by decide);have h10:=hP 10 (by decide) (by decide);have h11:=hP 11 (by decide) (by decide);have h12:=hP 12 (by decide) (by decide);clear hP;simp only[jd]at h0 h1 h2 h3 h4 h5 h6 h7 h8 h9 h10 h11 h12;clear hp hd;have hsz:=hg.size;replace bs:=bs.grow hg (by intro i _;rintro⟨j,_,hw⟩;exact False.elim hw);replace hB:=hB.trans (hg.below (fun k hk=>⟨by omega,fun o=>by rintro⟨j,_,hw⟩;exact False.elim hw⟩));have hr:List.range 13=[0,1,2,3,4,5,6,7,8,9,10,11,12]:=rfl;rw[hr];clear hr;simp only[List.drop_succ_cons,List.drop_zero,List.drop_nil,ak,Act.put,aA,h0,h2,h4,h6,h7,h8,h9];clear h0 h2 h4 h6 h7 h8 h9;obtain⟨g,cg,Bv,yx,DN⟩:=h12;rw[Bv];have gZ:=hid yx;have lD:=hid DN;have acy:=hid hB;have yE:=HS.out.below hB;have abG:=hid yE;clear h1 h3 h5 h10 h11 Bv yx DN hB hg hsz yE;have Sm:Box zD A.sb [.pointer (some ⟨A.d,0,none⟩),.pointer (some ⟨A.r,0,none⟩),.pointer (some ⟨A.f,0,none⟩),.pointer (some ⟨A.g,0,none⟩),vl,vo,.int .i64 (ma:Nat),.int .i64 (nx:Nat),.int .i64 (cm:Nat),.bool false,.int .i64 (σ.aW:Nat),.int .i64 (σ.aZ:Nat)]:=by have:=abG.out.bC;rw[<-HCM.out,<-LZ.out,<-sH.out];exact this
  clear bs;go_upto_region 13 with (fail);have bs:=Sm;have hlx:=abG.out.lt;have hgs:g≠A.sb:=fun e1=>by have:=(HS.out.lt A.sb (.inl HS.out.pG)).2;have:=lD.out;omega
  have hB:Below 0 zD zD:=Below.refl _ _;have zf:=hid hgs;clear Sm hlx;refine aQ (Ep A σ vl vo ma nx cm start g cg (zD.heap.size) (w.heap.size)) 11 [[],[0],[0,1],[0,1,2],[],[4],[],[],[7],[7,8],[6,7,8,9]] [some 58,some 59,some 60,some 61,some 62,some 63,some 64,some 65,some 66,some 67,some 68,some 69,some 11] (by kernel_rfl) (by kernel_rfl) rfl (qx A σ vl vo ma nx cm start g cg (zD.heap.size) (w.heap.size)) (Nr A σ vl vo ma nx cm start g cg (zD.heap.size) (w.heap.size)) ?akb ?_
  case akb=>
   intro i hi o ho vs lo eX w' hg hp;have hsz:=hg.size;replace hp:=fun j hj=>(hp j hj).2.2.2
   match i,hi with
   | 0,_|4,_|6,_|7,_|1,_|2,_|3,_|8,_|9,_=>
    cases ho;simp only[aA,qx]at hp
    first|simp only[ak,Act.put,aA,hp]|simp only[ak,Act.put,aA]
    try have e0:=(hg.cell (A.sb) 0 bs.lt (by rintro⟨j,_,hne,hb,hw⟩;simp only[Ep]at hw;exact hgs hw.2.symm)).trans (bs.cell 0 _ rfl)
    go_wp2;exact⟨_,rfl,aB.refl _,rfl⟩
   | 5,_=>
    cases ho;simp only[ak,Act.put,aA];have h4:=hp 4 (by simp);simp only[qx]at h4;rw[h4];go_wp2;refine⟨_,rfl,aB.refl _,?_⟩;simp only[qx]
    first|rfl|(congr 1)|(congr 1;omega)
   | 10,_=>
    cases ho;simp only[ak,Act.put,aA];have h6:=hp 6 (by simp);have h9:=hp 9 (by simp);simp only[qx]at h6 h9;rw[h6,h9];have hgx:aj (fun _=>False) zD w':=aj.aK hg (fun k o ⟨j,hj,hne,hb,hw⟩=>hne hw.1);have hown:=aI gZ.out hgx (fun _ _ h=>h);have hbase:w.heap.size<=w'.heap.size:=Nat.le_trans acy.out.size hgx.size;go_wp2_with (at_builtin;refine tJ bytesOf (by kernel_rfl) (.tmp 64) (.tmp 67) rfl rfl rfl hown (k:=96) rfl (by decide) hbase ?_;intro gq cq wq ho2 hg2 hn2);exact⟨_,rfl,hg2.mono (fun b o h=>⟨rfl,h⟩),gq,cq,rfl,ho2,hn2.imp (fun h=>h) (fun h=>by omega)⟩
   | (q+11),hq=>exact absurd hq (by omega)
  intro vS lo hi y13 hg hp hd;have hP:=fun j hj=>(hp j hj).2.2.2;have h0:=hP 0 (by decide);have h1:=hP 1 (by decide);have h2:=hP 2 (by decide);have h3:=hP 3 (by decide);have h4:=hP 4 (by decide);have h5:=hP 5 (by decide);have h6:=hP 6 (by decide);have h7:=hP 7 (by decide);have h8:=hP 8 (by decide);have h9:=hP 9 (by decide);have h10:=hP 10 (by decide);clear hP;simp only[qx]at h0 h1 h2 h3 h4 h5 h6 h7 h8 h9 h10;clear hp hd;have hsz:=hg.size;replace bs:=bs.grow hg (by intro i _;rintro⟨j,_,hw⟩;simp only[Ep]at hw;first|exact hgs hw.2.symm|(have:=hw.2;omega));replace hB:=hB.trans (hg.below (fun k hk=>⟨by omega,fun o=>by rintro⟨j,_,hw⟩;simp only[Ep]at hw;first|exact hgs hw.2.symm|(have:=hw.2;omega)⟩));have hr:List.range 11=[0,1,2,3,4,5,6,7,8,9,10]:=rfl;rw[hr];clear hr;simp only[List.drop_succ_cons,List.drop_zero,List.drop_nil,ak,Act.put,aA,h0,h1,h2,h3,h4,h5,h6,h7,h8,h9];clear h0 h1 h2 h3 h4 h5 h6 h7 h8 h9;obtain⟨g2,cg2,He,yF,yG⟩:=h10;rw[He];have xA:=hid yF;have HG2:=hid yG;have aqE:=hid (aj.aK hg (Y:=fun b=>b=g) (fun k o ⟨j,_,hw⟩=>hw.2));have XZ:aj (fun b=>b=g) w y13:=(lT acy.out).trans aqE.out;have QB:=HS.out.other XZ (fun b e1=>by subst e1;exact lD.out);have akc:=HS.out.lt;obtain⟨S5,gW,IG,KF,hc5,Bj⟩:=QB.EW;have HRG:=hid gW;have akd:=hid KF;have aqF:=hid Bj;have HC5:=hid hc5;have abH:Hid (aG (aO S1 vl vo EO K) (aO S1 vl vo EO K) w y13):=hid ((aG.below (aC (Below.refl w.heap.size w))).fin XZ (fun b e1=>.inr (by subst e1;exact lD.out)) (fun b h=>.inl h));have KG:(dw (ma+1) start cm nx).length=128:=by unfold dw;simp only[List.length_append,dL,List.length_replicate]
  have hgood:=gW.good;have hfit:=gW.fits;have hok2:=gW.ok.n2;have hwi:(ma+1) % 2<σ.io.D.l.length:=by omega
  have aan:=Iy gW ((ma+1) % 2) hwi _ KG _ (Reads.aY xA.out) (fun b e1 h1=>by
   have e3:g2=b:=by simpa[Value.ownBlock]using e1
   subst e3;have h2:=(akc _ (.inl (IG _ h1))).2;have:=lD.out;have:=acy.out.size;rcases HG2.out with h3|h3<;>omega) (by rw[hc5];exact Nat.zero_le _)
  have HCW:=hid aan;obtain⟨w1,w2,w3⟩:=hgood.write ((ma+1) % 2) (dw (ma+1) start cm nx) hwi KG;obtain⟨v1,v2,v3,_⟩:=w1.sync;have Af:=hid v3;have l7:Hid ((σ.io.D.write ((ma+1) % 2) (dw (ma+1) start cm nx)).sync.l.length=σ.io.D.l.length):=hid (by rw[v2,w2]);have Sm:=bs;have vM:=hid Sm;clear He yF yG hB hg hsz bs Sm XZ QB akc gW IG KF hc5 Bj KG hgood hfit hok2 hwi aan w1 w2 w3 v1 v2 v3;go_wp2_with fail;refine HCW.out.mono ?_;rintro er y14 ⟨S6,rfl,DC,tN⟩;have NQ:=vM.out.aH tN.grow akd.out;have aeF:=hid NQ;have auT:=hid DC;have HF6:=hid tN;have c0:=NQ.cell 0 _ rfl;have bU:=NQ.lt;have hsy:=GL DC;have HSY:=hid hsy;have aeG:¬S6 A.sb:=fun h=>(tN.new _ h).elim akd.out (fun h=>by have:=vM.out.lt;omega);have aeH:=hid aeG;clear DC tN NQ hsy aeG;go_wp2_with fail;refine HSY.out.mono ?_;rintro er y15 ⟨S7,rfl,ake,yh⟩;have NR:=aeF.out.aH yh.grow aeH.out;have aub:=hid NR;have qZ:=hid yh;have c1:=NR.cell 1 _ rfl;have Sr:=NR.lt;have aeI:¬S7 A.sb:=fun h=>(yh.new _ h).elim aeH.out (fun h=>by have:=aeF.out.lt;omega);have auc:=hid aeI;have htr:=abR ake start gY.out HS2.out;have HTR:=hid htr;clear ake yh NR aeI htr c0 bU;go_wp2_with fail;refine HTR.out.mono ?_;rintro er Rj ⟨S8,rfl,akf,DF⟩;obtain⟨S9,hs9,DI⟩:=aqF.out _ _ _ akf Af.out l7.out (HF6.out.trans (qZ.out.trans DF));have pW:=hid hs9;have Aj:=hid DI;obtain⟨xW,hs10,Ej⟩:=hs9.xq (σ':={ σ with io:={ D:=(σ.io.D.write ((ma+1) % 2) (dw (ma+1) start cm nx)).sync,R:=σ.io.R.trim start },master:=ma+1 }) 6 (by decide) (.int .i64 ((ma:Int)+1)) rfl rfl rfl rfl rfl;have abN:=hid hs10;have Kq:=hid Ej;have c6:=hs9.bC.cell 6 _ rfl;have cfz:=hs9.bC.free;have auU:=hs9.bC.lt;have aeJ:=hs9.bC;clear akf DF hs9 DI hs10 Ej c1 Sr;go_upto_region 20 with (fail);have c4:=aeJ.cell 4 _ rfl;obtain⟨Vx,hs11,zV⟩:=abN.out.afA;have DU:=hid hs11
  have X0:=hid zV;clear hs11 zV aeJ;go_wp2_with fail;go_ret;have e1:σ.mark start=({ σ with io:={ D:=(σ.io.D.write ((ma+1) % 2) (dw (ma+1) start cm nx)).sync,R:=σ.io.R.trim start },master:=ma+1,lines:=[] }:St):=by
   unfold St.mark;simp only[];rw[HSL.out,LZ.out,HCM.out,sH.out];rfl
  rw[e1];have F0:aG (aO S1 vl vo EO K) (aO S1 vl vo EO K) w0 w:=aG.below (aC dP.out);have FF:=(F0.trans abH.out).trans ((iY Aj.out).trans (iY Kq.out));have F2:aG (aO xW vl vo EO K) (aO Vx (.slice none 0 0) vo EO K) _ _:=fQ (X0.out.grow.mono (fun k h=>.inl h)) X0.out.new (fun k h=>by cases h) (fun k h=>.inl h) (fun k h=>.inl h)
  first|exact⟨_,rfl,DU.out,FF.trans F2⟩|exact⟨rfl,_,DU.out,FF.trans F2⟩
end
end
end Go.Proofs.YtpajagkhmodbnaaGreat

/- What StoreLazy needs of the store: area over anything that can be read, Read of a store whose device holds its masters alone, Restart, Open behind a commit. Conditions: the device does not fail. -/
import Derived.Test.YtpajagkhmodbnaaGreatCLzP
import Derived.Test.YtpajagkhmodbnaaGreatPr41
namespace Go.Proofs.YtpajagkhmodbnaaGreat
set_option maxRecDepth 100000
set_option maxHeartbeats 3200000
open Lib(hid)
set_option linter.unusedSimpArgs false
set_option linter.unusedVariables false
open Go.RowKit
section
variable{W0 w w':World}{A:bG}{c:Cf}{σ:St}{S:Nat->Prop}{k b dn:Nat}{W V:Nat->List UInt8}{recs:List Rc}{ps:List Int}
theorem adi(h:Rw W0 A c k b σ W S w V recs ps dn){x:Tx}(hx:σ.opn=[x])(hb:b+96+2048<=(c.n-1)*118):
    Held c d0 (cZ (recs++[acD x.id x.last])) (St.commit c σ 0 x).2.io.D/\(St.commit c σ 0 x).2.io.D.l.length=dn/\∀i,2+c.n<=i->(St.commit c σ 0 x).2.io.D.sec i=dB:=by
  have hr:=h.st.fine.room;have hcs:=h.st.fine.cost;have hcf:=h.st.ok.fr;have e:=St.step_eq σ c 0 x 4 (by omega);obtain⟨s,hs⟩:∃s:St,({ σ with io:={ σ.io with R:=σ.io.R.app (Rc.enc { Rc.zero with kind:=4,aV:=x.id,prev:=x.last }) },lines:=σ.lines++[(σ.io.R.tail+1,{ Rc.zero with kind:=4,aV:=x.id,prev:=x.last })],opn:=σ.opn.set 0 { x with last:=σ.io.R.tail+1 } }:St)=s:=⟨_,rfl⟩
  rw[hs]at e;have hR:Raw A.nf dn ps d0 s:=by
    subst hs;exact⟨h.raw.sec,h.raw.c0,h.raw.fin,h.raw.fr,h.raw.len,h.raw.dl⟩
  have hbytes:s.io.R.bytes=cZ (recs++[acD x.id x.last]):=by
    subst hs;show σ.io.R.bytes++_=_;rw[JC,h.Tz];rfl
  have hbase:s.io.R.base=0:=by subst hs;exact h.st.fine.base
  have htail:s.io.R.tail=σ.io.R.tail+96:=by
    subst hs;show(σ.io.R.app _).tail=_;rw[qN,oZ _ rfl rfl];rfl
  have hJ:Jg c s.io:=by
    subst hs;exact⟨h.sv.J.1,h.sv.J.2⟩
  have hfl:=hR.flush h.st.ok hJ hbase rfl (amk h.st.ok) (by rw[htail];omega);rw[hbytes]at hfl;obtain⟨f1,f2,f3,f4,f5⟩:=hfl;have hD:(St.commit c σ 0 x).2.io.D=(s.io.R.flush c.n s.io.D).2:=by
    unfold St.commit;simp only[];rw[e];simp only[ne_eq,not_true_eq_false,if_false];split
    · rfl
    · unfold St.end_ St.lay
      simp only[];split<;>rfl
  rw[hD];refine⟨f1,f4.trans hR.dl,fun i hi=>?_⟩;rw[f5 i hi,hR.sec];unfold d0;rw[if_neg (by omega)]
end
section
variable{W0 w w':World}{A:bG}{c:Cf}{σ:St}{S:Nat->Prop}{k b dn:Nat}{W V:Nat->List UInt8}{recs:List Rc}{ps:List Int}
theorem area_any(sb n:Nat)(hn2:n<=8192)(W:Nat->List UInt8)(hlen:∀q,q<n->(W q).length=504)(I:Nat->(Nat->Prop)->World->Prop)
    (hrd:∀j S w,j<n->I j S w->Calls Tryz.prog 38 #[.pointer (some ⟨sb,0,none⟩),.int .i64 (j:Nat),.int .i64 0,.int .i64 504] w fun er w'=>∃v S',er=.returned (.tuple #[v,.int .i64 0])/\w'.ownsRow w.heap.size 5 1 v 504 ((W j).map B)/\I (j+1) S' w'/\aG S S' w w')
    (h:I 0 S w):
    Calls Tryz.prog 40 #[.pointer (some ⟨sb,0,none⟩),.int .i64 (n:Nat)] w fun er w'=>∃S',er=.returned (.tuple #[.string ⟨(aal W n).toArray⟩,.bool true])/\I n S' w'/\aG S S' w w':=by
  have H0:=hid h;have aie:=hid hrd;have qU:=hid hlen;clear h hrd hlen;go_enter Tryz.func40,Tryz.ntmps40;go_wp2_with fail;go_loopw [6,7,8,9] (fun z6 z7 z8 z9 wr=>∃(j:Nat)(S':Nat->Prop),j<=n/\z7=.int .i64 (j:Nat)/\z6=.string ⟨(aal W j).toArray⟩/\I j S' wr/\aG S S' w wr) (fun _ z7 _ _ _=>n-(intOf z7).toNat)
  case atStart=>exact⟨0,S,Nat.zero_le _,rfl,rfl,H0.out,aG.below (aj.refl _)⟩
  case round=>
    obtain⟨j,S',hj,rfl,rfl,hst,hft⟩:=hrel;have HST:=hid hst;have iQ:=hid hft;clear hst hft;by_cases hjn:j<n
    · have b1:decide ((j:Int)<(n:Int))=true:=by simpa using hjn
      have b2:decide (j<n)=true:=by simpa using hjn
      have jD:=hid (aie.out j S' wr hjn HST.out);have hwl:=qU.out j hjn;go_wp2_with fail;refine jD.out.mono ?_;rintro e y ⟨v,S2,rfl,hrow,hst,hft⟩;obtain⟨g,cap,rfl,_,_⟩:=dV hrow (by decide);have hstr:=dJ (P:=Tryz.prog) Tryz.underlying48 Tryz.underlying5 Tryz.underlying9 (W j) (Reads.aY hrow);have happ:=af8 (aal W j) (W j);have hal:(aal W j).length=504*j:=ac7 (fun q hq=>qU.out q (by omega));have hz1:(⟨(aal W j).toArray⟩:ByteArray).size=504*j:=by rw[<-hal];exact List.size_toArray
      have hz2:(⟨(W j).toArray⟩:ByteArray).size=504:=by rw[<-hwl];exact List.size_toArray
      clear hal;have HS2:=hid hst;have HF2:=hid hft;clear hrow hst hft jD;go_wp2_with fail;go_roundw
      · exact⟨j+1,S2,by omega,by go_num,by rw[aal],HS2.out,iQ.out.trans HF2.out⟩
      · simp[intOf];omega
    · obtain rfl:j=n:=by omega
      go_wp2_with fail;go_ret2;exact⟨S',rfl,HST.out,iQ.out⟩
theorem agc(h:Rw W0 A c k b σ W S w V recs ps dn)(p:Nat)(hpg:p<c.pg)(hps:(p:Int)∈ps)(hk:k<=900000):
    Calls Tryz.prog 38 #[.pointer (some ⟨A.sb,0,none⟩),.int .i64 (p:Nat),.int .i64 0,.int .i64 504] w fun er w'=>∃v σ' S',er=.returned (.tuple #[v,.int .i64 0])/\w'.ownsRow w.heap.size 5 1 v 504 ((W p).map B)/\Rw W0 A c (k+1) b σ' W S' w' V recs ps dn/\aG S S' w w'/\Like σ σ':=by
  have hwr:=h.st.fine.wr;obtain⟨r1,r2,r3,r4,r5,r6,r7⟩:=h.st.fine.read h.st.ok h.st.std hpg 0 504;have hrd:=Vf h.st.sv p 0 504 hpg (by decide) (by omega);rw[r1,List.drop_zero,List.take_of_length_le (Nat.le_of_eq (h.st.std.len hpg))]at hrd;refine hrd.mono ?_;rintro e w' ⟨v,S',rfl,h1,h2,h3,h4,h5⟩;obtain⟨g1,g2,g3⟩:=h.sv.get h.st.ok hpg;have hs:=(σ.iV c p hpg).2;exact⟨v,_,S',rfl,h1,⟨⟨h4,r3,r2,h.st.ok⟩,g3,h.vw,h.raw.get h.sv.inv.uniq h.pl p hps hpg,hs.R.2.1.trans h.Tz,h.pl⟩,h5,⟨r4,r6,r5,r7⟩⟩
structure UpR(W0:World)(A:bG)(c:Cf)(k:Nat)(W:Nat->List UInt8)(cm un:Nat)(S:Nat->Prop)(w:World):Prop where
  ex:∃σ,SV W0 A c σ S w/\fG c A.nf σ W/\σ.p.wr<=k/\σ.commits=cm/\σ.aZ=un
  ok:c.ok
theorem agp{cm un:Nat}(h:UpR W0 A c k W cm un S w)(p:Nat)(hpg:p<c.pg)(hk:k<=1000000):
    Calls Tryz.prog 38 #[.pointer (some ⟨A.sb,0,none⟩),.int .i64 (p:Nat),.int .i64 0,.int .i64 504] w fun er w'=>∃v S',er=.returned (.tuple #[v,.int .i64 0])/\w'.ownsRow w.heap.size 5 1 v 504 ((W p).map B)/\UpR W0 A c (k+1) W cm un S' w'/\aG S S' w w':=by
  obtain⟨σ,hsv,hsd,hwr,hcm,hun⟩:=h.ex;obtain⟨r1,r2⟩:=hsd.read h.ok hpg 0 504;have hrd:=Vf hsv p 0 504 hpg (by decide) (by omega);rw[r1,List.drop_zero,List.take_of_length_le (Nat.le_of_eq (hsd.len hpg))]at hrd;refine hrd.mono ?_;rintro e w' ⟨v,S',rfl,h1,h2,h3,h4,h5⟩;have hs:=(σ.iV c p hpg).2;exact⟨v,S',rfl,h1,⟨⟨_,h4,r2,Nat.le_trans hs.wr (by omega),hs.commits.trans hcm,hs.aZ.trans hun⟩,h.ok⟩,h5⟩
theorem adk(h:SV W0 A c σ S w):
    Calls Tryz.prog 44 #[.pointer (some ⟨A.sb,0,none⟩)] w fun e w'=>e=.returned (.tuple #[.int .i64 (σ.aW:Nat),.int .i64 (σ.aZ:Nat)])/\Below w.heap.size w w':=by
  obtain⟨vl,vo,EL,EO,K,S1,h,_⟩:=h;have c1:=h.bC.cell 10 _ rfl;have c2:=h.bC.cell 11 _ rfl;have bU:=h.bC.lt;have HB:=hid (Below.refl w.heap.size w);clear h;go_enter Tryz.func44,Tryz.ntmps44;go_wp2_with fail;go_quiet (fail);go_wp2_with fail;go_ret2;exact⟨rfl,jW HB.out nq⟩
end
structure LzI(j:Nat)(σ:St)(x:Tx)(W:Nat->List UInt8)(us:List Rc):Prop where
  op:σ.opn=[x]
  id:x.id=1
  ups:Ups us
  len:us.length<=j
  w:W=aat (fun _=>nz 504) us
  rc:∀r∈us,r.mid/\r.page<5/\r.off+r.after.length<=504/\0<r.before.length
  sz:dR us+96=σ.io.R.tail
  tl:σ.io.R.tail<=96+296*j
  last:x.last<=σ.io.R.tail
theorem LzI.step {j:Nat} {σ σ':St} {x:Tx} {W:Nat->List UInt8} {us:List Rc} (h:LzI j σ x W us) (hj:j<=100) (p off:Nat) (hp:p<5) (bs:List UInt8) (ho:off+bs.length<=504) (hb:bs.length<=100) (hw:(W p).length=504) {V V':Nat->List UInt8} {recs qH:List Rc}
    (hc:(((W p).drop off).take bs.length=bs/\V'=V/\qH=recs/\σ'.opn=σ.opn/\σ'.io.R.tail=σ.io.R.tail/\((∀x∈σ.p.F,x.dirty=false)->∀x∈σ'.p.F,x.dirty=false))\/
       (((W p).drop off).take bs.length≠bs/\V'=fF V p (aX (aX (V p) 0 (aJ (σ.io.R.tail+1))) (8+off) bs)/\qH=recs++[uI x.id x.last p off (((W p).drop off).take bs.length) bs]/\
         σ'.opn=[{ x with last:=σ.io.R.tail+1,l:=x.l++[⟨σ.io.R.tail+1,x.last,p,off,((W p).drop off).take bs.length⟩] }]/\σ'.io.R.tail=σ.io.R.tail+(96+2*bs.length)/\∃y∈σ'.p.F,y.page=(p:Int)/\y.dirty=true/\y.aN=((σ.io.R.tail+1:Nat):Int))) (hr:recs=jA 1::us):
    ∃x' us',LzI (j+1) σ' x' (fF W p (aX (W p) off bs)) us'/\qH=jA 1::us':=by
  have hbl:(((W p).drop off).take bs.length).length=bs.length:=by rw[List.length_take,List.length_drop];omega
  rcases hc with ⟨h1,_,h3,h4,h5,_⟩|⟨h1,_,h3,h4,h5,_⟩
  · have e0:aX (W p) off bs=W p:=by
      have:=Jh (W p) off bs.length (by omega);rw[h1]at this;exact this
    rw[e0,DZ];exact⟨x,us,⟨h4.trans h.op,h.id,h.ups,by have:=h.len;omega,h.w,h.rc,h.sz.trans h5.symm,by rw[h5];have:=h.tl;omega,by rw[h5];exact h.last⟩,h3.trans hr⟩
  · have hpos:0<bs.length:=by
      rcases Nat.eq_zero_or_pos bs.length with h0|h0
      · rw[List.eq_nil_of_length_eq_zero h0]at h1;exact absurd (List.take_zero) h1
      · exact h0
    have htl:=h.tl;have hla:=h.last;refine⟨_,us++[uI x.id x.last p off (((W p).drop off).take bs.length) bs],⟨h4,h.id,?_,?_,?_,?_,?_,?_,?_⟩,?_⟩
    · intro r hr
      rcases List.mem_append.1 hr with hr|hr
      · exact h.ups r hr
      · rw[List.mem_singleton.1 hr];exact⟨rfl,h.id⟩
    · rw[List.length_append,List.length_singleton];have:=h.len;omega
    · rw[adE,<-h.w];rfl
    · intro r hr
      rcases List.mem_append.1 hr with hr|hr
      · exact h.rc r hr
      · rw[List.mem_singleton.1 hr]
        exact⟨ac2 _ _ _ _ _ _ (by rw[h.id];decide) (by omega) (by omega) (by omega) (by rw[hbl];omega) (by omega),hp,ho,by show 0<(((W p).drop off).take bs.length).length;rw[hbl];exact hpos⟩
    · rw[Ea,h5,<-h.sz]
      have:(uI x.id x.last p off (((W p).drop off).take bs.length) bs).size=96+2*bs.length:=by
        simp only[Rc.size,uI,Rc.zero,List.length_nil,hbl];omega
      rw[this];omega
    · rw[h5];omega
    · rw[h5];show σ.io.R.tail+1<=_;omega
    · rw[h3,hr];rfl
theorem aai:Cf.of 1024=⟨256,258,190⟩:=by kernel_rfl
theorem aaO:dN ((nz 512).take 8)=0:=by decide
theorem aex(t l:Nat)(ht:t<=1000000)(hl:l<=1000000):(acD t l).mid:=by
  refine⟨⟨?_,?_,?_,?_,?_,?_,?_,?_,?_,?_,?_⟩,?_,?_,?_,?_,?_,?_,?_⟩<;>first|rfl|(simp only[acD,Rc.zero,List.length_nil];omega)
theorem ad4 {W0 w:World} {d:Nat} {D:Dv} {S:Nat->Prop} (h:DV W0 d D S w) (hL:D.l.length=1024) {j l:Nat} {σ:St} {x:Tx} {W:Nat->List UInt8} {us:List Rc} (hi:LzI j σ x W us) (hj:j<=12) (hl:l<=1000000) (hH:Held (Cf.of 1024) d0 (cZ (aah us l)) D)
    (hP:∀q,q<(Cf.of 1024).pg->dO D ((Cf.of 1024).fr+5+4*q) 4=nz 512):
    Calls Tryz.prog 37 #[.pointer (some ⟨d,0,none⟩),.int .i64 64] w fun e w'=>∃(A:bG)(S':Nat->Prop),e=.returned (.tuple #[.pointer (some ⟨A.sb,0,none⟩),.int .i64 0])/\UpR W0 A (Cf.of 1024) 300064 W 1 0 S' w':=by
  have hpg:(Cf.of 1024).pg=190:=by rw[aai]
  have hcn:(Cf.of 1024).n=256:=by rw[aai]
  have hc:=Cf.NS 1024 (by decide);have hln:=hi.len;have htl:=hi.tl;have hsz:=hi.sz;have hml:∀r∈aah us l,r.mid:=fun r hr=>by
    rcases List.mem_append.1 hr with hr|hr
    · rcases List.mem_cons.1 hr with rfl|hr
      · exact aaJ 1 (by decide)
      · exact(hi.rc r hr).1
    · rw[List.mem_singleton.1 hr];exact aex 1 l (by decide) hl
  have hel:=vZ _ hml;have hz1:dR (jA 1::us)=96+dR us:=by
    show(jA 1).size+dR us=_;rfl
  have hz2:dR (aah us l)=96+dR us+96:=by
    unfold aah;rw[Ea,hz1];rfl
  have hzz:(fun p:Nat=>dN (((fun _=>nz 512) p:List UInt8).take 8))=fun _=>0:=by funext p;exact aaO
  obtain⟨dr,han⟩:=ae0 us l hi.ups;refine(JB h 1024 (by decide) (by decide) hL d0 _ hH 0 1 rfl rfl (by decide) (by decide) (by decide) 64 (by decide) (by decide) hml (by rw[hel,hz2,hcn];omega) (by unfold aah;rw[List.length_append,List.length_cons,List.length_singleton];omega) ?_ ?_ (fun _=>nz 512) hP (fun q _=>by rw[aaO];decide) (by rw[han];show(1:Nat)<=_;decide) ?_ ?_).mono ?_
  · intro r hr
    rcases List.mem_append.1 hr with hr|hr
    · rcases List.mem_cons.1 hr with rfl|hr
      · exact⟨by show(1:Nat)≠7;decide,by show(1:Nat)<=1;decide,by rw[hpg];show 0<190;decide,by show(0:Nat)+0<=_;decide,fun h=>absurd h (by show(1:Nat)≠2;decide)⟩
      · obtain⟨_,g1,g2,g3⟩:=hi.rc r hr
        obtain⟨g4,g5⟩:=hi.ups r hr;exact⟨by rw[g4];decide,by rw[g5];decide,by rw[hpg];omega,g2,fun _=>g3⟩
    · rw[List.mem_singleton.1 hr]
      exact⟨by show(4:Nat)≠7;decide,by show(1:Nat)<=1;decide,by rw[hpg];show 0<190;decide,by show(0:Nat)+0<=_;decide,fun h=>absurd h (by show(4:Nat)≠2;decide)⟩
  · intro r hr
    rcases List.mem_append.1 hr with hr|hr
    · rcases List.mem_cons.1 hr with rfl|hr
      · show(1:Nat)<=_;decide
      · rw[(hi.ups r hr).2];decide
    · rw[List.mem_singleton.1 hr];show(1:Nat)<=_;decide
  · have:=ade (dG 0 (aah us l)) ⟨[],[],0⟩
    have ajQ:(dG 0 (aah us l)).length=(aah us l).length:=by
      have:∀(rs:List Rc)(st:Nat),(dG st rs).length=rs.length:=fun rs=>by
        induction rs with
        | nil=>intro st;rfl
        | cons r rs ih=>intro st;show(dG (st+r.size) rs).length+1=rs.length+1;rw[ih]
      exact this _ _
    have ajR:(aah us l).length=us.length+2:=by unfold aah;rw[List.length_append,List.length_cons,List.length_singleton]
    show((dG 0 (aah us l)).foldl An.step ⟨[],[],0⟩).dr.length<=20;simp only[List.length_nil]at this;omega
  · intro T Dd hT _ hD _
    exact⟨_,agZ _ us l hi.ups (by omega) (by rw[hz1];omega) _ (by rw[hel,hz2,hcn];omega) T Dd hT hD⟩
  · rintro e w' ⟨A,S',σ',rfl,_,hnf,hsv,hup,_⟩
    obtain⟨T,Dd,U,hT,hD,_,hU,hs,hun⟩:=hup.ex;rw[han]at hT;obtain rfl:=List.perm_singleton.1 hT;have hU2:U=[]:=hU.symm;subst hU2;rw[hzz,agr _ _ _ hD,aes us l hi.ups]at hs;have hcm:=hup.commits;rw[han]at hcm;refine⟨A,S',rfl,⟨σ',hsv,?_,hup.wr,hcm,hun⟩,hc⟩;rw[hnf,hi.w];have e:(fun q=>(((fun _=>nz 512) q:List UInt8).drop 8))=fun _:Nat=>nz 504:=by funext q;show(nz 512).drop 8=nz 504;unfold nz;rw[List.drop_replicate]
    rw[e]at hs;exact hs
end Go.Proofs.YtpajagkhmodbnaaGreat

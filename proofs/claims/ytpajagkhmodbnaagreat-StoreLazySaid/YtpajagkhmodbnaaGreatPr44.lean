/- Pr: texts of the store seat laid together by program: ReUp RwKit SvEv StlP StlC. Conditions: each theorem names its own. -/
import Derived.Test.YtpajagkhmodbnaaGreatPr38
import Derived.Test.YtpajagkhmodbnaaGreatPr43
import Derived.Test.YtpajagkhmodbnaaGreatPr40
import Derived.Test.YtpajagkhmodbnaaGreatPr41
import Derived.Test.YtpajagkhmodbnaaGreatPr24
namespace Go.Proofs.YtpajagkhmodbnaaGreat
set_option maxRecDepth 100000
set_option maxHeartbeats 3200000
open Lib(hid)
set_option linter.unusedSimpArgs false
set_option linter.unusedVariables false
section
open Go.RowKit
theorem MN:lu dB=(0,0,0,0):=by decide
theorem Gn(k st ah nx:Nat)(hk:k<=1099511627776)(hs:st<=1099511627776)(ha:ah<=1099511627776)(hn:nx<=1099511627776):lu (dw k st ah nx)=(k,st,ah,nx):=by
  have l0:=dL k;have l1:=dL st;have l2:=dL ah;have l3:=dL nx;have e0:(dw k st ah nx).take 8=aJ k:=by
    unfold dw;rw[List.append_assoc,List.append_assoc,List.append_assoc,<-l0];exact List.take_left
  have e1:((dw k st ah nx).drop 8).take 8=aJ st:=by
    have:(dw k st ah nx).drop 8=aJ st++(aJ ah++(aJ nx++List.replicate 96 0)):=by
      unfold dw;rw[List.append_assoc,List.append_assoc,List.append_assoc,<-l0];exact List.drop_left
    rw[this,<-l1];exact List.take_left
  have e2:((dw k st ah nx).drop 16).take 8=aJ ah:=by
    have:(dw k st ah nx).drop 16=aJ ah++(aJ nx++List.replicate 96 0):=by
      unfold dw;rw[List.append_assoc,List.append_assoc,show(16:Nat)=(aJ k++aJ st).length by rw[List.length_append,l0,l1]];exact List.drop_left
    rw[this,<-l2];exact List.take_left
  have e3:((dw k st ah nx).drop 24).take 8=aJ nx:=by
    have:(dw k st ah nx).drop 24=aJ nx++List.replicate 96 0:=by
      unfold dw;rw[List.append_assoc,show(24:Nat)=(aJ k++aJ st++aJ ah).length by rw[List.length_append,List.length_append,l0,l1,l2]];exact List.drop_left
    rw[this,<-l3];exact List.take_left
  unfold lu;rw[e0,e1,e2,e3,oJ k (by omega),oJ st (by omega),oJ ah (by omega),oJ nx (by omega)]
section
variable{W0 w w':World}{d:Nat}{D:Dv}{S:Nat->Prop}
structure ak3(c:Cf)(nf:Nat)(l:List (Nat×Rc))(P:Nat->List UInt8)(ah:Nat)(σ:St):Prop where
  ex:∃(T:List T3)(Dd:List D2)(U:List Rc),T.Perm (bV l).tx/\Dd.Perm (bV l).dr/\Dd.Pairwise (fun a b=>a.1<=b.1)/\lH l (fH (gX T)+1) (gX T)=U/\
    fG c nf σ (yS (AL l (fun q=>(P q).drop 8) (fE Dd (fun p=>dN ((P p).take 8)) l).2) U)/\σ.aZ=(U.filter fun r=>decide (r.kind=3)).length
  commits:σ.commits=ah+(bV l).cm
  wr:σ.p.wr<=300064
theorem JB (h:DV W0 d D S w) (n:Nat) (hn1:128<=n) (hn2:n<=8192) (hL:D.l.length=n) (D0:Nat->List UInt8) (recs:List Rc) (hH:Held (Cf.of n) D0 (cZ recs) D) (ah nx:Nat) (h0:D0 0=dB) (h1:D0 1=dw 1 0 ah nx) (hnx:1<=nx) (hnx2:nx<=1000000) (hah:ah<=1000000) (nf:Nat) (hf1:1<=nf) (hf2:nf<=64)
    (hmid:∀r∈recs,r.mid) (hlen:(cZ recs).length<=((Cf.of n).n-1)*118) (hrn:recs.length<=10000) (hrec:∀r∈recs,r.kind≠7/\1<=r.aV/\r.page<(Cf.of n).pg/\r.off+r.after.length<=504/\(r.kind=2->0<r.before.length)) (hnr:∀r∈recs,r.aV<=1099511627775)
    (P:Nat->List UInt8) (hP:∀q,q<(Cf.of n).pg->dO D ((Cf.of n).fr+5+4*q) 4=P q) (hPn:∀q,q<(Cf.of n).pg->dN ((P q).take 8)<=1099511627776)
    (htx:(bV (dG 0 recs)).tx.length<=20) (hdr:(bV (dG 0 recs)).dr.length<=20)
    (hok:∀T Dd,T.Perm (bV (dG 0 recs)).tx->T.Pairwise (fun a b=>a.1<=b.1)->Dd.Perm (bV (dG 0 recs)).dr->Dd.Pairwise (fun a b=>a.1<=b.1)->∃U,X6 (Cf.of n) (dG 0 recs) (((Cf.of n).n-1)*118-(cZ recs).length) T Dd U):
    Calls Tryz.prog 37 #[.pointer (some ⟨d,0,none⟩),.int .i64 (nf:Nat)] w fun e w'=>∃(A:bG)(S':Nat->Prop)(σ':St),e=.returned (.tuple #[.pointer (some ⟨A.sb,0,none⟩),.int .i64 0])/\A.d=d/\A.nf=nf/\
      SV W0 A (Cf.of n) σ' S' w'/\ak3 (Cf.of n) nf (dG 0 recs) P ah σ'/\aG S S' w w':=by
  have hcf:=Jy n hn1;have hck:=Cf.NS n hn1;have zk:(jg n).1=(Cf.of n).n:=rfl;have Tv:(Cf.of n).n=n / 4:=by rw[hcf]
  have acW:(Cf.of n).fr=2+n / 4:=by rw[hcf]
  have acX:(Cf.of n).pg=(n-2-n / 4-5) / 4:=by rw[hcf]
  have hmk:lC D.sec 2=(1,0,ah,nx):=by
    show(if (if (0:Nat)<(lu (D.sec 0)).1 then lu (D.sec 0)else(0,0,0,0)).1<(lu (D.sec 1)).1 then lu (D.sec 1)else(if (0:Nat)<(lu (D.sec 0)).1 then lu (D.sec 0)else(0,0,0,0)))=_;rw[hH.m0,hH.m1,h0,h1,MN,Gn 1 0 ah nx (by omega) (by omega) (by omega) (by omega)];rfl
  have hmo:∀t,t<2->Fj (D.sec t):=fun t ht=>by
    unfold Fj
    match t,ht with
    | 0,_=>
      rw[hH.m0,h0,MN];exact⟨Nat.zero_le _,Nat.zero_le _,Nat.zero_le _,Nat.zero_le _⟩
    | 1,_=>
      rw[hH.m1,h1,Gn 1 0 ah nx (by omega) (by omega) (by omega) (by omega)];exact⟨by show 1<=_;omega,Nat.zero_le _,by show ah<=_;omega,by show nx<=_;omega⟩
  refine(MG h hH.good hH.c0 n hL hn1 nf hf1 hf2 hmo 1 0 ah nx nx hmk ⟨hnx,Nat.le_refl _,.inl rfl⟩ ⟨by omega,by omega,by omega,by omega⟩ (by rw[zk];have:=hH.head;rw[acW]at this;rw[Tv];exact this) ⟨0,cZ recs,0,(cZ recs).length⟩ (fun _=>True) ?_ (ak3 (Cf.of n) nf (dG 0 recs) P ah) ?_).mono ?_
  · intro y hy
    rw[zk,Tv];have hH2:=hH.reads 2;by_cases hz:cZ recs=[]
    · rw[hz]at hH2⊢
      refine(Ld hy hH2.good (by omega) (by omega) (by rw[(D.kH 2).1,hL];omega) (hH2.nil rfl)).mono ?_;rintro e w' ⟨r,S',rfl,h2,h3⟩;exact⟨r,S',1,trivial,rfl,h2,h3⟩
    · have hpos:1<=(cZ recs).length:=List.length_pos_iff.2 hz
      rw[Tv]at hlen;refine(aav hy hH2.good (by omega) (by omega) (by rw[(D.kH 2).1,hL];omega) (cZ recs) _ rfl hpos (by omega) (hH2.log hz).1 (hH2.log hz).2).mono ?_;rintro e w' ⟨r,S',q,rfl,h2,h3⟩;exact⟨r,S',q,trivial,rfl,h2,h3⟩
  · intro A y S1 q _ hA hs
    have hst:mF (Cf.of n) A.nf ⟨⟨((D.reads 2).reads q).reads 1,⟨0,cZ recs,0,(cZ recs).length⟩⟩,Pq.new nf,[],[],1,nx,0,0,0⟩ P:=by
      have hJ:Jg (Cf.of n) ⟨((D.reads 2).reads q).reads 1,⟨0,cZ recs,0,(cZ recs).length⟩⟩:=by
        refine⟨((hH.good.reads 2).reads q).reads 1,?_⟩;show _<=((((D.reads 2).reads q).reads 1)).l.length;rw[Dv.fM,Dv.fM,Dv.fM,hL,acX,acW];omega
      refine⟨hJ,⟨by show(List.replicate nf Fm.free).length=_;rw[List.length_replicate,hA],by omega,by show 0<A.nf;omega⟩,?_⟩;have hpg:∀p,p<(Cf.of n).pg->(Io.ops (Cf.of n).n (Cf.of n).fr).fJ ⟨((D.reads 2).reads q).reads 1,⟨0,cZ recs,0,(cZ recs).length⟩⟩ p=P p:=fun p hp=>by
        show dO (((D.reads 2).reads q).reads 1) _ 4=_;rw[<-hP p hp];exact kP (fun i _ _=>by rw[fU,fU,fU])
      have hPl:∀p,p<(Cf.of n).pg->(P p).length=512:=fun p hp=>by
        rw[<-hP p hp];exact zh hH.good.ok (by rw[hL,acW];rw[acX]at hp;omega)
      exact(ig.new (Cf.of n).pg nf P hPl).disk hpg
    have hrm:(⟨0,cZ recs,0,(cZ recs).length⟩:Rg).room (Cf.of n).n=((Cf.of n).n-1)*118-(cZ recs).length:=by
      unfold Rg.room Rg.tail;simp only[Nat.zero_div,Nat.zero_add]
    refine(X7 hck (by rw[acX,Tv];omega) hs hst hPn recs hmid 0 (cZ recs).length ah rfl (Nat.zero_add _).symm (by show(⟨0,cZ recs,0,_⟩:Rg).tail=_;unfold Rg.tail;simp) (by show(List.drop (0-0) (cZ recs)).take _=_;rw[Nat.sub_self,List.drop_zero];exact List.take_of_length_le (Nat.le_refl _)) rfl
      (by rw[Tv]at hlen;omega) (by omega) hrn hrec htx hdr (by show ∀T Dd,_->_->_->_->∃U,X6 _ _ (Rg.room _ _) _ _ _;rw[hrm];exact hok) (by show 0+300000+A.nf<=_;omega) (by show 1<=_;omega) (by show nx<=_;omega) hnr (by omega) (by show 0<=_;omega) (by show 0<=_;omega)).mono ?_
    rintro er w' ⟨rfl,T,Dd,U,σ5,K',aT,hT,hD,hDs,hU,hs5,hf5,SC,hc5,hu5,hr5,aue,au3,hm5,hn5,hw5⟩;refine⟨rfl,_,_,_,K',aT,hs5,hf5,⟨⟨T,Dd,U,hT,hD,hDs,hU,by rw[<-hA];exact SC,?_⟩,?_,?_⟩⟩
    · show σ5.aZ=_
      rw[hu5];exact Nat.zero_add _
    · exact hc5
    · show σ5.p.wr<=_
      have:σ5.p.wr<=0+300000+A.nf:=hw5;omega
  · rintro e w' ⟨A,S',σ',rfl,hd,hnf,hsv,hup,hfo⟩
    exact⟨A,S',σ',rfl,hd,hnf,hsv,hup,hfo⟩
end
end
section
open Go.RowKit
def d0(i:Nat):List UInt8:=if i=1 then dw 1 0 0 1 else dB
theorem Gp(k st ah nx:Nat):(dw k st ah nx).length=128:=by unfold dw;simp only[List.length_append,dL,List.length_replicate]
theorem Raw.new(n nf:Nat)(h1:128<=n)(h2:n<=8192)(ps:List Int):Raw nf n ps d0 (St.new n nf):=by
  have hg:=((((Ia h2).reads 2).reads 1).reads 1)
  have hl:((((Dv.new n).reads 2).reads 1).reads 1).l.length=n:=by
    rw[Dv.fM,Dv.fM,Dv.fM];show(List.replicate n ([]:List UInt8)).length=n;exact List.length_replicate
  obtain⟨w1,w2,w3⟩:=hg.write 1 (dw 1 0 0 1) (by omega) (Gp _ _ _ _);obtain⟨v1,v2,v3,v4⟩:=w1.sync;refine⟨?_,v3,rfl,fun x hx=>.inl ?_,by show(List.replicate nf Fm.free).length=nf;exact List.length_replicate,v2.trans ((congrArg List.length w2).trans hl)⟩
  · funext i
    show(((((Dv.new n).reads 2).reads 1).reads 1).write 1 (dw 1 0 0 1)).sync.sec i=_;rw[v4,hg.jV _ _ (by omega) (Gp _ _ _ _),fU,fU,fU,AQ];unfold d0;by_cases e:i=1
    · rw[if_pos e,if_pos e.symm]
    · rw[if_neg e,if_neg (fun h=>e h.symm)]
  · have:x=Fm.free:=List.eq_of_mem_replicate hx
    rw[this];decide
section
variable{W0 w w':World}{A:bG}{c:Cf}{σ:St}{S:Nat->Prop}{k b:Nat}{W V:Nat->List UInt8}{recs:List Rc}{ps:List Int}{nf dn:Nat}
theorem SV.dev(h:SV W0 A c σ S w):∃Sd,DV W0 A.d σ.io.D Sd w/\∀q,Sd q->S q:=by
  obtain⟨vl,vo,EL,EO,K,S1,h1,rfl⟩:=h;obtain⟨S5,hrg,hsub,_⟩:=h1.EW;obtain⟨vb,S0,_,hd,_,_,_,_,_,rfl⟩:=hrg;exact⟨S0,hd,fun q hq=>.inl (hsub q (.inl hq))⟩
structure Rw(W0:World)(A:bG)(c:Cf)(k b:Nat)(σ:St)(W:Nat->List UInt8)(S:Nat->Prop)(w:World)(V:Nat->List UInt8)(recs:List Rc)(ps:List Int)(dn:Nat):Prop where
  st:yK W0 A c k b σ W S w
  sv:mF c A.nf σ V
  vw:∀q,q<c.pg->W q=(V q).drop 8
  raw:Raw A.nf dn ps d0 σ
  Tz:σ.io.R.bytes=cZ recs
  pl:ps.length<A.nf
theorem Rw.grow{X:Nat->Prop}(h:Rw W0 A c k b σ W S w V recs ps dn)(hg:aj X w w')(hX:dA S X)(hB:Below W0.heap.size W0 w'):Rw W0 A c k b σ W S w' V recs ps dn:=⟨h.st.grow hg hX hB,h.sv,h.vw,h.raw,h.Tz,h.pl⟩
theorem Rw.below(h:Rw W0 A c k b σ W S w V recs ps dn)(hb:Below w.heap.size w w'):Rw W0 A c k b σ W S w' V recs ps dn:=⟨h.st.below hb,h.sv,h.vw,h.raw,h.Tz,h.pl⟩
theorem Rw.le(h:Rw W0 A c k b σ W S w V recs ps dn){k' b':Nat}(hk:k<=k')(hb:b<=b')(ht:b'+2048<=(c.n-1)*118):Rw W0 A c k' b' σ W S w V recs ps dn:=⟨h.st.le hk hb ht,h.sv,h.vw,h.raw,h.Tz,h.pl⟩
def jA(t:Nat):Rc:={ Rc.zero with kind:=1,aV:=t }
theorem JC(rs:List Rc)(r:Rc):cZ (rs++[r])=cZ rs++r.enc:=by simp[cZ]
theorem acY(h:Rw W0 A c k b σ W S w V recs ps dn)(hk:k<=900000)(hb:b+288+2048<=(c.n-1)*118):
    Calls Tryz.prog 28 #[.pointer (some ⟨A.sb,0,none⟩)] w fun e w'=>∃σ' S',e=.returned (.tuple #[.int .i64 (σ.next:Nat),.int .i64 0])/\Rw W0 A c (k+1) (b+288) σ' W S' w' V (recs++[jA σ.next]) ps dn/\aG S S' w w'/\
      σ'.opn=σ.opn++[⟨σ.next,σ.io.R.tail+1,σ.io.R.tail+1,[]⟩]/\σ'.next=σ.next+1/\σ'.io.R.tail=σ.io.R.tail+96/\σ'.p=σ.p:=by
  have hr:=h.st.fine.room;have hcs:=h.st.fine.cost;have e1:=Bq σ c (by omega);refine(QV h.st.sv h.st.fine (by omega) hb).mono ?_;rintro e w' ⟨S',rfl,h2,h3⟩;refine⟨_,S',rfl,⟨⟨h2,h.st.fine.begin hb,?_,h.st.ok⟩,?_,h.vw,h.raw.begin_,?_,h.pl⟩,h3,?_,?_,?_,?_⟩
  · rw[e1];exact h.st.std.congr rfl rfl
  · rw[e1];exact h.sv.congr rfl rfl
  · rw[e1,JC,<-h.Tz];rfl
  · rw[e1]
  · rw[e1]
  · rw[e1]
    show(σ.io.R.app _).tail=_;rw[qN,oZ _ rfl rfl];rfl
  · rw[e1]
theorem acZ{x:Tx}(ho:σ.opn=[x])(p off n:Nat):σ.busy (x.id:Int) p off n=false:=by
  unfold St.busy;rw[ho];simp[hits]
theorem afT(h:yK W0 A c k b σ W S w)(hk:k<=900000){x:Tx}(hx:σ.opn=[x])(p off:Nat)(bs:List UInt8)(v:Value)(hv:Reads 1 W0 v bs.length (bs.map B))(hpg:p<c.pg)(hoff:off+bs.length<=504)
    (hb:b+(192+3*bs.length)+2048<=(c.n-1)*118):
    Calls Tryz.prog 31 #[.pointer (some ⟨A.sb,0,none⟩),.int .i64 (x.id:Nat),.int .i64 (p:Nat),.int .i64 (off:Nat),v] w fun er w'=>∃S',er=.returned (.int .i64 0)/\SV W0 A c (σ.write c 0 x p off bs).2 S' w'/\aG S S' w w':=by
  have hx0:σ.opn[0]? = some x:=by rw[hx];rfl
  have hwr:=h.fine.wr;obtain⟨ao,cp,rfl,hl,hc,hcell⟩:=hv;rcases Nat.eq_zero_or_pos bs.length with h0|h0
  · have hbs:=List.eq_nil_of_length_eq_zero h0
    subst hbs;obtain⟨vl,vo,EL,EO,K,S1,h1,rfl⟩:=h.sv;obtain⟨b1,b2,b3,b4,b5,b6,b7,b8⟩:=h1.say h.fine (by omega);obtain⟨e,he,rfl⟩:=h1.eat hx0;obtain⟨c1,c2,c3,c4,c5,c6⟩:=b8 e (List.mem_of_getElem? he);exact aaF h1 b1 (by omega) b7 0 e (h.fine.of hx0) he p off ao cp hpg (by simpa using hoff) (by omega) (by omega) (by omega) (by omega)
  · obtain⟨bb,o,rfl,hbb,hc2⟩:=hcell h0
    have hrd:Reads 1 w (.slice (some ⟨bb,o,none⟩) bs.length cp) bs.length (bs.map B):=
      Reads.below (w:=W0) ⟨_,_,rfl,hl,hc,fun _=>⟨bb,o,rfl,hbb,hc2⟩⟩ h.bel (Nat.le_refl _)
    refine QW h.sv h.fine (by omega) (by omega) hx0 p off bs (some ⟨bb,o,none⟩) bs.length cp hrd rfl hpg hoff (acZ hx _ _ _) (fun q e=>?_) hb;have e2:bb=q:=(by simpa[Value.ownBlock]using e)
    subst e2;exact⟨fun hs=>by have:=(h.lt _ hs).1;omega,Nat.lt_of_lt_of_le hbb h.bel.size⟩
theorem ac0(h:Raw nf dn ps d0 σ)(hV:mF c nf σ V)(hl:ps.length<nf)(q:Nat)(hq2:q<c.pg)(hd:∀x∈σ.p.F,x.dirty=false):∀x∈(σ.get c q).2.2.p.F,x.dirty=false:=by
  unfold St.get;simp only[];cases hf:fZ σ.p.F (q:Int)with
  | some i=>
    have e:σ.p.get c.ops c.pg σ.io (q:Int)=(0,(σ.p.F.getD i Fm.free).b,{ σ.p with F:=σ.p.F.set i { σ.p.F.getD i Fm.free with marked:=true } },σ.io):=by unfold Pq.get;rw[hf]
    rw[e];intro x hx;rcases List.mem_or_eq_of_mem_set hx with hx|rfl
    · exact hd x hx
    · obtain⟨y,hy,_⟩:=mW hf
      rw[getD_at hy];exact hd y (List.mem_of_getElem? hy)
  | none=>
    obtain⟨i,hi⟩:=zM hV.inv.uniq h.fr (by rw[h.len];exact hl);have e:σ.p.get c.ops c.pg σ.io (q:Int)=(0,c.ops.fJ σ.io q,{ σ.p with F:=σ.p.F.set i ⟨q,c.ops.fJ σ.io q,false,true,0,0⟩ },c.ops.rd σ.io):=by
      unfold Pq.get;rw[hf];simp only[];rw[if_pos (by omega)];unfold Pq.free Pq.got;rw[hi];simp only[];rfl
    rw[e];intro x hx;rcases List.mem_or_eq_of_mem_set hx with hx|rfl
    · exact hd x hx
    · rfl
theorem ac1 (h:Rw W0 A c k b σ W S w V recs ps dn) (hk:k<=900000) {x:Tx} (hx:σ.opn=[x]) (p off:Nat) (bs:List UInt8) (v:Value) (hv:Reads 1 W0 v bs.length (bs.map B)) (hpg:p<c.pg) (hps:(p:Int)∈ps) (hoff:off+bs.length<=504)
    (hb:b+(192+3*bs.length)+2048<=(c.n-1)*118):
    Calls Tryz.prog 31 #[.pointer (some ⟨A.sb,0,none⟩),.int .i64 (x.id:Nat),.int .i64 (p:Nat),.int .i64 (off:Nat),v] w fun er w'=>∃σ' S' V' qH,er=.returned (.int .i64 0)/\Rw W0 A c (k+3) (b+(192+3*bs.length)) σ' (fF W p (aX (W p) off bs)) S' w' V' qH ps dn/\aG S S' w w'/\σ'.next=σ.next/\
      ((((W p).drop off).take bs.length=bs/\V'=V/\qH=recs/\σ'.opn=σ.opn/\σ'.io.R.tail=σ.io.R.tail/\((∀x∈σ.p.F,x.dirty=false)->∀x∈σ'.p.F,x.dirty=false))\/
       (((W p).drop off).take bs.length≠bs/\V'=fF V p (aX (aX (V p) 0 (aJ (σ.io.R.tail+1))) (8+off) bs)/\qH=recs++[uI x.id x.last p off (((W p).drop off).take bs.length) bs]/\
         σ'.opn=[{ x with last:=σ.io.R.tail+1,l:=x.l++[⟨σ.io.R.tail+1,x.last,p,off,((W p).drop off).take bs.length⟩] }]/\σ'.io.R.tail=σ.io.R.tail+(96+2*bs.length)/\∃y∈σ'.p.F,y.page=(p:Int)/\y.dirty=true/\y.aN=((σ.io.R.tail+1:Nat):Int))):=by
  have hx0:σ.opn[0]? = some x:=by rw[hx];rfl
  obtain⟨a1,a2,a3,a4,a5⟩:=h.st.fine.write h.st.ok h.st.std hx0 p off bs hpg hoff hb;have hr:=h.st.fine.room;have hcs:=h.st.fine.cost;have hraw:=h.raw.write h.st.ok h.sv h.pl 0 x p hps hpg off bs;have hw:=h.st.std.len hpg;have hbl:(((W p).drop off).take bs.length).length=bs.length:=by rw[List.length_take,List.length_drop];omega
  obtain⟨g1,g2,g3⟩:=h.sv.get h.st.ok hpg;have hlen:=h.sv.inv.len p hpg;have hbef:((σ.get c p).2.1.drop (8+off)).take bs.length=((W p).drop off).take bs.length:=by rw[g2,h.vw p hpg,List.drop_drop]
  have hs:=(σ.iV c p hpg).2;refine(afT h.st hk hx p off bs v hv hpg hoff hb).mono ?_;rintro er w' ⟨S',rfl,hsv,hf⟩;by_cases hne:((W p).drop off).take bs.length=bs
  · have e1:σ.write c 0 x p off bs=(0,(σ.get c p).2.2):=by
      unfold St.write;simp only[];rw[if_neg (by rw[g1];simp),hbef,if_pos hne]
    have e2:aX (W p) off bs=W p:=by
      have:=Jh (W p) off bs.length (by omega);rw[hne]at this;exact this
    refine⟨_,S',V,recs,rfl,⟨⟨hsv,a2,a3,h.st.ok⟩,?_,?_,hraw,?_,h.pl⟩,hf,a5,.inl ⟨hne,rfl,rfl,?_,?_,?_⟩⟩
    · rw[e1];exact g3
    · rw[e2,DZ];exact h.vw
    · rw[e1];exact hs.R.2.1.trans h.Tz
    · rw[e1];exact hs.opn
    · rw[e1];exact hs.R.tail
    · rw[e1];exact ac0 h.raw h.sv h.pl p hpg
  · have e1:=GZ σ c 0 x p off bs hpg _ hbef hne (by rw[hs.R.room c.n];simp only[Rc.size,Rc.zero,hbl,List.length_nil];omega)
    have ht:(σ.get c p).2.2.io.R.tail=σ.io.R.tail:=hs.R.tail;have hra:=h.raw.get (c:=c) h.sv.inv.uniq h.pl p hps hpg;rcases a4 with ⟨e,_⟩|⟨_,b2,b3,b4⟩
    · exact absurd e hne
    have hlo:(aX (aX (V p) 0 (aJ (σ.io.R.tail+1))) (8+off) bs).length=512:=by
      have e2:(aX (V p) 0 (aJ (σ.io.R.tail+1))).length=512:=by rw[dK _ _ _ (Nat.zero_le _),hlen]
      rw[dK _ _ _ (by omega),e2]
    obtain⟨st1,hst1⟩:∃s:St,({ (σ.get c p).2.2 with
        io:={ (σ.get c p).2.2.io with R:=(σ.get c p).2.2.io.R.app (Rc.enc { Rc.zero with kind:=2,aV:=x.id,prev:=x.last,page:=p,off:=off,before:=((W p).drop off).take bs.length,after:=bs }) },
        lines:=(σ.get c p).2.2.lines++[((σ.get c p).2.2.io.R.tail+1,{ Rc.zero with kind:=2,aV:=x.id,prev:=x.last,page:=p,off:=off,before:=((W p).drop off).take bs.length,after:=bs })],
        opn:=(σ.get c p).2.2.opn.set 0 { x with l:=x.l++[⟨(σ.get c p).2.2.io.R.tail+1,x.last,p,off,((W p).drop off).take bs.length⟩],last:=(σ.get c p).2.2.io.R.tail+1 } }:St)=s:=⟨_,rfl⟩
    rw[hst1,g2,ht]at e1;have s1:mF c A.nf st1 V:=by rw[<-hst1];exact g3.congr rfl rfl
    have s2:=s1.put h.st.ok hpg (aX (aX (V p) 0 (aJ (σ.io.R.tail+1))) (8+off) bs) hlo (σ.io.R.tail+1) (by omega);have s3:=St.xY st1 c p hpg (aX (aX (V p) 0 (aJ (σ.io.R.tail+1))) (8+off) bs) hlo (σ.io.R.tail+1) (by omega);have hu:(wX st1.p.F).isSome:=by
      have:=zM g3.inv.uniq hra.fr (by rw[hra.len];exact h.pl);rw[<-hst1];exact Option.isSome_iff_exists.2 this
    obtain⟨y,y1,y2,y3,y4⟩:=aaG (c:=c) p (aX (aX (V p) 0 (aJ (σ.io.R.tail+1))) (8+off) bs) (σ.io.R.tail+1) hpg hlo (by omega) (.inr hu);refine⟨_,S',_,_,rfl,⟨⟨hsv,a2,a3,h.st.ok⟩,?_,?_,hraw,?_,h.pl⟩,hf,a5,.inr ⟨hne,rfl,rfl,?_,b4,y,?_,y2,y3,y4⟩⟩
    · rw[e1];exact s2.2
    · intro q hq
      unfold fF;by_cases e:q=p
      · rw[if_pos e,if_pos e,zT (V p) (aJ _) bs off hlen (dL _) hoff,h.vw p hpg]
      · rw[if_neg e,if_neg e];exact h.vw q hq
    · rw[e1,s3.2.R.2.1,<-hst1]
      show(σ.get c p).2.2.io.R.bytes++_=_;rw[hs.R.2.1,h.Tz,JC];rfl
    · rw[b2,hx];rfl
    · rw[e1];exact y1
end
end
section
open Go.RowKit
section
variable{W0 w w':World}{d:Nat}{D:Dv}{S:Nat->Prop}
theorem iJ.crash{w:World}{G d:Nat}{D:Dv}{vl vc:Value}{EL:List Se}{K:Nat->Prop}(h:iJ w G d D vl vc EL [] K)(hg:D.good):
  iJ (((w.setCell ⟨d,1,none⟩ (.slice none 0 0)).setCell ⟨d,3,none⟩ (.bool false)).setCell ⟨d,2,none⟩ (.int .i64 (-1))) G d D vl (.slice none 0 0) EL [] K/\aj (fun k=>k=d) w (((w.setCell ⟨d,1,none⟩ (.slice none 0 0)).setCell ⟨d,3,none⟩ (.bool false)).setCell ⟨d,2,none⟩ (.int .i64 (-1))):=by
 have k1:=((h.box.setCell 1 (.slice none 0 0)).setCell 3 (.bool false)).setCell 2 (.int .i64 (-1));have k3:aj (fun k=>k=d) w (((w.setCell ⟨d,1,none⟩ (.slice none 0 0)).setCell ⟨d,3,none⟩ (.bool false)).setCell ⟨d,2,none⟩ (.int .i64 (-1))):=((aF w d 1 _).trans (aF _ d 3 _)).trans (aF _ d 2 _);have e1:=hg.dead;have e2:=hg.fuse;refine⟨⟨?_,aI h.nH k3 (fun q e=>(h.kl q e).2.1),World.ownsRow_nil _ _ _ _,h.lZ,h.wK,fun e he=>(h.N7 e he).grow k3 (fun k hk e=>h.kd (e▸hk)),(fun e he=>by cases he),
  fun k hk=>⟨(h.kin k hk).1,Nat.lt_of_lt_of_le (h.kin k hk).2 k3.size⟩,h.kd,fun q e=>⟨(h.kl q e).1,(h.kl q e).2.1,fun e=>by cases e⟩,(fun q e=>by cases e),h.ok⟩,k3⟩
 rw[e1,e2];exact k1
theorem aaI(h:DV W0 d D S w)(hg:D.good)(hc:D.c=[]):
  Calls Tryz.prog 36 #[.pointer (some ⟨d,0,none⟩),.slice none 0 0] w fun er w'=>(∃v,er=.returned v)/\∃S',DV W0 d D S' w'/\(∀k,S' k->S k)/\aj (fun k=>k=d) w w':=by
 obtain⟨vl,vc,EL,EC,K,h1,h2,h3,rfl⟩:=h;have hec:EC=[]:=by
  have:=h1.wK;rw[hc]at this;exact List.map_eq_nil_iff.1 this.symm
 subst hec;obtain⟨ao,cp,e⟩:=bF h1.pO;simp only[List.length_nil]at e;subst e;have H1:=hid h1;have c1:=h1.box.cell 1 _ rfl;have c2:=h1.box.cell 2 _ rfl;have c3:=h1.box.cell 3 _ rfl;have hlt:=h1.box.lt;have hfz:=h1.box.free;have f1:decide (((0:Nat):Int)<((0:Nat):Int))=false:=by decide
 have f2:decide ((0:Int)<0)=false:=by decide
 have FIN:=hid (h1.crash hg);have HB:=hid (show Below W0.heap.size W0 _ from h3.trans ((h1.crash hg).2.below (fun k hk=>⟨by have:=h3.size;omega,by omega⟩)));clear h1 hg hc h3;go_enter Tryz.func36,Tryz.ntmps36;go_wp2_with fail;go_loopw [11] (fun z11 w2=>z11=.int .i64 0/\w2=w) (fun _ _=>0)
 case atStart=>exact⟨rfl,rfl⟩
 case round=>
  obtain⟨rfl,rfl⟩:=hrel;go_wp2_with fail
  first|go_ret|go_end0
  exact⟨⟨_,rfl⟩,_,⟨_,_,_,_,_,FIN.out.1,h2,HB.out,rfl⟩,fun k hk=>hk.elim .inl (fun h=>h.elim (fun h=>.inr (.inl h)) (fun h=>h.elim (fun e=>by cases e) (fun h=>.inr (.inr (.inr h))))),FIN.out.2⟩
end
end
section
theorem aaJ(t:Nat)(ht:t<=1000000):(jA t).mid:=by
 have h0:(0:Nat)<=1099511627776:=by decide
 have h1:(0:Nat)<=4611686018427387904:=by decide
 exact⟨⟨by show(1:Nat)<=_;decide,by show t<=_;omega,h1,h1,h1,h1,h1,by show(0:Nat)<=_;decide,by show(0:Nat)<=_;decide,rfl,rfl⟩,by show(1:Nat)<=_;decide,by show t<=_;omega,h0,h0,h0,h0,h0⟩
theorem ac2(t l p off:Nat)(dM bs:List UInt8)(ht:t<=1000000)(hl:l<=1000000)(hp:p<=1000000)(ho:off<=1000)(h1:dM.length<=1000)(h2:bs.length<=1000):(uI t l p off dM bs).mid:=by
 have h0:(0:Nat)<=1099511627776:=by decide
 have h3:(0:Nat)<=4611686018427387904:=by decide
 exact⟨⟨by show(2:Nat)<=_;decide,by show t<=_;omega,by show l<=_;omega,h3,by show p<=_;omega,by show off<=_;omega,h3,by show dM.length<=_;omega,by show bs.length<=_;omega,rfl,rfl⟩,by show(2:Nat)<=_;decide,by show t<=_;omega,by show l<=_;omega,h0,by show p<=_;omega,by show off<=_;omega,h0⟩
theorem jE(k:Nat):(nz k).length=k:=List.length_replicate
section
variable{nf dn:Nat}{ps:List Int}{D0:Nat->List UInt8}{σ σ':St}{c:Cf}{V:Nat->List UInt8}
theorem amk(hc:c.ok):d0 c.fr=dB:=by
 have hfr:=hc.fr;unfold d0;rw[if_neg (by omega)]
end
end
section
open Go.RowKit
section
variable{W0 w w':World}{A:bG}{c:Cf}{σ:St}{S:Nat->Prop}{k b dn:Nat}{W V:Nat->List UInt8}{recs:List Rc}{ps:List Int}{nf:Nat}
theorem aml(D:Dv)(q:Nat)(h:∀i,q<=i->i<q+4->D.sec i=dB):dO D q 4=nz 512:=by
 have e:dO D q 4=dO (Dv.new 1) q 4:=kP (fun i h1 h2=>(h i h1 h2).trans (AQ 1 i).symm);rw[e];simp only[dO,AQ,dB,nz,List.nil_append,List.replicate_append_replicate]
theorem ak4(n:Nat)(h1:128<=n)(h2:n<=8192)(hnf:A.nf=nf)(hs:SV W0 A (Cf.of n) (St.new n nf) S w)(hd:fG (Cf.of n) nf (St.new n nf) (fun _=>nz 504))(ps:List Int)(hps:ps.length<nf):Rw W0 A (Cf.of n) 0 0 (St.new n nf) (fun _=>nz 504) S w (fun _=>nz 512) [] ps n:=by
 subst hnf;have hr:=Raw.new n A.nf h1 h2 ps;obtain⟨V,hV,hW⟩:=hd;have hc:=Cf.NS n h1;have hfr:=hc.fr;have hn:=hc.n2;have hfree:∀x∈(St.new n A.nf).p.F,x=Fm.free:=fun x hx=>List.eq_of_mem_replicate hx;have hz:∀q,q<(Cf.of n).pg->V q=nz 512:=fun q hq=>by
  have:=hV.inv.out q hq (fun x hx e=>by
   rw[hfree x hx]at e;have:(-1:Int)=(q:Int):=e;omega)
  rw[<-this];refine aml _ _ (fun i hi _=>?_);show(St.new n A.nf).io.D.sec i=dB;rw[hr.sec];unfold d0;rw[if_neg (by omega)]
 refine⟨⟨hs,Tq n A.nf h1,⟨V,hV,hW⟩,hc⟩,⟨hV.J,hV.hok,?_⟩,fun q hq=>?_,hr,rfl,hps⟩
 ·refine⟨fun x hx=>.inl (by rw[hfree x hx];decide),hV.inv.uniq,fun q hq h=>(hV.inv.out q hq h).trans (hz q hq),fun q hq=>jE 512⟩
 ·show nz 504=(nz 512).drop 8;unfold nz;rw[List.drop_replicate]
end
end
end Go.Proofs.YtpajagkhmodbnaaGreat

/- Pk: texts of the store seat laid together by program: SvSto2 SvArea ScChange. Conditions: each theorem names its own. -/
import Derived.Test.YtpajagkhmodbnaaGreatPk28
import Derived.Test.YtpajagkhmodbnaaGreatPk33
namespace Go.Proofs.YtpajagkhmodbnaaGreat
set_option linter.unusedSimpArgs false
set_option linter.unusedVariables false
section
open Go.RowKit
section
variable{c:Cf}{nf k b:Nat}{σ σ':St}{W:Nat→List UInt8}
theorem end_fine(hf:Fine c k b σ)(h:StD c nf σ W){i:Nat}{x:Tx}(hx:σ.opn[i]? = some x):
  (σ.end_ c i x).1=0∧Fine c (k+1) b (σ.end_ c i x).2∧StD c nf (σ.end_ c i x).2 W∧(σ.end_ c i x).2.opn=σ.opn.eraseIdx i∧(σ.end_ c i x).2.next=σ.next∧(σ.end_ c i x).2.lines=σ.lines++[(σ.io.R.tail+1,{ Rc.zero with kind:=6,txn:=x.id,prev:=x.last })]∧(σ.end_ c i x).2.io.R.tail=σ.io.R.tail+96:=by
 have hr:=hf.room
 have hcs:=hf.cost
 have htp:=hf.top
 have hrs:=hf.res_ge hx
 have e:=St.end_eq σ c i x (by simp only[txC]at hrs;omega)
 rw[e]
 have hs:Rc.size { Rc.zero with kind:=6,txn:=x.id,prev:=x.last }=96:=rfl
 refine⟨rfl,?_,h.congr rfl rfl,rfl,rfl,rfl,?_⟩
 ·have h1:=sum_erase (l:=σ.opn.map txC) (i:=i) (a:=txC x) (by rw[List.getElem?_map,hx];rfl)
  refine hf.app { Rc.zero with kind:=6,txn:=x.id,prev:=x.last } rfl rfl (σ.opn.eraseIdx i) σ.next σ.commits 1 0 (Nat.le_refl _) (by have:=hf.next.2;omega) (Nat.le_trans hf.commits (by omega)) (Nat.le_trans (List.length_eraseIdx_le _ _) (by have:=hf.opn;omega)) (fun y hy=>?_) ?_ ?_ htp
  ·exact(hf.tx y (List.mem_of_mem_eraseIdx hy)).mono (by omega) (Nat.le_refl _)
  ·rw[map_erase]
   exact List.Nodup.sublist (List.eraseIdx_sublist _ _) hf.nd
  ·rw[hs,map_erase,res_eq]
   simp only[txC]at h1 hrs⊢
   omega
 ·show(σ.io.R.app _).tail=_
  rw[app_tail,enc_len _ rfl rfl,hs]
theorem step_fine(hf:Fine c k b σ)(h:StD c nf σ W){i:Nat}{x:Tx}(hx:σ.opn[i]? = some x)(kd:Nat)(hb:b+96+2048≤(c.n-1)*118):
  (σ.step c i x { Rc.zero with kind:=kd }).1=0∧Fine c (k+1) (b+96) (σ.step c i x { Rc.zero with kind:=kd }).2∧StD c nf (σ.step c i x { Rc.zero with kind:=kd }).2 W∧(σ.step c i x { Rc.zero with kind:=kd }).2.opn=σ.opn.set i { x with last:=σ.io.R.tail+1 }∧(σ.step c i x { Rc.zero with kind:=kd }).2.next=σ.next∧
   (σ.step c i x { Rc.zero with kind:=kd }).2.lines=σ.lines++[(σ.io.R.tail+1,{ Rc.zero with kind:=kd,txn:=x.id,prev:=x.last })]∧(σ.step c i x { Rc.zero with kind:=kd }).2.io.R.tail=σ.io.R.tail+96:=by
 have hr:=hf.room
 have hcs:=hf.cost
 have e:=St.step_eq σ c i x kd (by omega)
 rw[e]
 have hs:Rc.size { Rc.zero with kind:=kd,txn:=x.id,prev:=x.last }=96:=rfl
 refine⟨rfl,?_,h.congr rfl rfl,rfl,rfl,rfl,?_⟩
 ·exact hf.setT { Rc.zero with kind:=kd,txn:=x.id,prev:=x.last } rfl rfl hx x.l 96 σ.commits (Nat.le_trans hf.commits (by omega)) (by omega) (fun u hu=>.inl hu) (by rw[hs];omega) hb
 ·show(σ.io.R.app _).tail=_
  rw[app_tail,enc_len _ rfl rfl,hs]
theorem rollback_fine(hc:c.ok)(hf:Fine c k b σ)(h:StD c nf σ W){i:Nat}{x:Tx}(hx:σ.opn[i]? = some x)(hb:b+96+2048≤(c.n-1)*118):
  Fine c (k+3*x.l.length+2) (b+96) (σ.rollback c i x).2∧StD c nf (σ.rollback c i x).2 (popU 0 (x.l.length+1) x.l W).2∧(σ.rollback c i x).2.opn=σ.opn.eraseIdx i∧(σ.rollback c i x).2.next=σ.next:=by
 obtain⟨a1,a2,a3,a4,a5,_,_⟩:=step_fine hf h hx 5 hb
 have hi:=(List.getElem?_eq_some_iff.1 hx).1
 obtain⟨s,hs⟩:∃s,σ.step c i x { Rc.zero with kind:=5 }=(0,s):=⟨_,Prod.ext a1 rfl⟩
 rw[hs]at a2 a3 a4 a5
 simp only at a2 a3 a4 a5
 have hx2:s.opn[i]? = some { x with last:=σ.io.R.tail+1 }:=by rw[a4];exact List.getElem?_set_self hi
 obtain⟨x',r1,r2,r3,r4,r5,r6,r7,r8,r9,r10,r11⟩:=undo_fine hc i 0 x.l.length (k+1) s _ W a2 a3 hx2 (Nat.le_refl _)
 obtain⟨s2,hs2⟩:∃s2,St.undo c i 0 (x.l.length+1) s=(0,s2):=⟨_,Prod.ext r1 rfl⟩
 rw[hs2]at r2 r3 r8 r9
 simp only at r2 r3 r8 r9
 have hx3:s2.opn[i]? = some x':=by
  rw[r3];exact List.getElem?_set_self (by rw[a4,List.length_set];exact hi)
 obtain⟨e1,e2,e3,e4,e5,_,_⟩:=end_fine r2 r8 hx3
 have e:σ.rollback c i x=s2.end_ c i x':=by
  unfold St.rollback
  rw[hs]
  simp only[ne_eq,not_true_eq_false,if_false]
  rw[hs2]
  simp only[ne_eq,not_true_eq_false,if_false]
  rw[hx3]
 rw[e]
 refine⟨e2.more _ (by omega),e3,?_,by rw[e5,r9,a5]⟩
 rw[e4,r3,a4,List.set_set]
 exact List.eraseIdx_set_eq
theorem commit_fine(hc:c.ok)(hf:Fine c k b σ)(h:StD c nf σ W){i:Nat}{x:Tx}(hx:σ.opn[i]? = some x)(hb:b+96+2048≤(c.n-1)*118):
  Fine c (k+3) (b+96) (St.commit c σ i x).2∧StD c nf (St.commit c σ i x).2 W∧(St.commit c σ i x).2.opn=σ.opn.eraseIdx i∧(St.commit c σ i x).2.next=σ.next:=by
 obtain⟨a1,a2,a3,a4,a5,a6,a7⟩:=step_fine hf h hx 4 hb
 have hi:=(List.getElem?_eq_some_iff.1 hx).1
 obtain⟨s,hs⟩:∃s,(σ.step c i x { Rc.zero with kind:=4 }).2=s:=⟨_,rfl⟩
 rw[hs]at a2 a3 a4 a5
 have hx2:s.opn[i]? = some { x with last:=σ.io.R.tail+1 }:=by rw[a4];exact List.getElem?_set_self hi
 have hsame:=flush_same c.n s.io.R s.io.D
 have hf2:Fine c (k+2) (b+96) ({ s with commits:=s.commits+1,io:={ D:=(s.io.R.flush c.n s.io.D).2,R:=(s.io.R.flush c.n s.io.D).1 } }:St):=by
  have ht:=hsame.tail
  refine⟨hsame.2.2.trans a2.start,hsame.1.trans a2.base,Nat.le_trans a2.wr (by omega),?_,⟨a2.next.1,by have:=a2.next.2;show s.next≤_;omega⟩,by have:=a2.commits;show s.commits+1≤_;omega,Nat.le_trans a2.opn (by omega),?_,a2.nd,?_,a2.top⟩
  ·show 96*s.lines.length≤(s.io.R.flush c.n s.io.D).1.tail
   rw[ht];exact a2.lines
  ·show ∀y∈s.opn,TxFine c (s.io.R.flush c.n s.io.D).1.tail s.next y
   rw[ht];exact a2.tx
  ·show(s.io.R.flush c.n s.io.D).1.tail+(s.opn.map txC).sum≤_
   rw[ht];exact a2.cost
 have hd2:StD c nf ({ s with commits:=s.commits+1,io:={ D:=(s.io.R.flush c.n s.io.D).2,R:=(s.io.R.flush c.n s.io.D).1 } }:St) W:=a3.flush hc rfl rfl
 obtain⟨e1,e2,e3,e4,e5,_,_⟩:=end_fine hf2 hd2 (i:=i) (x:={ x with last:=σ.io.R.tail+1 }) hx2
 have e:St.commit c σ i x=St.end_ c ({ s with commits:=s.commits+1,io:={ D:=(s.io.R.flush c.n s.io.D).2,R:=(s.io.R.flush c.n s.io.D).1 } }:St) i { x with last:=σ.io.R.tail+1 }:=by
  unfold St.commit
  simp only[]
  rw[if_neg (by rw[a1];simp),hs]
  rw[hx2]
 rw[e]
 refine⟨e2,e3,?_,by rw[e5];exact a5⟩
 rw[e4]
 show s.opn.eraseIdx i=_
 rw[a4]
 exact List.eraseIdx_set_eq
end
section
variable{W0 w w' w2:World}{A:Adr}{c:Cf}{σ:St}{S X:Nat→Prop}{k b:Nat}{W:Nat→List UInt8}
theorem rollback_st(h:Sto W0 A c k b σ W S w)(hk:k≤900000){i:Nat}{x:Tx}(hx:σ.opn[i]? = some x)(hb:b+96+2048≤(c.n-1)*118):
  Calls Tryz.prog 30 #[.pointer (some ⟨A.sb,0,none⟩),.int .i64 (x.id:Nat)] w fun er w'=>∃σ' S',er=.returned (.int .i64 0)∧Sto W0 A c (k+3*x.l.length+2) (b+96) σ' (popU 0 (x.l.length+1) x.l W).2 S' w'∧Foot S S' w w'∧σ'.opn=σ.opn.eraseIdx i∧σ'.next=σ.next:=by
 obtain⟨r1,r2,r3,r4⟩:=rollback_fine h.ok h.fine h.std hx hb
 refine(rollback_sv h.sv h.fine (by omega) (by have:=h.fine.wr;omega) hx).mono ?_
 rintro er w' ⟨S',rfl,g1,g2⟩
 exact⟨_,S',rfl,⟨g1,r1,r2,h.ok⟩,g2,r3,r4⟩
theorem commit_st(h:Sto W0 A c k b σ W S w)(hk:k≤900000){i:Nat}{x:Tx}(hx:σ.opn[i]? = some x)(hb:b+96+2048≤(c.n-1)*118):
  Calls Tryz.prog 29 #[.pointer (some ⟨A.sb,0,none⟩),.int .i64 (x.id:Nat)] w fun er w'=>∃σ' S',er=.returned (.int .i64 0)∧Sto W0 A c (k+3) (b+96) σ' W S' w'∧Foot S S' w w'∧σ'.opn=σ.opn.eraseIdx i∧σ'.next=σ.next:=by
 obtain⟨r1,r2,r3,r4⟩:=commit_fine h.ok h.fine h.std hx hb
 refine(commit_sv h.sv h.fine (by omega) hx).mono ?_
 rintro er w' ⟨S',rfl,g1,g2⟩
 exact⟨_,S',rfl,⟨g1,r1,r2,h.ok⟩,g2,r3,r4⟩
end
end
section
open Go.RowKit
def areaB(W:Nat→List UInt8):Nat→List UInt8
 | 0=>[]
 | n+1=>areaB W n++W n
theorem areaB_len{W:Nat→List UInt8}:∀{n:Nat},(∀q,q<n→(W q).length=504)→(areaB W n).length=504*n
 | 0,_=>rfl
 | n+1,h=>by rw[areaB,List.length_append,areaB_len (fun q hq=>h q (by omega)),h n (by omega)];omega
theorem str_app(a b:List UInt8):((⟨a.toArray⟩:ByteArray)++(⟨b.toArray⟩:ByteArray))=(⟨(a++b).toArray⟩:ByteArray):=by
 apply ByteArray.ext
 rw[ByteArray.data_append]
 simp
section
variable{W0 w w' w2:World}{A:Adr}{c:Cf}{σ:St}{S X:Nat→Prop}{k b:Nat}{W:Nat→List UInt8}
set_option maxRecDepth 100000 in
set_option maxHeartbeats 3200000 in
theorem area_st(h:Sto W0 A c k b σ W S w)(n:Nat)(hn:n≤c.pg)(hn2:n≤8192)(hk:k+n≤900000):
  Calls Tryz.prog 40 #[.pointer (some ⟨A.sb,0,none⟩),.int .i64 (n:Nat)] w fun er w'=>∃σ' S',er=.returned (.tuple #[.string ⟨(areaB W n).toArray⟩,.bool true])∧Sto W0 A c (k+n) b σ' W S' w'∧Foot S S' w w'∧Like σ σ':=by
 have H0:=Lib.hid h
 clear h
 go_enter Tryz.func40,Tryz.ntmps40
 go_wp2_with fail
 go_loopw [6,7,8,9] (fun z6 z7 z8 z9 wr=>∃(j:Nat)(σ':St)(S':Nat→Prop),j≤n∧z7=.int .i64 (j:Nat)∧z6=.string ⟨(areaB W j).toArray⟩∧Sto W0 A c (k+j) b σ' W S' wr∧Foot S S' w wr∧Like σ σ') (fun _ z7 _ _ _=>n-(intOf z7).toNat)
 case atStart=>exact⟨0,σ,S,Nat.zero_le _,rfl,rfl,H0.out,Foot.below (GrowX.refl _),Like.refl _⟩
 case round=>
  obtain⟨j,σ',S',hj,rfl,rfl,hst,hft,hlk⟩:=hrel
  have HST:=Lib.hid hst
  have HFT:=Lib.hid hft
  have HLK:=Lib.hid hlk
  clear hst hft hlk
  by_cases hjn:j<n
  ·have b1:decide ((j:Int)<(n:Int))=true:=by simpa using hjn
   have b2:decide (j<n)=true:=by simpa using hjn
   have hrd:=read_st HST.out j 0 504 (by omega) (by omega) (by omega)
   have hwl:=HST.out.std.len (show j<c.pg by omega)
   rw[List.drop_zero,List.take_of_length_le (Nat.le_of_eq hwl)]at hrd
   have HRD:=Lib.hid hrd
   clear hrd
   go_wp2_with fail
   refine HRD.out.mono ?_
   rintro e y ⟨v,σ2,S2,rfl,hrow,hlen,hns,hst,hft,hlk⟩
   obtain⟨g,cap,rfl,_,_⟩:=own_slice hrow (by decide)
   have hstr:=run_str_reads Tryz.underlying48 Tryz.underlying5 Tryz.underlying9 (W j) (Reads.of_own hrow)
   have happ:=str_app (areaB W j) (W j)
   have hal:(areaB W j).length=504*j:=areaB_len (fun q hq=>HST.out.std.len (by omega))
   have hz1:(⟨(areaB W j).toArray⟩:ByteArray).size=504*j:=by rw[←hal];exact List.size_toArray
   have hz2:(⟨(W j).toArray⟩:ByteArray).size=504:=by rw[←hwl];exact List.size_toArray
   clear hal
   have HS2:=Lib.hid hst
   have HF2:=Lib.hid hft
   have HL2:=Lib.hid hlk
   clear hrow hst hft hlk hns hlen HRD
   go_wp2_with fail
   go_roundw
   ·exact⟨j+1,σ2,S2,by omega,by go_num,by rw[areaB],HS2.out.more _ (by omega),HFT.out.trans HF2.out,HLK.out.trans HL2.out⟩
   ·simp[intOf];omega
  ·obtain rfl:j=n:=by omega
   go_wp2_with fail
   go_ret2
   exact⟨σ',S',rfl,HST.out,HFT.out,HLK.out⟩
end
def popR(mark:Nat):List Up→(Nat→List UInt8)→List Up×(Nat→List UInt8)
 | [],W=>([],W)
 | u::r,W=>if u.lsn≤mark then(u::r,W)else popR mark r (updV W u.page (overB (W u.page) u.off u.before))
theorem popU_R(mark:Nat):∀(m:Nat)(l:List Up)(W:Nat→List UInt8),l.length≤m→popU mark (m+1) l W=((popR mark l.reverse W).1.reverse,(popR mark l.reverse W).2):=by
 intro m
 induction m with
 | zero=>
  intro l W hl
  rw[List.eq_nil_of_length_eq_zero (show l.length=0 by omega)]
  rfl
 | succ m ih=>
  intro l W hl
  rw[popU]
  cases hg:l.getLast? with
  | none=>
   rw[List.getLast?_eq_none_iff]at hg
   subst hg
   rfl
  | some u=>
   have he:=drop_last hg
   have hr:l.reverse=u::l.dropLast.reverse:=by rw[←he,List.reverse_append];simp
   simp only[]
   rw[hr,popR]
   split
   ·rw[←hr,List.reverse_reverse]
   ·exact ih _ _ (by rw[List.length_dropLast];omega)
theorem popR_twice(m1 m2:Nat)(h:m1≤m2):∀(r:List Up)(W:Nat→List UInt8),popR m1 (popR m2 r W).1 (popR m2 r W).2=popR m1 r W
 | [],W=>rfl
 | u::r,W=>by
  rw[popR]
  split
  ·rfl
  ·next hn=>
   rw[popR_twice m1 m2 h r]
   conv=>rhs;rw[popR]
   rw[if_neg (by omega)]
theorem popR_stop{m:Nat}{r:List Up}(h:∀u∈r,u.lsn≤m)(W:Nat→List UInt8):popR m r W=(r,W):=by
 cases r with
 | nil=>rfl
 | cons u r=>rw[popR,if_pos (h u (List.mem_cons_self ..))]
theorem popR_mem{m:Nat}:∀(r:List Up)(W:Nat→List UInt8),∀u∈(popR m r W).1,u∈r
 | [],W,u,hu=>hu
 | v::r,W,u,hu=>by
  rw[popR]at hu
  split at hu
  ·exact hu
  ·exact List.mem_cons_of_mem _ (popR_mem r _ u hu)
theorem updV_back(W:Nat→List UInt8)(p:Nat)(x y:List UInt8)(h:overB x 0 []=x∨True)(hx:y=W p):updV (updV W p x) p y=W:=by
 funext q
 unfold updV
 split
 ·next e=>rw[e,hx]
 ·rfl
theorem over_undo(W:Nat→List UInt8)(p off:Nat)(bs:List UInt8)(h:off+bs.length≤(W p).length):
  updV (updV W p (overB (W p) off bs)) p (overB (updV W p (overB (W p) off bs) p) off (((W p).drop off).take bs.length))=W:=by
 refine updV_back W p _ _ (.inr trivial) ?_
 have e:updV W p (overB (W p) off bs) p=overB (W p) off bs:=by unfold updV;rw[if_pos rfl]
 rw[e]
 exact overB_back _ _ _ _ h rfl
end
section
open Go.RowKit
theorem overB_mid(l bs:List UInt8)(f t:Nat)(hl:l.length=bs.length)(ht:t≤bs.length)(hft:f≤t)(h1:∀j,j<f→l[j]? = bs[j]?)(h2:∀j,t≤j→l[j]? = bs[j]?):overB l f ((bs.drop f).take (t-f))=bs:=by
 have hx:((bs.drop f).take (t-f)).length=t-f:=by rw[List.length_take,List.length_drop];omega
 apply List.ext_getElem?
 intro j
 rw[overB_get _ _ _ (by rw[hx];omega),hx]
 split
 ·next h=>exact h1 j h
 ·next h=>
  split
  ·next h3=>rw[List.getElem?_take,if_pos (by omega),List.getElem?_drop];congr 1;omega
  ·next h3=>exact h2 j (by omega)
theorem byte_two{a d:UInt8}(h:¬a=d):decide ((a.toNat:Int)=(d.toNat:Int))=false∧((a.toNat:Int)==(d.toNat:Int))=false∧decide (a.toNat=d.toNat)=false∧(a.toNat==d.toNat)=false:=by
 have h1:¬a.toNat=d.toNat:=fun e=>h (UInt8.toNat_inj.1 e)
 have h2:¬(a.toNat:Int)=(d.toNat:Int):=by omega
 exact⟨by simpa using h2,by simpa using h2,by simpa using h1,by simpa using h1⟩
section
variable{W0 w w' w2:World}{A:Adr}{c:Cf}{σ:St}{S X:Nat→Prop}{k b:Nat}{W:Nat→List UInt8}
set_option maxRecDepth 100000 in
set_option maxHeartbeats 6400000 in
theorem change_st (h:Sto W0 A c k b σ W S w) (hk:k≤800000) {i:Nat} {x:Tx} (hx:σ.opn[i]? = some x) (p:Nat) (hp:p<c.pg) (bs:List UInt8) (hbl:bs.length=504) (bb o cb:Nat) (hv:Reads 1 w (.slice (some ⟨bb,o,none⟩) 504 cb) 504 (bs.map B)) (hbS:¬S bb) (hbw:bb<w.heap.size)
  (hbusy:∀f t,f<t→t≤504→σ.busy (x.id:Int) p f (t-f)=false) (hb:b+1704+2048≤(c.n-1)*118):
  Calls Tryz.prog 92 #[.pointer (some ⟨A.sb,0,none⟩),.int .i64 (x.id:Nat),.int .i64 (p:Nat),.slice (some ⟨bb,o,none⟩) 504 cb] w fun er w'=>∃σ' S',er=.returned (.int .i64 0)∧Sto W0 A c (k+4) (b+1704) σ' (updV W p bs) S' w'∧Foot S S' w w'∧(Like σ σ'∨∃f ds,Wrote σ σ' i x W p f ds):=by
 have hwl:=h.std.len hp
 have hrd:=read_st h p 0 504 hp (by omega) (by omega)
 rw[List.drop_zero,List.take_of_length_le (Nat.le_of_eq hwl)]at hrd
 have hcb:504≤cb:=by
  obtain⟨ao,cp,e,_,hc,_⟩:=hv
  injection e with _ _ e3
  omega
 have HWR:=Lib.hid (fun(σ1:St) (S1:Nat→Prop) (w1:World) (h1:Sto W0 A c (k+1) b σ1 W S1 w1) (hl:Like σ σ1) (hr:Reads 1 w1 (.slice (some ⟨bb,o,none⟩) 504 cb) 504 (bs.map B)) (hns:¬S1 bb) (hlt:bb<w1.heap.size) (f t:Nat) (hft:f<t) (ht:t≤504)=>
  write_st h1 (by omega) (i:=i) (x:=x) (by rw[hl.opn];exact hx) p f ((bs.drop f).take (t-f)) (some ⟨bb,o+f,none⟩) (t-f) (cb-f) (by
   have h2:=hr.cutA f t (by omega) ht
   unfold cutA at h2
   rw[if_neg (by omega),←List.map_drop,←List.map_take]at h2
   simpa only[Option.map_some,Addr.add_lit,Nat.mul_one]using h2)
   (by rw[List.length_take,List.length_drop];omega) hp (by omega) (by have h3:=hbusy f t hft ht;unfold St.busy at h3⊢;rw[hl.opn];exact h3)
   (fun q e=>by have e2:bb=q:=(by simpa[Value.ownBlock]using e);exact e2▸⟨hns,hlt⟩) (by omega))
 have HR:=Lib.hid hrd
 have HV:=Lib.hid hv
 have HBS:=Lib.hid hbS
 have HB5:=Lib.hid hb
 have HOV:=Lib.hid (fun(f t:Nat) (ht:t≤504) (hft:f≤t)=>overB_mid (W p) bs f t (by omega) (by omega) hft)
 have HBL:=Lib.hid hbl
 have HWL:=Lib.hid hwl
 obtain⟨old,hold⟩:∃l,W p=l:=⟨_,rfl⟩
 have HOLD:=Lib.hid hold
 rw[hold]at HR HWL
 obtain⟨t,htt⟩:∃t:Nat,x.id=t:=⟨_,rfl⟩
 have HTT:=Lib.hid htt
 rw[htt]at HWR⊢
 clear h hrd hv hwl hx hb hbS hbusy hbl hold htt
 go_enter Tryz.func92,Tryz.ntmps92
 go_wp2_with fail
 refine HR.out.mono ?_
 rintro e y ⟨v,σ',S',rfl,hrow,hlen,hns,hst,hft,hlk⟩
 obtain⟨g,cap,rfl,hgb,hcap⟩:=own_slice hrow (by decide)
 have HVY:=Lib.hid (HV.out.growx hft.grow (fun q e=>(by have e2:bb=q:=(by simpa[Value.ownBlock]using e);exact e2▸HBS.out)))
 have HROW:=Lib.hid hrow
 have HST:=Lib.hid hst
 have HFT:=Lib.hid hft
 have HLK:=Lib.hid hlk
 have HNB:Hid (¬S' bb):=Lib.hid (fun hs=>by rcases hft.new bb hs with h1|h1;exact HBS.out h1;omega)
 have hby:bb<y.heap.size:=Nat.lt_of_lt_of_le hbw hft.grow.size
 have hgy:=(hrow.lt g rfl).2
 clear hrow hst hft hlk hns hlen HR HV
 have HC1:=Lib.hid (fun(wr:World) (hbel:Below y.heap.size y wr) (j:Nat) (a:UInt8) (ha:old[j]? = some a)=>(hbel.cell hgy).trans (own_at HROW.out j (B a) (by rw[List.getElem?_map,ha];rfl)))
 have HC2:=Lib.hid (fun(wr:World) (hbel:Below y.heap.size y wr) (j:Nat) (a:UInt8) (ha:bs[j]? = some a)=>(by
  obtain⟨ao,cp,e,_,_,hc⟩:=HVY.out
  obtain⟨b2,o2,e2,hb2,hc2⟩:=hc (by decide)
  injection e with e3
  rw[e2]at e3
  injection e3 with e4
  injection e4 with e5 e6
  subst e5 e6
  exact(hbel.cell hb2).trans (hc2 j (B a) (by rw[List.getElem?_map,ha];rfl)):wr.cell? ⟨bb,o+j,none⟩=some (B a)))
 go_wp2_with fail
 go_loopw [11] (fun z11 wr=>∃f:Nat,f≤504∧z11=.int .i64 (f:Nat)∧(∀j,j<f→old[j]? = bs[j]?)∧Below y.heap.size y wr) (fun z11 _=>504-(intOf z11).toNat)
 case atStart=>exact⟨0,Nat.zero_le _,rfl,fun j hj=>absurd hj (Nat.not_lt_zero _),Below.refl _ _⟩
 case round=>
  obtain⟨f,hf,rfl,heq,hbel⟩:=hrel
  have HEQ:=Lib.hid heq
  have HBEL:=Lib.hid hbel
  clear heq hbel
  by_cases hfn:f<504
  ·obtain⟨a,ha⟩:∃a,old[f]? = some a:=⟨_,List.getElem?_eq_getElem (by rw[HWL.out];exact hfn)⟩
   obtain⟨d,hd⟩:∃a,bs[f]? = some a:=⟨_,List.getElem?_eq_getElem (by rw[HBL.out];exact hfn)⟩
   have c1:wr.cell? ⟨g,f,none⟩=some (.int .u8 (a.toNat:Int)):=HC1.out wr HBEL.out f a ha
   have c2:wr.cell? ⟨bb,o+f,none⟩=some (.int .u8 (d.toNat:Int)):=HC2.out wr HBEL.out f d hd
   have hfb:decide ((f:Int)<504)=true:=decide_eq_true (by omega)
   by_cases had:a=d
   ·subst had
    have HED:=Lib.hid (ha.trans hd.symm)
    clear ha hd
    go_wp2_with fail
    go_quiet (fail)
    have hq2:=below_dn (Below.refl wr.heap.size wr) nq
    have HQ2:=Lib.hid (HBEL.out.trans (hq2.mono HBEL.out.size))
    clear hq2 c1 c2
    go_wp2_with fail
    go_roundw
    ·exact⟨f+1,by omega,by go_num,fun j hj=>(by rcases Nat.lt_succ_iff_lt_or_eq.1 hj with h|rfl<;>first|exact HEQ.out _ h|exact HED.out),HQ2.out⟩
    ·simp[intOf];omega
   ·obtain⟨q1,q2,q3,q4⟩:=byte_two had
    have HND:Hid (¬old[f]? = bs[f]?):=Lib.hid (by rw[ha,hd];simpa using had)
    clear ha hd had
    go_wp2_with fail
    go_quiet (fail)
    have hq2:=below_dn (Below.refl wr.heap.size wr) nq
    have HQ2:=Lib.hid (HBEL.out.trans (hq2.mono HBEL.out.size))
    clear hq2 c1 c2 q1 q2 q3 q4
    go_wp2_with fail
    go_loopw [12] (fun z12 wq=>∃t2:Nat,t2≤504∧f<t2∧z12=.int .i64 (t2:Nat)∧(∀j,t2≤j→old[j]? = bs[j]?)∧Below y.heap.size y wq) (fun z12 _=>(intOf z12).toNat)
    case atStart=>exact⟨504,Nat.le_refl _,hfn,rfl,fun j hj=>(by rw[List.getElem?_eq_none (by rw[HWL.out];exact hj),List.getElem?_eq_none (by rw[HBL.out];exact hj)]),HQ2.out⟩
    case round=>
     obtain⟨t2,ht2,hft2,rfl,heq2,hbel2⟩:=hrel
     have HEQ2:=Lib.hid heq2
     have HBEL2:=Lib.hid hbel2
     clear heq2 hbel2
     obtain⟨u,rfl⟩:∃u,t2=u+1:=⟨t2-1,by omega⟩
     have hu:u<504:=by omega
     obtain⟨a,ha⟩:∃a,old[u]? = some a:=⟨_,List.getElem?_eq_getElem (by rw[HWL.out];exact hu)⟩
     obtain⟨d,hd⟩:∃a,bs[u]? = some a:=⟨_,List.getElem?_eq_getElem (by rw[HBL.out];exact hu)⟩
     have c1:wr.cell? ⟨g,u,none⟩=some (.int .u8 (a.toNat:Int)):=HC1.out wr HBEL2.out u a ha
     have c2:wr.cell? ⟨bb,o+u,none⟩=some (.int .u8 (d.toNat:Int)):=HC2.out wr HBEL2.out u d hd
     have hfb2:decide (((u+1:Nat):Int)>(f:Int))=true:=by simp;omega
     have hfb3:decide ((f:Int)<((u+1:Nat):Int))=true:=by simp;omega
     have hfb4:decide ((f:Int)<(u:Int)+1)=true:=by simp;omega
     have hu1:((u+1:Nat):Int)-1=(u:Int):=by omega
     have hu2:((u:Int)+1)-1=(u:Int):=by omega
     by_cases had:a=d
     ·subst had
      have HED:=Lib.hid (ha.trans hd.symm)
      have hfu:f<u:=by
       rcases Nat.lt_or_ge f u with h|h
       ·exact h
       ·obtain rfl:f=u:=by omega
        exact absurd HED.out HND.out
      clear ha hd
      go_wp2_with fail
      go_quiet (fail)
      have hq2:=below_dn (Below.refl wr.heap.size wr) nq
      have HQ3:=Lib.hid (HBEL2.out.trans (hq2.mono HBEL2.out.size))
      clear hq2 c1 c2
      go_wp2_with fail
      go_roundw
      ·exact⟨u,by omega,hfu,by go_num,fun j hj=>(by rcases Nat.lt_or_eq_of_le hj with h|rfl<;>first|exact HEQ2.out _ h|exact HED.out),HQ3.out⟩
      ·simp[intOf]
     ·obtain⟨q1,q2,q3,q4⟩:=byte_two had
      clear ha hd had
      go_wp2_with fail
      go_quiet (fail)
      have hq2:=below_dn (Below.refl wr.heap.size wr) nq
      have HQ3:=Lib.hid (HBEL2.out.trans (hq2.mono HBEL2.out.size))
      clear hq2 c1 c2 q1 q2 q3 q4
      have hne1:¬f=u+1:=by omega
      have hne2:decide ((f:Int)=((u+1:Nat):Int))=false:=by simp;omega
      have hne3:decide ((f:Int)=(u:Int)+1)=false:=by simp;omega
      have hcf:¬cb=f:=by omega
      have HWW:=Lib.hid (HWR.out _ _ _ (HST.out.below HQ3.out) HLK.out (HVY.out.below HQ3.out (Nat.le_refl _)) HNB.out (Nat.lt_of_lt_of_le hby HQ3.out.size) f (u+1) hft2 ht2)
      go_wp2_with fail
      refine HWW.out.mono ?_
      rintro e y2 ⟨σ2,S2,rfl,h1,h2,h3,h4⟩
      have H1:=Lib.hid h1
      have H2:=Lib.hid h2
      have H3:=Lib.hid h3
      have H4:=Lib.hid h4
      clear h1 h2 h3 h4 HWW
      go_wp2_with fail
      go_ret
      have hov:=HOV.out f (u+1) ht2 (by omega) (fun j hj=>by rw[HOLD.out];exact HEQ.out j hj) (fun j hj=>by rw[HOLD.out];exact HEQ2.out j hj)
      have hs:=H1.out
      rw[hov]at hs
      refine⟨σ2,S2,rfl,hs.le (by omega) (by omega) HB5.out,HFT.out.trans (Foot.step_below HQ3.out H2.out),.inr ⟨f,(bs.drop f).take (u+1-f),?_⟩⟩
      have hwo:Wrote σ' σ2 i x W p f ((bs.drop f).take (u+1-f)):=by
       have hln:((bs.drop f).take (u+1-f)).length=u+1-f:=by rw[List.length_take,List.length_drop,HBL.out];omega
       unfold Wrote
       rw[hln,HTT.out]
       exact⟨H3.out,H4.out⟩
      exact hwo.like HLK.out
  ·obtain rfl:f=504:=by omega
   have hx1:((504:Nat):Int)=504:=rfl
   go_wp2_with fail
   go_quiet (fail)
   have hq2:=below_dn (Below.refl wr.heap.size wr) nq
   have HQ2:=Lib.hid (HBEL.out.trans (hq2.mono HBEL.out.size))
   clear hq2
   generalize wr.drewN nq=wz at *
   go_wp2_with fail
   refine wp_loop_rounds 1 ?_
   rw[rounds_succ]
   go_wp2_with fail
   go_quiet (fail)
   have hq2:=below_dn (Below.refl wz.heap.size wz) nq
   have HQ3:=Lib.hid (HQ2.out.trans (hq2.mono HQ2.out.size))
   clear hq2
   go_wp2_with fail
   go_ret
   have hov:W p=bs:=by
    rw[HOLD.out]
    apply List.ext_getElem?
    intro j
    by_cases hj:j<504
    ·exact HEQ.out j hj
    ·rw[List.getElem?_eq_none (by rw[HWL.out];omega),List.getElem?_eq_none (by rw[HBL.out];omega)]
   have hs:=HST.out.below HQ3.out
   rw[←hov,updV_self]
   exact⟨σ',S',rfl,hs.le (by omega) (by omega) HB5.out,HFT.out.trans (Foot.below (grow_below HQ3.out)),.inl HLK.out⟩
end
end
end Go.Proofs.YtpajagkhmodbnaaGreat

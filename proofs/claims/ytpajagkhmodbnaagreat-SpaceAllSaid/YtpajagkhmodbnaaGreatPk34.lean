/- Pk: texts of the store seat laid together by program: ScLaw ScAwake. Conditions: each theorem names its own. -/
import Derived.Test.YtpajagkhmodbnaaGreatPk33
import Derived.Test.YtpajagkhmodbnaaGreatPk29
import Derived.OwnWalk
namespace Go.Proofs.YtpajagkhmodbnaaGreat
set_option linter.unusedSimpArgs false
set_option linter.unusedVariables false
section
open Go.RowKit
def Solo(σ:St)(t:Nat):Prop:=∃x,σ.opn=[x]∧x.id=t
theorem Solo.like{σ σ':St}{t:Nat}(h:Solo σ t)(hl:Like σ σ'):Solo σ' t:=by
 obtain⟨x,h1,h2⟩:=h
 exact⟨x,hl.opn.trans h1,h2⟩
theorem Wrote.solo{σ σ':St}{x:Tx}{W:Nat→List UInt8}{p off:Nat}{bs:List UInt8}(h:Wrote σ σ' 0 x W p off bs)(ho:σ.opn=[x]):Solo σ' x.id:=by
 rcases h.2 with ⟨_,h1,_⟩|⟨_,h1,_⟩
 ·exact⟨x,h1.trans ho,rfl⟩
 ·rw[ho]at h1
  exact⟨_,h1,rfl⟩
theorem busy_solo{σ:St}{x:Tx}(ho:σ.opn=[x])(p off n:Nat):σ.busy (x.id:Int) p off n=false:=by
 unfold St.busy
 rw[ho]
 simp[hits]
def tb(v:Bool):UInt8:=if v then 1 else 0
structure RelT(T:List Bool)(l:List UInt8):Prop where
 len:l.length=504
 le:T.length≤504
 at_:∀j,j<T.length→l[j]? = (T[j]?).map tb
theorem RelT.take{T:List Bool}{l:List UInt8}(h:RelT T l):l.take T.length=T.map tb:=by
 apply List.ext_getElem?
 intro j
 rw[List.getElem?_take,List.getElem?_map]
 split
 ·next hj=>exact h.at_ j hj
 ·next hj=>rw[List.getElem?_eq_none (by omega)];rfl
theorem tb_ne(v:Bool):decide (tb v≠0)=v:=by cases v<;>rfl
theorem RelT.cnt{T:List Bool}{l:List UInt8}(h:RelT T l):cntB (l.take T.length)=T.countP id:=by
 rw[h.take]
 unfold cntB
 rw[List.countP_map]
 congr 1
 funext v
 exact tb_ne v
theorem RelT.set{T:List Bool}{l:List UInt8}(h:RelT T l)(q:Nat)(v:Bool):RelT (T.set q v) (overB l q [tb v]):=by
 have hl:=h.len
 by_cases hq:q<504
 ·refine⟨by rw[overB_length _ _ _ (by omega)];exact hl,by rw[List.length_set];exact h.le,fun j hj=>?_⟩
  rw[List.length_set]at hj
  rw[overB_get _ _ _ (by rw[hl];show q+1≤504;omega),List.getElem?_set]
  show(if j<q then _ else if j<q+1 then _ else _)=_
  by_cases e:q=j
  ·subst e
   rw[if_neg (by omega),if_pos (by omega),if_pos rfl,if_pos hj,Nat.sub_self];rfl
  ·rw[if_neg e]
   split
   ·exact h.at_ j hj
   ·rw[if_neg (by omega)];exact h.at_ j hj
 ·have hT:=h.le
  rw[List.set_eq_of_length_le (by omega)]
  unfold overB
  rw[List.take_of_length_le (by omega),List.drop_of_length_le (by omega),List.append_nil,show l.length-q=0 by omega,List.take_zero,List.append_nil]
  exact h
theorem RelT.takenI{T:List Bool}{l:List UInt8}(h:RelT T l)(p:Int):takenI l T.length p=if p<0∨(T.length:Int)≤p then(false,1)else(T.getD p.toNat false,0):=by
 unfold Go.Proofs.YtpajagkhmodbnaaGreat.takenI
 split
 ·rfl
 ·next hn=>
  have h1:=h.at_ p.toNat (by omega)
  rw[List.getD_eq_getElem?_getD,h1,List.getD_eq_getElem?_getD,List.getElem?_eq_getElem (by omega:p.toNat<T.length)]
  simp only[Option.map_some,Option.getD_some]
  rw[tb_ne]
section
variable{W0 w w' w2:World}{A:Adr}{c:Cf}{σ:St}{S X:Nat→Prop}{k b:Nat}{W:Nat→List UInt8}
def TakeS(W0 w:World)(A:Adr)(c:Cf)(k b:Nat)(t:Nat)(W:Nat→List UInt8)(S:Nat→Prop)(T:List Bool)(e:Ending)(w':World):Prop:=
 ∃σ' S',Foot S S' w w'∧Solo σ' t∧((∃q,q<T.length∧(∀j,j<q→T[j]? = some true)∧T[q]? = some false∧e=.returned (.tuple #[.int .i64 (q:Nat),.int .i64 0])∧Sto W0 A c (k+4) (b+195) σ' (updV W 0 (overB (W 0) q [tb true])) S' w')∨
  ((∀j,j<T.length→T[j]? = some true)∧e=.returned (.tuple #[.int .i64 0,.int .i64 60])∧Sto W0 A c (k+4) (b+195) σ' W S' w'))
theorem take_solo(h:Sto W0 A c k b σ W S w)(hk:k≤800000){t:Nat}(hs:Solo σ t){T:List Bool}(hT:RelT T (W 0))(hpg:c.pg=T.length)(hp1:1≤c.pg)(hb:b+195+2048≤(c.n-1)*118):
  Calls Tryz.prog 23 #[.pointer (some ⟨A.sb,0,none⟩),.int .i64 (t:Nat)] w (TakeS W0 w A c k b t W S T):=by
 obtain⟨x,ho,rfl⟩:=hs
 have hp2:=hT.le
 have hfr:∀j,j<T.length→freeP σ (W 0) x.id j= !(T.getD j false):=fun j hj=>by
  unfold freeP
  rw[busy_solo ho,hT.at_ j hj,List.getElem?_eq_getElem hj,List.getD_eq_getElem?_getD,List.getElem?_eq_getElem hj]
  cases T[j]<;>rfl
 have hget:∀j,j<T.length→T[j]? = some (T.getD j false):=fun j hj=>by rw[List.getD_eq_getElem?_getD,List.getElem?_eq_getElem hj];rfl
 refine(take_st h hk (i:=0) (x:=x) (by rw[ho];rfl) hp1 (by omega) hb).mono ?_
 rintro e w' ⟨σ',S',h1,h2⟩
 rcases h2 with ⟨q,q1,q2,rfl,q3,q4⟩|⟨q1,rfl,q2,q3⟩
 ·refine⟨σ',S',h1,q4.solo ho,.inl ⟨q,by omega,fun j hj=>?_,?_,rfl,q3⟩⟩
  ·have h5:=(List.find?_range_eq_some.1 q2).2.2 j hj
   rw[hfr j (by omega)]at h5
   rw[hget j (by omega)]
   simpa using h5
  ·have h5:=List.find?_some q2
   rw[hfr q (by omega)]at h5
   rw[hget q (by omega)]
   simpa using h5
 ·refine⟨σ',S',h1,Solo.like (σ:=σ) ⟨x,ho,rfl⟩ q3,.inr ⟨fun j hj=>?_,rfl,q2⟩⟩
  have h5:=List.find?_eq_none.1 q1 j (by rw[List.mem_range];omega)
  rw[hfr j hj]at h5
  rw[hget j hj]
  simpa using h5
theorem give_solo(h:Sto W0 A c k b σ W S w)(hk:k≤800000){t:Nat}(hs:Solo σ t){T:List Bool}(hT:RelT T (W 0))(hpg:c.pg=T.length)(hp1:1≤c.pg)(hb:b+195+2048≤(c.n-1)*118)(p:Int)(hi1 : -9223372036854775808≤p)(hi2:p≤9223372036854775807):
  Calls Tryz.prog 24 #[.pointer (some ⟨A.sb,0,none⟩),.int .i64 (t:Nat),.int .i64 p] w fun e w'=>∃σ' S',Foot S S' w w'∧Solo σ' t∧((giveB (W 0) c.pg p=true∧e=.returned (.int .i64 0)∧Sto W0 A c (k+4) (b+195) σ' (updV W 0 (overB (W 0) p.toNat [tb false])) S' w')∨
   (giveB (W 0) c.pg p=false∧e=.returned (.int .i64 1)∧Sto W0 A c (k+4) (b+195) σ' W S' w')):=by
 obtain⟨x,ho,rfl⟩:=hs
 have hp2:=hT.le
 cases hg:giveB (W 0) c.pg p with
 | false=>
  refine(give_no h (by omega) hp1 (by omega) x.id p hi1 hi2 hg).mono ?_
  rintro e w' ⟨σ',S',rfl,h1,h2,h3⟩
  exact⟨σ',S',h2,Solo.like (σ:=σ) ⟨x,ho,rfl⟩ h3,.inr ⟨rfl,rfl,h1.le (by omega) (by omega) hb⟩⟩
 | true=>
  have hp:1≤p:=by unfold giveB at hg;rw[Bool.and_eq_true,decide_eq_true_eq]at hg;exact hg.2
  obtain⟨q,rfl⟩:∃q:Nat,p=(q:Int):=⟨p.toNat,by omega⟩
  refine(give_yes h hk (i:=0) (x:=x) (by rw[ho];rfl) hp1 (by omega) q hg (busy_solo ho _ _ _) hb).mono ?_
  rintro e w' ⟨σ',S',rfl,h1,h2,h3⟩
  exact⟨σ',S',h2,h3.solo ho,.inl ⟨rfl,rfl,h1⟩⟩
theorem RelT.giveB{T:List Bool}{l:List UInt8}(h:RelT T l)(p:Int):giveB l T.length p=(decide (1≤p∧p<(T.length:Int))&&T.getD p.toNat false):=by
 unfold Go.Proofs.YtpajagkhmodbnaaGreat.giveB
 rw[h.takenI]
 by_cases hc:p<0∨(T.length:Int)≤p
 ·rw[if_pos hc,decide_eq_false (show ¬(1≤p∧p<(T.length:Int)) by omega)];rfl
 ·rw[if_neg hc]
  by_cases h1:1≤p
  ·rw[decide_eq_true h1,decide_eq_true (show 1≤p∧p<(T.length:Int) by omega),Bool.and_true,Bool.true_and]
  ·rw[decide_eq_false h1,decide_eq_false (show ¬(1≤p∧p<(T.length:Int)) by omega),Bool.and_false,Bool.false_and]
end
theorem countP_set{T:List Bool}{q:Nat}(h:q<T.length)(v:Bool):(T.set q v).countP id+(if T.getD q false then 1 else 0)=T.countP id+(if v then 1 else 0):=by
 induction T generalizing q with
 | nil=>cases h
 | cons a r ih=>
  cases q with
  | zero=>cases a<;>cases v<;>simp
  | succ q=>
   have:=ih (q:=q) (by simpa using h)
   simp only[List.set_cons_succ,List.countP_cons,List.getD_cons_succ]at this⊢
   omega
theorem countP_le'(T:List Bool):T.countP id≤T.length:=List.countP_le_length
def newT(n:Nat):List Bool:=true::List.replicate (n-1) false
theorem newT_len{n:Nat}(h:1≤n):(newT n).length=n:=by unfold newT;rw[List.length_cons,List.length_replicate];omega
theorem newT_rel{n:Nat}(h:1≤n)(h2:n≤504):RelT (newT n) (overB (nz 504) 0 [1]):=by
 have h0:RelT (List.replicate n false) (nz 504):=⟨List.length_replicate,by rw[List.length_replicate];exact h2,fun j hj=>by
  rw[List.length_replicate]at hj
  unfold nz
  rw[List.getElem?_replicate,if_pos (by omega),List.getElem?_replicate,if_pos hj];rfl⟩
 have h1:=h0.set 0 true
 have e:(List.replicate n false).set 0 true=newT n:=by
  obtain⟨m,rfl⟩:∃m,n=m+1:=⟨n-1,by omega⟩
  rfl
 rw[e]at h1
 exact h1
def fmtW:Nat→List UInt8:=updV (fun _=>nz 504) 0 (overB (nz 504) 0 [1])
set_option maxRecDepth 100000 in
set_option maxHeartbeats 3200000 in
theorem on_any(w:World)(n nf:Nat)(h1:128≤n)(h2:n≤8192)(h3:1≤nf)(h4:nf≤64)(hp1:1≤(Cf.of n).pg)(hp2:(Cf.of n).pg≤504):
  Calls Tryz.prog 50 #[.int .i64 (n:Nat),.int .i64 (nf:Nat)] w fun e w'=>∃(A:Adr)(σ:St)(S:Nat→Prop),e=.returned (.tuple #[.pointer (some ⟨A.d,0,none⟩),.pointer (some ⟨A.sb,0,none⟩),.int .i64 1])∧A.nf=nf∧
   Sto w A (Cf.of n) 4 483 σ fmtW S w'∧Solo σ 1∧σ.next=2∧(∀k,S k→w.heap.size≤k)∧Below w.heap.size w w':=by
 have hcn:(Cf.of n).n=n / 4:=by rw[lay128 n h1]
 have HO:=Lib.hid (lopen_any w w (Below.refl _ _) n nf h1 h2 h3 h4)
 have hf0:=new_fine n nf h1
 have hcok:=Cf.of_ok n h1
 go_enter Tryz.func50,Tryz.ntmps50
 go_wp2_with fail
 refine HO.out.mono ?_
 rintro e y1 ⟨A,S1,rfl,hnf,hsv,hsd,hS,hbl⟩
 subst hnf
 have hst:Sto w A (Cf.of n) 0 0 (St.new n A.nf) (fun _=>nz 504) S1 y1:=⟨hsv,hf0,hsd,hcok⟩
 have HB:=Lib.hid (begin_st hst (by decide) (by rw[hcn];omega))
 have HS:=Lib.hid hS
 have HBL:=Lib.hid hbl
 clear hsv hsd hS hbl hst HO hf0
 go_wp2_with fail
 refine HB.out.mono ?_
 rintro e y2 ⟨σ2,S2,rfl,hst,hft,ho,hn,_,_⟩
 have hnx:(St.new n A.nf).next=1:=rfl
 have ho2:σ2.opn=[⟨1,1,1,[]⟩]:=ho
 have HF:=Lib.hid (format_st hst (by decide) (i:=0) (x:=⟨1,1,1,[]⟩) (by rw[ho2];rfl) hp1 hp2 (busy_solo (x:=⟨1,1,1,[]⟩) ho2 0 0 1) (by rw[hcn];omega))
 have HF2:=Lib.hid hft
 have HO2:=Lib.hid ho2
 have HN2:Hid (σ2.next=2):=Lib.hid hn
 rw[hnx]
 clear hst hft ho ho2 hn HB hnx
 go_wp2_with fail
 refine HF.out.mono ?_
 rintro e y3 ⟨σ3,S3,rfl,hst,hft,hwr⟩
 have HST:=Lib.hid hst
 have HF3:=Lib.hid hft
 have HWR:=Lib.hid hwr
 clear hst hft hwr HF
 go_wp2_with fail
 go_ret3
 have hbel:=HBL.out
 have ff:=HF2.out.trans HF3.out
 refine⟨A,σ3,S3,rfl,rfl,HST.out,HWR.out.solo HO2.out,HWR.out.1.trans HN2.out,fun q hq=>?_,hbel.trans (ff.grow.below (fun q hq=>⟨by have:=hbel.size;omega,fun hx=>by have:=HS.out q hx;omega⟩))⟩
 rcases ff.new q hq with h|h
 ·exact HS.out q h
 ·have:=hbel.size;omega
set_option maxRecDepth 100000 in
set_option maxHeartbeats 3200000 in
theorem formatted_any(w:World)(n nf:Nat)(h1:128≤n)(h2:n≤8192)(h3:1≤nf)(h4:nf≤64)(hp1:1≤(Cf.of n).pg)(hp2:(Cf.of n).pg≤504):
  Calls Tryz.prog 21 #[.int .i64 (n:Nat),.int .i64 (nf:Nat)] w fun e w'=>∃(A:Adr)(σ:St)(S:Nat→Prop),e=.returned (.tuple #[.pointer (some ⟨A.sb,0,none⟩),.int .i64 1])∧A.nf=nf∧
   Sto w A (Cf.of n) 4 483 σ fmtW S w'∧Solo σ 1∧σ.next=2∧(∀k,S k→w.heap.size≤k)∧Below w.heap.size w w':=by
 have HO:=Lib.hid (on_any w n nf h1 h2 h3 h4 hp1 hp2)
 go_enter Tryz.func21,Tryz.ntmps21
 go_wp2_with fail
 refine HO.out.mono ?_
 rintro e y1 ⟨A,σ,S,rfl,hnf,hst,hso,hnx,hS,hbl⟩
 have HNF:=Lib.hid hnf
 have HST:=Lib.hid hst
 have HSO:=Lib.hid hso
 have HNX:=Lib.hid hnx
 have HS:=Lib.hid hS
 have HBL:=Lib.hid hbl
 clear hnf hst hso hnx hS hbl HO
 go_wp2_with fail
 go_ret2
 exact⟨A,σ,S,rfl,HNF.out,HST.out,HSO.out,HNX.out,HS.out,HBL.out⟩
end
section
open Go.RowKit
theorem cf512:Cf.of 512=⟨128,130,94⟩:=by kernel_rfl
theorem fmtW0:fmtW 0=overB (nz 504) 0 [1]:=by unfold fmtW updV;rw[if_pos rfl]
theorem first_free{T:List Bool}{q r:Nat}(h1:∀j,j<q→T[j]? = some true)(h2:T[q]? = some false)(h3:∀j,j<r→T[j]? = some true)(h4:T[r]? = some false):q=r:=by
 rcases Nat.lt_trichotomy q r with h|h|h
 ·rw[h3 q h]at h2;cases h2
 ·exact h
 ·rw[h1 r h]at h4;cases h4
theorem updV_at(V:Nat→List UInt8)(q:Nat)(b:List UInt8):updV V q b q=b:=by unfold updV;rw[if_pos rfl]
section
variable{W0 w w' w2:World}{A:Adr}{c:Cf}{σ:St}{S X:Nat→Prop}{k b:Nat}{W:Nat→List UInt8}
structure At8(W0:World)(A:Adr)(k b:Nat)(σ:St)(S:Nat→Prop)(T:List Bool)(n:Nat)(w:World)(W:Nat→List UInt8):Prop where
 st:Sto W0 A (Cf.of n) k b σ W S w
 so:Solo σ 1
 rel:RelT T (W 0)
 pg:(Cf.of n).pg=T.length
 p1:1≤(Cf.of n).pg
theorem take8{n:Nat}{T:List Bool}(h:At8 W0 A k b σ S T n w W)(hk:k≤800000)(hb:b+195+2048≤((Cf.of n).n-1)*118)(r:Nat)(h3:∀j,j<r→T[j]? = some true)(h4:T[r]? = some false):
  Calls Tryz.prog 23 #[.pointer (some ⟨A.sb,0,none⟩),.int .i64 1] w fun e w'=>∃σ' S' W',e=.returned (.tuple #[.int .i64 (r:Nat),.int .i64 0])∧At8 W0 A (k+4) (b+195) σ' S' (T.set r true) n w' W'∧Foot S S' w w':=by
 refine(take_solo h.st hk h.so h.rel h.pg h.p1 hb).mono ?_
 rintro e w' ⟨σ',S',h1,h2,h5⟩
 rcases h5 with ⟨q,q1,q2,q3,rfl,q4⟩|⟨q1,_,_⟩
 ·obtain rfl:=first_free q2 q3 h3 h4
  exact⟨σ',S',_,rfl,⟨q4,h2,by rw[updV_at];exact h.rel.set q true,by rw[List.length_set];exact h.pg,h.p1⟩,h1⟩
 ·have hl:=(List.getElem?_eq_some_iff.1 h4).1
  rw[q1 r hl]at h4;cases h4
theorem take8_full{n:Nat}{T:List Bool}(h:At8 W0 A k b σ S T n w W)(hk:k≤800000)(hb:b+195+2048≤((Cf.of n).n-1)*118)(h3:∀j,j<T.length→T[j]? = some true):
  Calls Tryz.prog 23 #[.pointer (some ⟨A.sb,0,none⟩),.int .i64 1] w fun e w'=>∃σ' S',e=.returned (.tuple #[.int .i64 0,.int .i64 60])∧At8 W0 A (k+4) (b+195) σ' S' T n w' W∧Foot S S' w w':=by
 refine(take_solo h.st hk h.so h.rel h.pg h.p1 hb).mono ?_
 rintro e w' ⟨σ',S',h1,h2,h5⟩
 rcases h5 with ⟨q,q1,q2,q3,rfl,q4⟩|⟨q1,rfl,q4⟩
 ·rw[h3 q q1]at q3;cases q3
 ·exact⟨σ',S',rfl,⟨q4,h2,h.rel,h.pg,h.p1⟩,h1⟩
theorem count8{n:Nat}{T:List Bool}(h:At8 W0 A k b σ S T n w W)(hk:k≤800000):
  Calls Tryz.prog 26 #[.pointer (some ⟨A.sb,0,none⟩)] w fun e w'=>∃σ' S',e=.returned (.tuple #[.int .i64 (T.countP id:Nat),.int .i64 0])∧At8 W0 A (k+4) b σ' S' T n w' W∧Foot S S' w w':=by
 have hc:=h.rel.cnt
 rw[←h.pg]at hc
 refine(count_st h.st (by omega) h.p1 (by rw[h.pg];exact h.rel.le)).mono ?_
 rintro e w' ⟨σ',S',rfl,h1,h2,h3⟩
 rw[hc]
 exact⟨σ',S',rfl,⟨h1.more _ (by omega),h.so.like h3,h.rel,h.pg,h.p1⟩,h2⟩
theorem give8{n:Nat}{T:List Bool}(h:At8 W0 A k b σ S T n w W)(hk:k≤800000)(hb:b+195+2048≤((Cf.of n).n-1)*118)(p:Int)(hi1 : -9223372036854775808≤p)(hi2:p≤9223372036854775807):
  Calls Tryz.prog 24 #[.pointer (some ⟨A.sb,0,none⟩),.int .i64 1,.int .i64 p] w fun e w'=>∃σ' S' W',e=.returned (.int .i64 (if (decide (1≤p∧p<(T.length:Int))&&T.getD p.toNat false)=true then 0 else 1))∧
   At8 W0 A (k+4) (b+195) σ' S' (if (decide (1≤p∧p<(T.length:Int))&&T.getD p.toNat false)=true then T.set p.toNat false else T) n w' W'∧Foot S S' w w':=by
 have hg:=h.rel.giveB p
 rw[←h.pg]at hg
 refine(give_solo h.st hk h.so h.rel h.pg h.p1 hb p hi1 hi2).mono ?_
 rintro e w' ⟨σ',S',h1,h2,h5⟩
 rcases h5 with ⟨q1,rfl,q4⟩|⟨q1,rfl,q4⟩
 ·rw[q1]at hg
  rw[←h.pg,←hg,if_pos rfl,if_pos rfl]
  exact⟨σ',S',_,rfl,⟨q4,h2,by rw[updV_at];exact h.rel.set _ false,by rw[List.length_set];exact h.pg,h.p1⟩,h1⟩
 ·rw[q1]at hg
  rw[←h.pg,←hg]
  exact⟨σ',S',W,rfl,⟨q4,h2,h.rel,h.pg,h.p1⟩,h1⟩
theorem taken8{n:Nat}{T:List Bool}(h:At8 W0 A k b σ S T n w W)(hk:k≤800000)(p:Int)(hi1 : -9223372036854775808≤p)(hi2:p≤9223372036854775807):
  Calls Tryz.prog 25 #[.pointer (some ⟨A.sb,0,none⟩),.int .i64 p] w fun e w'=>∃σ' S',e=.returned (.tuple #[.bool (if p<0∨(T.length:Int)≤p then(false,1)else(T.getD p.toNat false,0):Bool×Int).1,.int .i64 (if p<0∨(T.length:Int)≤p then(false,1)else(T.getD p.toNat false,0):Bool×Int).2])∧At8 W0 A (k+4) b σ' S' T n w' W∧Foot S S' w w':=by
 have hc:=h.rel.takenI p
 rw[←h.pg]at hc
 refine(taken_st h.st (by omega) h.p1 (by rw[h.pg];exact h.rel.le) p hi1 hi2).mono ?_
 rintro e w' ⟨σ',S',rfl,h1,h2,h3⟩
 rw[hc,←h.pg]
 exact⟨σ',S',rfl,⟨h1.more _ (by omega),h.so.like h3,h.rel,h.pg,h.p1⟩,h2⟩
end
theorem formatted8(w:World)(n nf:Nat)(h1:128≤n)(h2:n≤8192)(h3:1≤nf)(h4:nf≤64)(hp1:1≤(Cf.of n).pg)(hp2:(Cf.of n).pg≤504):
  Calls Tryz.prog 21 #[.int .i64 (n:Nat),.int .i64 (nf:Nat)] w fun e w'=>∃(A:Adr)(σ:St)(S:Nat→Prop),e=.returned (.tuple #[.pointer (some ⟨A.sb,0,none⟩),.int .i64 1])∧
   At8 w A 4 483 σ S (newT (Cf.of n).pg) n w' fmtW∧(∀k,S k→w.heap.size≤k)∧Below w.heap.size w w':=by
 refine(formatted_any w n nf h1 h2 h3 h4 hp1 hp2).mono ?_
 rintro e w' ⟨A,σ,S,rfl,_,hst,hso,_,hS,hbl⟩
 exact⟨A,σ,S,rfl,⟨hst,hso,by rw[fmtW0];exact newT_rel hp1 hp2,(newT_len hp1).symm,hp1⟩,hS,hbl⟩
set_option maxRecDepth 100000 in
set_option maxHeartbeats 6400000 in
theorem awake8_any(w:World):Calls Tryz.prog 20 #[] w fun e w'=>e=.returned (.bool true)∧Below w.heap.size w w':=by
 have hpg:(Cf.of 512).pg=94:=by rw[cf512]
 have hcn:((Cf.of 512).n-1)*118=14986:=by rw[cf512];rfl
 have HO:=Lib.hid (formatted8 w 512 16 (by decide) (by decide) (by decide) (by decide) (by rw[hpg];decide) (by rw[hpg];decide))
 rw[hpg]at HO
 go_enter Tryz.func20,Tryz.ntmps20
 go_wp2_with fail
 refine HO.out.mono ?_
 rintro e y1 ⟨A,σ1,S1,rfl,h1,_,_⟩
 have H1:=Lib.hid (take8 h1 (by decide) (by rw[hcn];decide) 1 (fun j hj=>by obtain rfl:j=0:=(by omega);rfl) rfl)
 have B0:=Lib.hid h1.st.bel
 clear h1 HO
 go_wp2_with fail
 refine H1.out.mono ?_
 rintro e y2 ⟨σ2,S2,W2,rfl,h2,_⟩
 have H2:=Lib.hid (take8 h2 (by decide) (by rw[hcn];decide) 2 (fun j hj=>by rcases(by omega:j=0∨j=1)with rfl|rfl<;>rfl) rfl)
 clear h2 H1
 go_wp2_with fail
 refine H2.out.mono ?_
 rintro e y3 ⟨σ3,S3,W3,rfl,h3,_⟩
 have H3:=Lib.hid (count8 h3 (by decide))
 have e3:(((newT 94).set 1 true).set 2 true).countP id=3:=by decide
 rw[e3]at H3
 clear h3 H2 e3
 go_wp2_with fail
 refine H3.out.mono ?_
 rintro e y4 ⟨σ4,S4,rfl,h4,_⟩
 have H4:Hid _:=Lib.hid (give8 h4 (by decide) (by rw[hcn];decide) 1 (by decide) (by decide))
 clear h4 H3
 go_wp2_with fail
 refine H4.out.mono ?_
 rintro e y5 ⟨σ5,S5,W5,rfl,h5,_⟩
 have e5:(decide ((1:Int)≤1∧(1:Int)<((((newT 94).set 1 true).set 2 true).length:Int))&&(((newT 94).set 1 true).set 2 true).getD (1:Int).toNat false)=true:=by decide
 rw[if_pos e5]at h5
 rw[if_pos e5]
 have H5:Hid _:=Lib.hid (give8 h5 (by decide) (by rw[hcn];decide) 1 (by decide) (by decide))
 clear h5 H4 e5
 go_wp2_with fail
 refine H5.out.mono ?_
 rintro e y6 ⟨σ6,S6,W6,rfl,h6,_⟩
 have e6:¬(decide ((1:Int)≤1∧(1:Int)<(((((newT 94).set 1 true).set 2 true).set (1:Int).toNat false).length:Int))&&((((newT 94).set 1 true).set 2 true).set (1:Int).toNat false).getD (1:Int).toNat false)=true:=by decide
 rw[if_neg e6]at h6
 rw[if_neg e6]
 have H6:Hid _:=Lib.hid (give8 h6 (by decide) (by rw[hcn];decide) 0 (by decide) (by decide))
 clear h6 H5 e6
 go_wp2_with fail
 refine H6.out.mono ?_
 rintro e y7 ⟨σ7,S7,W7,rfl,h7,_⟩
 have e7:¬(decide ((1:Int)≤0∧(0:Int)<(((((newT 94).set 1 true).set 2 true).set (1:Int).toNat false).length:Int))&&((((newT 94).set 1 true).set 2 true).set (1:Int).toNat false).getD (0:Int).toNat false)=true:=by decide
 rw[if_neg e7]
 have B7:=Lib.hid h7.st.bel
 clear h7 H6 e7
 go_wp2_with fail
 refine(maps_any _ 505 (by decide) (by decide)).mono ?_
 rintro e y8 ⟨rfl,rfl⟩
 rw[show mapsI 505=2 from rfl]
 go_wp2_with fail
 go_ret
 exact⟨rfl,B7.out⟩
set_option maxRecDepth 100000 in
set_option maxHeartbeats 3200000 in
theorem maps_law(w:World)(n:Int)(h1 : -9223372036854775808≤n)(h2:n≤9223372036854775807):
  Calls Tryz.prog 4 #[.int .i64 n] w fun e w'=>e=.returned (.bool true)∧Below w.heap.size w w':=by
 have HM:=Lib.hid (maps_any w n h1 h2)
 have HW:=Lib.hid (awake8_any w)
 by_cases h:1≤n
 ·have hE:=show mapsI n=(n-1) / 504+1 by unfold mapsI;rw[if_neg (by omega)]
  rw[hE]at HM
  have hb:decide (n≥1)=true:=by simpa using h
  have hb2:decide (1≤n)=true:=by simpa using h
  clear hE
  go_enter Tryz.func4,Tryz.ntmps4
  go_wp2_with fail
  refine HM.out.mono ?_
  rintro e y ⟨rfl,rfl⟩
  go_wp2_with fail
  refine HW.out.mono ?_
  rintro e y2 ⟨rfl,hbl⟩
  have HBL:=Lib.hid hbl
  clear hbl
  go_wp2_with fail
  go_ret
  exact⟨rfl,HBL.out⟩
 ·have hE:=show mapsI n=0 by unfold mapsI;rw[if_pos (by omega)]
  rw[hE]at HM
  have hb:decide (n≥1)=false:=by simpa using h
  have hb2:decide (1≤n)=false:=by simpa using h
  clear hE
  go_enter Tryz.func4,Tryz.ntmps4
  go_wp2_with fail
  refine HM.out.mono ?_
  rintro e y ⟨rfl,rfl⟩
  go_wp2_with fail
  refine HW.out.mono ?_
  rintro e y2 ⟨rfl,hbl⟩
  have HBL:=Lib.hid hbl
  clear hbl
  go_wp2_with fail
  go_ret
  exact⟨rfl,HBL.out⟩
end
end Go.Proofs.YtpajagkhmodbnaaGreat

/- Pk: texts of the store seat laid together by program: SvEnd SvUndo SvRoll SvCommit SvRefuse SvCat SvTrim SvMark. Conditions: each theorem names its own. -/
import Derived.Test.YtpajagkhmodbnaaGreatPk23
import Derived.LaidEqlPtr
namespace Go.Proofs.YtpajagkhmodbnaaGreat
set_option linter.unusedSimpArgs false
set_option linter.unusedVariables false
section
open Go.RowKit
theorem map_erase{α β:Type}(f:α→β):∀(l:List α)(i:Nat),(l.eraseIdx i).map f=(l.map f).eraseIdx i
 | [],i=>by simp
 | a::r,0=>by simp
 | a::r,i+1=>by simp[map_erase f r i]
theorem filter_erase:∀(L:List Nat)(i t:Nat),L[i]? = some t→L.Nodup→L.filter (fun x=>!(x==t))=L.eraseIdx i
 | [],i,t,h,_=>by simp at h
 | a::r,0,t,h,hn=>by
  obtain rfl:a=t:=by simpa using h
  have h1:=List.nodup_cons.1 hn
  rw[List.eraseIdx_cons_zero,List.filter_cons_of_neg (by simp)]
  refine List.filter_eq_self.2 (fun x hx=>?_)
  have:x≠a:=fun e=>h1.1 (e▸hx)
  simpa using this
 | a::r,i+1,t,h,hn=>by
  have h1:=List.nodup_cons.1 hn
  have h2:r[i]? = some t:=by simpa using h
  have h3:a≠t:=fun e=>h1.1 (e▸List.mem_of_getElem? h2)
  rw[List.eraseIdx_cons_succ,List.filter_cons_of_pos (by simpa using h3),filter_erase r i t h2 h1.2]
def WSEn1(W0 ws:World)(A:Adr)(c:Cf)(σ:St)(vl vo:Value)(EL:List Le)(EO:List Te)(K S1:Nat→Prop)(e:Te)(t3 T G:Nat)(j b:Nat):Prop:=(j=10∧(S1 b∨ownS vl b))
def PSEn1(W0 ws:World)(A:Adr)(c:Cf)(σ:St)(vl vo:Value)(EL:List Le)(EO:List Te)(K S1:Nat→Prop)(e:Te)(t3 T G:Nat)(i:Nat)(VS:Nat→Value)(LO HI:Nat→Nat)(v:Value)(lo hi:Nat)(w:World):Prop:=
 match i with
 | 0=>v=.pointer (some ⟨A.sb,0,none⟩)
 | 1=>v=.pointer (some ⟨e.t,0,none⟩)
 | 2=>v=.pointer (some ⟨e.t,0,none⟩)
 | 3=>v=.pointer (some ⟨e.t,0,none⟩)
 | 4=>v=.int .i64 (e.x.id:Nat)
 | 5=>v=.pointer (some ⟨e.t,0,none⟩)
 | 6=>v=.pointer (some ⟨e.t,0,none⟩)
 | 7=>v=.pointer (some ⟨e.t,2,none⟩)
 | 8=>v=.int .i64 (e.x.last:Nat)
 | 9=>v=.agg #[.int .i64 6,.int .i64 (e.x.id:Nat),.int .i64 (e.x.last:Nat),.int .i64 0,.int .i64 0,.int .i64 0,.slice none 0 0,.slice none 0 0,.slice none 0 0,.slice none 0 0,.int .i64 0]
 | 10=>v=.tuple #[.int .i64 ((T+1:Nat):Int),.int .i64 0]∧∃vl' S1',SvAt W0 w A c { σ with io:={ σ.io with R:=σ.io.R.app (Rc.enc { Rc.zero with kind:=6,txn:=e.x.id,prev:=e.x.last }) },lines:=σ.lines++[(σ.io.R.tail+1,{ Rc.zero with kind:=6,txn:=e.x.id,prev:=e.x.last })] } vl' vo (EL++[⟨σ.io.R.tail+1,{ Rc.zero with kind:=6,txn:=e.x.id,prev:=e.x.last },.slice none 0 0,.slice none 0 0⟩]) EO K S1'∧GrowX (fun k=>S1 k∨ownS vl k) ws w∧(∀k,S1' k→S1 k∨G≤k)∧(∀q,ownS vl' q→ownS vl q∨G≤q)
 | 11=>v=.tuple #[.int .i64 ((T+1:Nat):Int),.int .i64 0]
 | 12=>v=.int .i64 ((T+1:Nat):Int)
 | 13=>v=.int .i64 0
 | 14=>v=.int .i64 ((T+1:Nat):Int)
 | 15=>v=.int .i64 0
 | _=>True
abbrev bSEn1:List (List Nat):=[[],[],[1],[1,2],[1,2,3],[],[5],[5,6],[5,6,7],[1,2,3,4,5,6,7,8],[0,1,2,3,4,5,6,7,8,9],[0,1,2,3,4,5,6,7,8,9,10],[0,1,2,3,4,5,6,7,8,9,10,11],[0,1,2,3,4,5,6,7,8,9,10,11],[0,1,2,3,4,5,6,7,8,9,10,11,12],[0,1,2,3,4,5,6,7,8,9,10,11,12,13,14]]
theorem PSEn1_stable(W0 ws:World)(A:Adr)(c:Cf)(σ:St)(vl vo:Value)(EL:List Le)(EO:List Te)(K S1:Nat→Prop)(e:Te)(t3 T G:Nat)  : ∀i j,i<16→j<16→j≠i→j∉bSEn1.getD i []→(i,j)∉([]:List (Nat×Nat))→∀VS LO HI v lo hi w w',PSEn1 W0 ws A c σ vl vo EL EO K S1 e t3 T G i VS LO HI v lo hi w→GrowX (WSEn1 W0 ws A c σ vl vo EL EO K S1 e t3 T G j) w w'→PSEn1 W0 ws A c σ vl vo EL EO K S1 e t3 T G i VS LO HI v lo hi w':=by
 intro i j hi hj hne hbs hx VS LO HI v lo hj2 w w' h hg
 match i,hi with
 | 0,_|1,_|2,_|3,_|4,_|5,_|6,_|7,_|8,_|9,_|11,_|12,_|13,_|14,_|15,_=>
  simp only[PSEn1]at h⊢
  exact h
 | 10,_=>
  simp only[PSEn1]at h⊢
  obtain⟨h1,vl2,S2,h2,h3,h4,h5⟩:=h
  have hgx:GrowX (fun _=>False) w w':=hg.mono (fun b hb=>hne hb.1)
  exact⟨h1,vl2,S2,h2.stay hgx,h3.trans (hgx.mono (fun _ (h:False)=>h.elim)),h4,h5⟩
 | (q+16),hq=>exact absurd hq (by omega)
theorem PSEn1_cong(W0 ws:World)(A:Adr)(c:Cf)(σ:St)(vl vo:Value)(EL:List Le)(EO:List Te)(K S1:Nat→Prop)(e:Te)(t3 T G:Nat):∀i,i<16→∀VS VS' LO LO' HI HI' v lz hz w,(∀j∈bSEn1.getD i [],VS j=VS' j∧LO j=LO' j∧HI j=HI' j)→PSEn1 W0 ws A c σ vl vo EL EO K S1 e t3 T G i VS LO HI v lz hz w→PSEn1 W0 ws A c σ vl vo EL EO K S1 e t3 T G i VS' LO' HI' v lz hz w:=by
 intro i hi VS VS' LO LO' HI HI' v lz hz w he h
 match i,hi with
 | 0,_|1,_|2,_|3,_|4,_|5,_|6,_|7,_|8,_|9,_|10,_|11,_|12,_|13,_|14,_|15,_=>
  simp only[PSEn1]at h⊢
  exact h
 | (q+16),hq=>exact absurd hq (by omega)
section
variable{W0 w w' w2:World}{A:Adr}{c:Cf}{σ:St}{S:Nat→Prop}{vl vo vo':Value}{EL:List Le}{EO:List Te}{K S1:Nat→Prop}{X:Nat→Prop}
theorem TxV.nodup(h:TxV W0 w vo EO K):(EO.map (·.t)).Nodup:=by
 rw[List.Nodup,List.pairwise_map]
 exact h.pw.imp (fun {a b} hd e=>hd a.t (.inl rfl) (.inl e))
theorem TxV.erase{g n cap:Nat}(h:TxV W0 w vo EO K)(i:Nat)(hg:GrowX (fun b=>vo.ownBlock=some b) w w2)(hk:∀k,K k→¬vo.ownBlock=some k)(hrow:w2.ownsRow W0.heap.size 100 1 vo' (EO.eraseIdx i).length ((EO.eraseIdx i).map ptrT))(hv:∀q,vo'.ownBlock=some q→vo.ownBlock=some q):
  TxV W0 w2 vo' (EO.eraseIdx i) K:=by
 have hsub:(EO.eraseIdx i).Sublist EO:=List.eraseIdx_sublist _ _
 exact⟨hrow,fun e he=>(h.at_ e (hsub.subset he)).grow hg (fun k hk1 e2=>h.no e (hsub.subset he) k e2 hk1) hk,h.pw.sublist hsub,fun e he q hq=>h.no e (hsub.subset he) q (hv q hq)⟩
theorem St.end_eq(σ:St)(c:Cf)(i:Nat)(x:Tx)(hr:96≤σ.io.R.room c.n):σ.end_ c i x=(0,{ σ with io:={ σ.io with R:=σ.io.R.app (Rc.enc { Rc.zero with kind:=6,txn:=x.id,prev:=x.last }) },lines:=σ.lines++[(σ.io.R.tail+1,{ Rc.zero with kind:=6,txn:=x.id,prev:=x.last })],opn:=σ.opn.eraseIdx i }):=by
 unfold St.end_
 simp only[]
 rw[St.lay_eq σ c { Rc.zero with kind:=6,txn:=x.id,prev:=x.last } rfl rfl hr]
 simp only[if_pos]
theorem cells_of{w:World}{x:Nat}{v:Value}(h:w.cell? ⟨x,0,none⟩=some v):∃c e f,w.heap[x]? = some (.cells c e f):=by
 unfold World.cell? at h
 simp only at h
 split at h
 ·next c e f hc=>exact⟨c,e,f,hc⟩
 ·cases h
theorem run_eql_box{P:Program}(w:World){tp te:TypeId}{j:TypeInfo}{x t:Nat}{va vb:Value}(hp:P.underlying tp=some (.pointer te))(hte:P.info? te=some j)(hsz:j.size≠0)(hne:¬x=t)
  (ha:w.cell? ⟨x,0,none⟩=some va) (hfa:∀o,w.frozen? ⟨x,o,none⟩=false) (hb:w.cell? ⟨t,0,none⟩=some vb) (hfb:∀o,w.frozen? ⟨t,o,none⟩=false):
  (binOp .eql tp (.pointer (some ⟨x,0,none⟩)) (.pointer (some ⟨t,0,none⟩))).run P w=.ok (.bool false) w:=by
 obtain⟨ca,ea,fa,hca⟩:=cells_of ha
 obtain⟨cb,eb,fb,hcb⟩:=cells_of hb
 have hs:(sameAddr ⟨x,0,none⟩ ⟨t,0,none⟩).run P w=.ok false w:=by
  simp[sameAddr,hne,hfa,hfb,noView,viewAt,World.shape?,hca,hcb,mayBeOne,stringish]
 have h:∀d:Nat,(Op.equalIn (d+1) tp (.pointer (some ⟨x,0,none⟩)) (.pointer (some ⟨t,0,none⟩))).run P w=.ok false w:=fun d=>by
  simp[Op.equalIn,run_underlying hp,sizeOf,typeInfo,hte,hsz,hs]
 simp only[binOp]
 simp[Op.equal,Op.maxDepth,h 9999]
set_option maxRecDepth 100000 in
theorem same_any(w:World)(x t t3:Nat)(hb:Box w t3 [.pointer (some ⟨t,0,none⟩)])(hx1:∃v,w.cell? ⟨x,0,none⟩=some v)(hx2:∀o,w.frozen? ⟨x,o,none⟩=false)(ht1:∃v,w.cell? ⟨t,0,none⟩=some v)(ht2:∀o,w.frozen? ⟨t,o,none⟩=false):
  Calls Tryz.prog 102 #[.pointer (some ⟨x,0,none⟩),.pointer (some ⟨t3,0,none⟩)] w fun e w'=>e=.returned (.bool (x==t))∧Below w.heap.size w w':=by
 have c0:=hb.cell 0 _ rfl
 have clt:=hb.lt
 obtain⟨vx,hx1⟩:=hx1
 obtain⟨vt,ht1⟩:=ht1
 obtain⟨j,hj,hz0,hz1,hz2⟩:=info_parts (P:=Tryz.prog) (e:=103) (z:=.agg #[.int .i64 0,.int .i64 0,.int .i64 0,.slice none 0 0]) (size:=4) (bytes:=48) (by kernel_rfl)
 have hj2:j.size≠0:=by rw[hz1];decide
 clear hb
 by_cases hx:x=t
 ·subst hx
  have h0:=run_eql_ptr_same w (tp:=100) (te:=103) (⟨x,0,none⟩:Addr) (by kernel_rfl) hj
  go_enter Tryz.func102,Tryz.ntmps102
  go_wp2_with fail
  go_ret
  exact⟨ret_v (by simp),Below.refl _ _⟩
 ·have h1:=run_eql_box w (tp:=100) (te:=103) (by kernel_rfl) hj hj2 hx hx1 hx2 ht1 ht2
  have h2:(x==t)=false:=by simpa using hx
  clear hx1 hx2 ht1 ht2 hj
  go_enter Tryz.func102,Tryz.ntmps102
  go_wp2_with fail
  go_ret
  exact⟨ret_v (by rw[h2];rfl),Below.refl _ _⟩
set_option maxRecDepth 100000 in
set_option maxHeartbeats 6400000 in
theorem end_at(h:SvAt W0 w A c σ vl vo EL EO K S1)(i:Nat)(e:Te)(hei:EO[i]? = some e)(hid:e.x.id≤1099511627776)(hla:e.x.last≤1099511627776)(hn:EO.length≤1000000)(hk:96≤σ.io.R.room c.n)(ht:σ.io.R.tail+96≤1099511627775)(hl:EL.length≤1073741824):
  Calls Tryz.prog 60 #[.pointer (some ⟨A.sb,0,none⟩),.pointer (some ⟨e.t,0,none⟩)] w fun er w'=>∃vl' vo' EL' S1',er=.returned (.int .i64 0)∧
   SvAt W0 w' A c (σ.end_ c i e.x).2 vl' vo' EL' (EO.eraseIdx i) K S1'∧Foot (sfoot S1 vl vo EO K) (sfoot S1' vl' vo' (EO.eraseIdx i) K) w w':=by
 have HEI:=Lib.hid hei
 have HK:=Lib.hid hk
 have HT:=Lib.hid ht
 have HL:=Lib.hid hl
 have HN:=Lib.hid hn
 have HS0:=Lib.hid h
 have hal:Below w.heap.size w (w.alloc (.cells #[.pointer (some ⟨e.t,0,none⟩)] 100)):=(Below.refl _ _).alloc (Nat.le_refl _) _
 have hbx:=Box.new w #[.pointer (some ⟨e.t,0,none⟩)] 100 rfl
 have HAL:=Lib.hid hal
 have HS1:=Lib.hid (h.below hal)
 obtain⟨t3,ht3⟩:∃x,w.heap.size=x:=⟨_,rfl⟩
 have hlt3:∀k,sfoot S1 vl vo EO K k→k<t3:=fun k hk=>by have:=(h.lt k hk).2;omega
 have HLT:=Lib.hid hlt3
 have HT3:=Lib.hid ht3
 obtain⟨T,hT⟩:∃x,σ.io.R.tail=x:=⟨_,rfl⟩
 have HTT:=Lib.hid hT
 clear h hei hk ht hl hn hal hlt3
 go_enter Tryz.func60,Tryz.ntmps60
 go_upto_region 1 with (fail)
 rw[ht3]at hbx
 try rw[ht3]
 generalize w.alloc (.cells #[.pointer (some ⟨e.t,0,none⟩)] 100)=w1 at *
 have bt:Box w1 t3 [.pointer (some ⟨e.t,0,none⟩)]:=hbx
 have hmem:=List.mem_of_getElem? HEI.out
 have be:Box w1 e.t [.int .i64 (e.x.id:Nat),.int .i64 (e.x.first:Nat),.int .i64 (e.x.last:Nat),e.vu]:=(HS1.out.tx.at_ e hmem).box
 have hfe:¬(S1 e.t∨ownS vl e.t):=fun h=>h.elim (fun h=>HS1.out.d2 _ h (.inr ⟨e,hmem,.inl rfl⟩)) (fun h=>HS1.out.d3 _ h (.inr ⟨e,hmem,.inl rfl⟩))
 have hft:¬(S1 t3∨ownS vl t3):=fun h=>h.elim (fun h=>by have:=HLT.out _ (.inl h);omega) (fun h=>by have:=HLT.out _ (.inr (.inl h));omega)
 have HFT:=Lib.hid hft
 have hB:Below 0 w1 w1:=Below.refl _ _
 clear hbx hmem ht3 hT
 refine wp_region_partsDVK (WSEn1 W0 w1 A c σ vl vo EL EO K S1 e t3 T (w1.heap.size)) 16 bSEn1 [some 8,some 9,some 10,some 11,some 12,some 13,some 14,some 15,some 16,some 17,some 18,some 7,some 19,some 20,some 5,some 6] [[],[],[1],[2],[3],[],[5],[6],[7],[4,8],[0,9],[10],[11],[11],[12],[13]] [0,1,2,3,4,5,6,7,8,9,10,11,12,13,14,15] [] (by decide) (by kernel_rfl) (by kernel_rfl) rfl (PSEn1 W0 w1 A c σ vl vo EL EO K S1 e t3 T (w1.heap.size)) (PSEn1_cong W0 w1 A c σ vl vo EL EO K S1 e t3 T (w1.heap.size)) (PSEn1_stable W0 w1 A c σ vl vo EL EO K S1 e t3 T (w1.heap.size)) ?pSEn1 ?_
 case pSEn1=>
  intro i hi o ho vs lo hx_ w' hg hp hdd
  match i,hi with
  | 0,_=>
   obtain rfl:=Option.some.inj ho
   clear ho
   simp only[actsD,Act.put,actL]
   have hsz:=hg.size
   go_wp2
   exact⟨_,rfl,GrowX.refl _,rfl⟩
  | 1,_|5,_=>
   obtain rfl:=Option.some.inj ho
   clear ho
   simp only[actsD,Act.put,actL]
   have hsz:=hg.size
   have e0:=(bt.growx hg (by rintro⟨j,_,hne,hb,hw⟩;simp only[WSEn1]at hw;obtain⟨rfl,hw⟩:=hw;first|exact hfe hw|exact hft hw|exact hb (by decide)|exact hne rfl)).cell 0 _ rfl
   go_wp2
   exact⟨_,rfl,GrowX.refl _,rfl⟩
  | 2,_=>
   obtain rfl:=Option.some.inj ho
   clear ho
   simp only[actsD,Act.put,actL]
   obtain⟨_,_,_,h1⟩:=hp 1 (by simp)
   simp only[PSEn1]at h1
   have hsz:=hg.size
   rw[h1]
   go_wp2
   exact⟨_,rfl,GrowX.refl _,rfl⟩
  | 3,_=>
   obtain rfl:=Option.some.inj ho
   clear ho
   simp only[actsD,Act.put,actL]
   obtain⟨_,_,_,h2⟩:=hp 2 (by simp)
   simp only[PSEn1]at h2
   have hsz:=hg.size
   rw[h2]
   go_wp2
   exact⟨_,rfl,GrowX.refl _,rfl⟩
  | 4,_=>
   obtain rfl:=Option.some.inj ho
   clear ho
   simp only[actsD,Act.put,actL]
   obtain⟨_,_,_,h3⟩:=hp 3 (by simp)
   simp only[PSEn1]at h3
   have hsz:=hg.size
   rw[h3]
   have e0:=(be.growx hg (by rintro⟨j,_,hne,hb,hw⟩;simp only[WSEn1]at hw;obtain⟨rfl,hw⟩:=hw;first|exact hfe hw|exact hft hw|exact hb (by decide)|exact hne rfl)).cell 0 _ rfl
   go_wp2
   exact⟨_,rfl,GrowX.refl _,rfl⟩
  | 6,_=>
   obtain rfl:=Option.some.inj ho
   clear ho
   simp only[actsD,Act.put,actL]
   obtain⟨_,_,_,h5⟩:=hp 5 (by simp)
   simp only[PSEn1]at h5
   have hsz:=hg.size
   rw[h5]
   go_wp2
   exact⟨_,rfl,GrowX.refl _,rfl⟩
  | 7,_=>
   obtain rfl:=Option.some.inj ho
   clear ho
   simp only[actsD,Act.put,actL]
   obtain⟨_,_,_,h6⟩:=hp 6 (by simp)
   simp only[PSEn1]at h6
   have hsz:=hg.size
   rw[h6]
   go_wp2
   exact⟨_,rfl,GrowX.refl _,rfl⟩
  | 8,_=>
   obtain rfl:=Option.some.inj ho
   clear ho
   simp only[actsD,Act.put,actL]
   obtain⟨_,_,_,h7⟩:=hp 7 (by simp)
   simp only[PSEn1]at h7
   have hsz:=hg.size
   rw[h7]
   have e0:=(be.growx hg (by rintro⟨j,_,hne,hb,hw⟩;simp only[WSEn1]at hw;obtain⟨rfl,hw⟩:=hw;first|exact hfe hw|exact hft hw|exact hb (by decide)|exact hne rfl)).cell 2 _ rfl
   go_wp2
   exact⟨_,rfl,GrowX.refl _,rfl⟩
  | 9,_=>
   obtain rfl:=Option.some.inj ho
   clear ho
   simp only[actsD,Act.put,actL]
   obtain⟨_,_,_,h4⟩:=hp 4 (by simp)
   simp only[PSEn1]at h4
   obtain⟨_,_,_,h8⟩:=hp 8 (by simp)
   simp only[PSEn1]at h8
   have hsz:=hg.size
   rw[h4,h8]
   go_wp2
   exact⟨_,rfl,GrowX.refl _,rfl⟩
  | 10,_=>
   obtain rfl:=Option.some.inj ho
   clear ho
   simp only[actsD,Act.put,actL]
   obtain⟨_,_,_,h0⟩:=hp 0 (by simp)
   simp only[PSEn1]at h0
   obtain⟨_,_,_,h9⟩:=hp 9 (by simp)
   simp only[PSEn1]at h9
   have hsz:=hg.size
   rw[h0,h9]
   have hgx:GrowX (fun _=>False) w1 w':=hg.mono (fun b ⟨j,_,hne,_,hw⟩=>hne hw.1)
   have hcall:=lay0_at (HS1.out.stay hgx) { Rc.zero with kind:=6,txn:=e.x.id,prev:=e.x.last } ⟨by show(6:Nat)≤_;omega,by show e.x.id≤_;omega,by show e.x.last≤_;omega,Nat.zero_le _,Nat.zero_le _,Nat.zero_le _,Nat.zero_le _,Nat.zero_le _,Nat.zero_le _,rfl,rfl⟩ rfl rfl HK.out HT.out HL.out
   have HCA:=Lib.hid hcall
   clear hcall
   go_wp2_with fail
   refine HCA.out.mono ?_
   rintro er y ⟨vl2,S2,rfl,h2,h3,h4,h5⟩
   rw[HTT.out]
   go_wp2
   exact⟨_,rfl,h3.mono (fun b h=>⟨rfl,h⟩),rfl,vl2,S2,h2,(hgx.mono (fun _ (h:False)=>h.elim)).trans h3,fun k h=>(h4 k h).imp (fun h=>h) (fun h=>Nat.le_trans hgx.size h),fun k h=>(h5 k h).imp (fun h=>h) (fun h=>Nat.le_trans hgx.size h)⟩
  | 11,_=>
   obtain rfl:=Option.some.inj ho
   clear ho
   simp only[actsD,Act.put,actL]
   obtain⟨_,_,_,h10⟩:=hp 10 (by simp)
   simp only[PSEn1]at h10
   have hsz:=hg.size
   rw[h10.1]
   go_wp2
   exact⟨_,rfl,GrowX.refl _,rfl⟩
  | 12,_|13,_=>
   obtain rfl:=Option.some.inj ho
   clear ho
   simp only[actsD,Act.put,actL]
   obtain⟨_,_,_,h11⟩:=hp 11 (by simp)
   simp only[PSEn1]at h11
   have hsz:=hg.size
   rw[h11]
   go_wp2
   exact⟨_,rfl,GrowX.refl _,rfl⟩
  | 14,_=>
   obtain rfl:=Option.some.inj ho
   clear ho
   simp only[actsD,Act.put,actL]
   obtain⟨_,_,_,h12⟩:=hp 12 (by simp)
   simp only[PSEn1]at h12
   have hsz:=hg.size
   rw[h12]
   go_wp2
   exact⟨_,rfl,GrowX.refl _,rfl⟩
  | 15,_=>
   obtain rfl:=Option.some.inj ho
   clear ho
   simp only[actsD,Act.put,actL]
   obtain⟨_,_,_,h13⟩:=hp 13 (by simp)
   simp only[PSEn1]at h13
   have hsz:=hg.size
   rw[h13]
   go_wp2
   exact⟨_,rfl,GrowX.refl _,rfl⟩
  | (q+16),hq=>exact absurd hq (by omega)
 intro vS lo hi y4 hg hp hd
 obtain⟨_,_,_,h0⟩:=hp 0 (by decide)
 replace h0:=h0 (by decide)
 obtain⟨_,_,_,h1⟩:=hp 1 (by decide)
 replace h1:=h1 (by decide)
 obtain⟨_,_,_,h2⟩:=hp 2 (by decide)
 replace h2:=h2 (by decide)
 obtain⟨_,_,_,h3⟩:=hp 3 (by decide)
 replace h3:=h3 (by decide)
 obtain⟨_,_,_,h4⟩:=hp 4 (by decide)
 replace h4:=h4 (by decide)
 obtain⟨_,_,_,h5⟩:=hp 5 (by decide)
 replace h5:=h5 (by decide)
 obtain⟨_,_,_,h6⟩:=hp 6 (by decide)
 replace h6:=h6 (by decide)
 obtain⟨_,_,_,h7⟩:=hp 7 (by decide)
 replace h7:=h7 (by decide)
 obtain⟨_,_,_,h8⟩:=hp 8 (by decide)
 replace h8:=h8 (by decide)
 obtain⟨_,_,_,h9⟩:=hp 9 (by decide)
 replace h9:=h9 (by decide)
 obtain⟨_,_,_,h10⟩:=hp 10 (by decide)
 replace h10:=h10 (by decide)
 obtain⟨_,_,_,h11⟩:=hp 11 (by decide)
 replace h11:=h11 (by decide)
 obtain⟨_,_,_,h12⟩:=hp 12 (by decide)
 replace h12:=h12 (by decide)
 obtain⟨_,_,_,h13⟩:=hp 13 (by decide)
 replace h13:=h13 (by decide)
 obtain⟨_,_,_,h14⟩:=hp 14 (by decide)
 replace h14:=h14 (by decide)
 obtain⟨_,_,_,h15⟩:=hp 15 (by decide)
 replace h15:=h15 (by decide)
 simp only[PSEn1]at h0 h1 h2 h3 h4 h5 h6 h7 h8 h9 h10 h11 h12 h13 h14 h15
 clear hp hd
 have hsz:=hg.size
 replace bt:=bt.growx hg (by rintro⟨j,_,hw⟩;simp only[WSEn1]at hw;first|exact hfe hw.2|exact hft hw.2|omega)
 replace be:=be.growx hg (by rintro⟨j,_,hw⟩;simp only[WSEn1]at hw;first|exact hfe hw.2|exact hft hw.2|omega)
 replace hB:=hB.trans (hg.below (fun k hk=>⟨by omega,by rintro⟨j,_,hw⟩;simp only[WSEn1]at hw;first|exact hfe hw.2|exact hft hw.2|omega⟩))
 have hr:List.range 16=[0,1,2,3,4,5,6,7,8,9,10,11,12,13,14,15]:=rfl
 rw[hr]
 clear hr
 simp only[List.drop_succ_cons,List.drop_zero,List.drop_nil,actsD,Act.put,actL,h0,h1,h2,h3,h4,h5,h6,h7,h8,h9,h11,h12,h13,h14,h15]
 clear h0 h1 h2 h3 h4 h5 h6 h7 h8 h9 h11 h12 h13 h14 h15
 obtain⟨h10a,vl4,S4,h10b,h10c,h10d,h10e⟩:=h10
 have HS4:=Lib.hid h10b
 have HG4:=Lib.hid h10c
 have HN4:=Lib.hid h10d
 have HV4:=Lib.hid h10e
 have HBT:=Lib.hid bt
 clear h10a h10b h10c h10d h10e hB hg hsz be bt hfe hft
 have c5:=HS4.out.sbx.cell 5 _ rfl
 have cfz:=HS4.out.sbx.free
 have clt:=HS4.out.sbx.lt
 obtain⟨n,hnn⟩:∃x,EO.length=x:=⟨_,rfl⟩
 have hn1:0<n:=by rw[←hnn];exact Nat.lt_of_le_of_lt (Nat.zero_le _) (List.getElem?_eq_some_iff.1 HEI.out).1
 have hrow:=HS4.out.tx.row
 rw[hnn]at hrow
 obtain⟨g,cq,hvo,_,_⟩:=own_slice hrow hn1
 have hcells:EO.map ptrT=(EO.map (·.t)).map ptrB:=by rw[List.map_map];rfl
 rw[hvo,hcells]at hrow
 rw[hvo]at c5
 have htg:g≠t3:=fun e1=>by have h1:=HLT.out g (.inr (.inr (.inl (.inl (by rw[hvo];rfl)))));omega
 have eg:∀args w,(callFunc 102 args).run Tryz.prog w=.ok (.enter 102 args) w:=enters_of Tryz.func102 (by kernel_rfl) rfl
 have hP:PredT (EO.map (·.t)) 102 #[.pointer (some ⟨t3,0,none⟩)] (fun x=>x==e.t) g (fun W=>Box W t3 [.pointer (some ⟨e.t,0,none⟩)]∧∀x∈EO,Box W x.t (tcell x)):=
  ⟨fun W W' hF hg=>⟨hF.1.growx hg (fun e1=>htg e1.symm),fun x hx=>(hF.2 x hx).growx hg (fun e1=>HS4.out.tx.no x hx g (by rw[hvo];rfl) (.inl e1.symm))⟩,fun W x hx hF=>by
   obtain⟨y,hy,rfl⟩:=List.mem_map.1 hx
   have h1:=hF.2 y hy
   have h2:=hF.2 e (List.mem_of_getElem? HEI.out)
   exact same_any W y.t e.t t3 hF.1 ⟨_,h1.cell 0 _ rfl⟩ h1.free ⟨_,h2.cell 0 _ rfl⟩ h2.free⟩
 have hcall:=delT_any (EO.map (·.t)) n cq W0.heap.size g 102 #[.pointer (some ⟨t3,0,none⟩)] (fun x=>x==e.t) _ eg hP (by rw[List.length_map];exact hnn) (by rw[←hnn];have:=HN.out;omega) hn1 y4 ⟨HBT.out,fun x hx=>(HS4.out.tx.at_ x hx).box⟩ hrow
 rw[filter_erase _ i e.t (by rw[List.getElem?_map,HEI.out];rfl) HS4.out.tx.nodup]at hcall
 have HCA:=Lib.hid hcall
 have HVO:=Lib.hid hvo
 have HNN:=Lib.hid hnn
 clear eg hP hcall hrow hcells htg hvo hnn
 go_wp2_with fail
 refine HCA.out.mono ?_
 rintro er y5 ⟨m,rfl,hm1,hm2,hrow5,hgx5⟩
 have hgo:∀b,b=g→vo.ownBlock=some b:=fun b e1=>by rw[HVO.out,e1];rfl
 have hgv:GrowX (fun b=>vo.ownBlock=some b) y4 y5:=hgx5.mono hgo
 have hlen:((EO.map (·.t)).eraseIdx i).length=m:=hm1
 have hlen2:(EO.eraseIdx i).length=m:=by rw[←hlen,List.length_eraseIdx,List.length_eraseIdx,List.length_map]
 have hrow6:y5.ownsRow W0.heap.size 100 1 (.slice (some ⟨g,0,none⟩) m cq) (EO.eraseIdx i).length ((EO.eraseIdx i).map ptrT):=by
  rw[hlen2]
  have e1:(EO.eraseIdx i).map ptrT=((EO.map (·.t)).eraseIdx i).map ptrB:=by rw[map_erase,map_erase,List.map_map];rfl
  rw[e1];exact hrow5
 have hvv:∀q,(Value.slice (some ⟨g,0,none⟩) m cq).ownBlock=some q→vo.ownBlock=some q:=fun q e1=>hgo q (by have e2:g=q:=(by simpa[Value.ownBlock]using e1);exact e2.symm)
 have hnew:∀k,TxFoot (.slice (some ⟨g,0,none⟩) m cq) (EO.eraseIdx i) k→TxFoot vo EO k∨y4.heap.size≤k:=by
  rintro k (hk|⟨x,hx,hk⟩)
  ·exact .inl (.inl (hvv k hk))
  ·exact .inl (.inr ⟨x,(List.eraseIdx_sublist EO i).subset hx,hk⟩)
 have htx:=HS4.out.tx.erase (g:=0) (n:=0) (cap:=0) i hgv (fun k hk e1=>HS4.out.k3 k hk (.inl e1)) hrow6 hvv
 obtain⟨S6,hs6,hg6,hn6⟩:=HS4.out.opn hgv (fun k hk=>.inl (.inl hk)) htx hnew
 have HS6:=Lib.hid hs6
 have HG6:=Lib.hid hg6
 have HN6:=Lib.hid hn6
 have HNW:=Lib.hid hnew
 have hsg:A.sb≠g:=fun e1=>HS4.out.d2 _ HS4.out.sbS (.inl (hgo _ e1))
 have bs5:=HS4.out.sbx.growx hgx5 hsg
 have c5':=bs5.cell 5 _ rfl
 have cfz':=bs5.free
 have clt':=bs5.lt
 clear hgo hgv hlen hlen2 hrow6 hvv hnew htx hs6 hg6 hn6 hsg bs5 c5 cfz clt hrow5 hgx5 hm1
 go_wp2_with fail
 go_ret
 have F0:Foot (sfoot S1 vl vo EO K) (sfoot S4 vl4 vo EO K) w1 y4:=sfoot_foot (HG4.out.mono (fun k h=>h.elim .inl (fun h=>.inr (.inl h)))) HN4.out HV4.out (fun k h=>.inl h) (fun k h=>.inl h)
 have F1:Foot (sfoot S4 vl4 vo EO K) (sfoot S6 vl4 (.slice (some ⟨g,0,none⟩) m cq) (EO.eraseIdx i) K) y4 _:=sfoot_foot (HG6.out.mono (fun k h=>h.elim .inl (fun h=>.inr (.inr (.inl h))))) HN6.out (fun k h=>.inl h) HNW.out (fun k h=>.inl h)
 have e1:=St.end_eq σ c i e.x HK.out
 have e2:(EO.eraseIdx i).map (·.x)=σ.opn.eraseIdx i:=by rw[map_erase,←HS0.out.ois]
 have e3:=HS6.out
 rw[e2]at e3
 rw[e1]
 have FF:=(Foot.below (grow_below HAL.out)).trans (F0.trans F1)
 first|exact⟨_,_,_,_,rfl,e3,FF⟩|exact⟨rfl,_,_,_,_,e3,FF⟩
end
end
section
open Go.RowKit
open Classical in
theorem wp_scope_down1{P:Program}{a:Act}{w:World}{Q:Exit→Act→World→Prop}{R:Code}(l:Nat)(J:Nat→Act→World→Prop)
  (hf:findLabel ((Code.label l).seq R) l=some (Code.skip.seq R))
  (first:∃k,J k a w)
  (pass:∀k a w,J k a w→R.wp P (Exit.jump l (fun a' w'=>∃k',k'<k∧J k' a' w') Q) a w):
  (Code.scope ((Code.label l).seq R)).wp P Q a w:=by
 have weak:∀(K:Act→World→Prop) e a w,Exit.jump l (fun a' w'=>(∃k,J k a' w')∧K a' w') Q e a w→Exit.jump l (fun a w=>∃k,J k a w) Q e a w:=by
  intro K e a w h
  cases e with
  | goto l'=>exact⟨h.1,h.2.1⟩
  | _=>exact h
 have pass2:∀a w,(∃k,J k a w)→R.wp P (Exit.jump l (fun a' w'=>(∃k,J k a' w')∧(fun a w=>if h:∃k,J k a w then(least h).choose else 0) a' w'<(fun a w=>if h:∃k,J k a w then(least h).choose else 0) a w) Q) a w:=by
  intro a w hJ
  obtain⟨h1,h2⟩:=(least hJ).choose_spec
  refine wp_mono (pass _ a w h1) ?_
  intro e a' w' h
  cases e with
  | goto l'=>
   obtain⟨e1,k',hk',hj'⟩:=h
   refine⟨e1,⟨k',hj'⟩,?_⟩
   have hJ':∃k,J k a' w':=⟨k',hj'⟩
   simp only
   rw[dif_pos hJ',dif_pos hJ]
   exact Nat.lt_of_le_of_lt ((least hJ').choose_spec.2 k' hj') hk'
  | _=>exact h
 refine wp_scope_jumps l (fun a w=>∃k,J k a w) (fun a w=>if h:∃k,J k a w then(least h).choose else 0) hf ?_ (fun a w hJ=>wp_seq (wp_skip (pass2 a w hJ)))
 exact wp_seq (wp_label (wp_mono (pass2 a w first) (weak _)))
theorem flat_take{α β:Type}{f:α→List β}{k:Nat}(hf:∀x,(f x).length=k):∀(l:List α)(m:Nat),(l.flatMap f).take (m*k)=(l.take m).flatMap f
 | [],m=>by simp
 | a::l,0=>by simp
 | a::l,m+1=>by
  rw[List.take_succ_cons,List.flatMap_cons,List.flatMap_cons,List.take_append,hf,Nat.succ_mul,List.take_of_length_le (by rw[hf];omega),Nat.add_sub_cancel,flat_take hf l m]
theorem app_tail(R:Rg)(b:List UInt8):(R.app b).tail=R.tail+b.length:=by
 show R.base+(R.bytes++b).length=_
 rw[List.length_append];unfold Rg.tail;omega
theorem app_room(n:Nat)(R:Rg)(b:List UInt8):(R.app b).room n=R.room n-b.length:=by
 unfold Rg.room
 rw[app_tail]
 show(R.start / 118+n-1)*118-_=_
 omega
theorem own_take{w:World}{base e K n m:Nat}{ao:Option Addr}{c:Nat}{xs:List Value}(h:w.ownsRow base e K (.slice ao n c) n xs)(hn:0<n)(hm:m≤n):w.ownsRow base e K (.slice ao m c) m (xs.take (m*K)):=by
 obtain⟨hl,h⟩:=h
 have hmn:m*K≤n*K:=Nat.mul_le_mul_right _ hm
 refine⟨by rw[List.length_take,hl];omega,?_⟩
 rcases h with ⟨_,h0⟩|⟨g,cap,cur,e1,hb,hg,hnc,hcm,hcs,ht⟩
 ·omega
 ·injection e1 with e2 _ e3
  subst e2 e3
  refine .inr ⟨g,_,cur,rfl,hb,hg,by omega,hcm,hcs,?_⟩
  rw[←ht,List.take_take,Nat.min_eq_left hmn]
section
variable{W0 w w' w2:World}{A:Adr}{c:Cf}{σ:St}{S:Nat→Prop}{vl vo vo':Value}{EL:List Le}{EO:List Te}{K S1:Nat→Prop}{X:Nat→Prop}
theorem page_len(h:SvAt W0 w A c σ vl vo EL EO K S1)(q:Nat)(hq:q<c.pg)(hwr:σ.p.wr+1≤1000000000):(σ.get c q).2.1.length=512:=by
 obtain⟨_,w',_,⟨g,k,S',_,h2,_⟩,_⟩:=sget_ok h q hq hwr []
 have:=h2.1
 rw[List.length_map]at this
 omega
theorem apply_plain(h:SvAt W0 w A c σ vl vo EL EO K S1)(r:Rc)(hp:r.page<c.pg)(ho:r.off+r.after.length≤504)(l:Nat)(hl:1≤l)(hwr:σ.p.wr+1≤1000000000):(σ.apply c r l).1=0∧SSame σ (σ.apply c r l).2 2:=by
 have h1:=page_len h r.page hp hwr
 obtain⟨h2,h3⟩:=σ.get_ok c r.page hp
 have hlen:(overB (overB (σ.get c r.page).2.1 0 (be8 l)) (8+r.off) r.after).length=512:=by
  have e1:(overB (σ.get c r.page).2.1 0 (be8 l)).length=512:=by rw[overB_length _ _ _ (Nat.zero_le _),h1]
  rw[overB_length _ _ _ (by rw[e1];omega),e1]
 obtain⟨h4,h5⟩:=(σ.get c r.page).2.2.put_ok c r.page hp _ hlen l hl
 rw[St.apply_eq σ c r l hp]
 exact⟨h4,h3.trans h5⟩
def TxP(pg:Nat)(EU:List (Up×Value)):Prop:=∀u∈EU,u.1.off+u.1.before.length≤504∧u.1.page<pg∧u.1.lsn≤1099511627776∧u.1.prev≤1099511627776
def clrR(x:Tx)(u:Up):Rc:={ Rc.zero with kind:=3,txn:=x.id,prev:=x.last,page:=u.page,off:=u.off,after:=u.before,next:=u.prev }
def undoS(c:Cf)(σ:St)(i:Nat)(x:Tx)(u:Up):St:=
 (({ σ with io:={ σ.io with R:=σ.io.R.app (clrR x u).enc },lines:=σ.lines++[(σ.io.R.tail+1,clrR x u)],opn:=σ.opn.set i { x with last:=σ.io.R.tail+1,l:=x.l.dropLast } }:St).apply c (clrR x u) (σ.io.R.tail+1)).2
theorem undo_stop(c:Cf)(i mark m:Nat)(σ:St)(x:Tx)(hx:σ.opn[i]? = some x)(h:x.l.getLast? = none∨∃u,x.l.getLast? = some u∧u.lsn≤mark):St.undo c i mark (m+1) σ=(0,σ):=by
 unfold St.undo
 rw[hx]
 simp only[]
 rcases h with h|⟨u,h,hl⟩
 ·rw[h]
 ·rw[h];simp only[];rw[if_pos hl]
theorem undo_step(c:Cf)(i mark m:Nat)(σ:St)(x:Tx)(u:Up)(hx:σ.opn[i]? = some x)(hu:x.l.getLast? = some u)(hl:¬u.lsn≤mark)(hr:(clrR x u).size≤σ.io.R.room c.n)
  (ha:(({ σ with io:={ σ.io with R:=σ.io.R.app (clrR x u).enc },lines:=σ.lines++[(σ.io.R.tail+1,clrR x u)],opn:=σ.opn.set i { x with last:=σ.io.R.tail+1,l:=x.l.dropLast } }:St).apply c (clrR x u) (σ.io.R.tail+1)).1=0):
  St.undo c i mark (m+1) σ=St.undo c i mark m (undoS c σ i x u):=by
 rw[St.undo,hx]
 simp only[]
 rw[hu]
 simp only[]
 rw[if_neg hl]
 have e1:=St.lay_eq σ c (clrR x u) rfl rfl hr
 unfold clrR at e1
 rw[e1]
 simp only[St.setTx]
 rw[if_neg (by simp)]
 unfold clrR at ha
 refine Eq.trans (if_neg ?_) rfl
 exact fun h=>h ha
def undoF(A:Adr)(t mark:Nat)(f:Nat→Value):Array Value:=(List.toArray ((Value.pointer (some ⟨A.sb,0,none⟩))::(Value.pointer (some ⟨t,0,none⟩))::(Value.int .i64 (mark:Nat))::undef::undef::undef::(Value.int .i64 0)::(f 7)::(f 8)::(f 9)::(f 10)::(f 11)::(f 12)::(f 13)::(f 14)::(f 15)::(f 16)::(f 17)::(f 18)::(f 19)::(f 20)::(f 21)::(f 22)::(f 23)::(f 24)::(f 25)::(f 26)::(f 27)::(f 28)::(f 29)::(f 30)::(f 31)::(f 32)::(f 33)::(f 34)::(f 35)::(f 36)::(f 37)::(f 38)::(f 39)::(f 40)::(f 41)::(f 42)::(f 43)::(f 44)::(f 45)::(f 46)::(f 47)::(f 48)::(f 49)::(f 50)::(f 51)::(f 52)::(f 53)::(f 54)::(f 55)::(f 56)::(f 57)::(f 58)::(f 59)::(f 60)::(f 61)::(f 62)::(f 63)::(f 64)::(f 65)::(f 66)::(f 67)::(f 68)::(f 69)::(f 70)::(f 71)::(f 72)::(f 73)::(f 74)::(f 75)::(f 76)::(f 77)::(f 78)::(f 79)::(f 80)::(f 81)::(f 82)::(f 83)::(f 84)::(f 85)::[]))
def UndoJ(W0 ws:World)(A:Adr)(c:Cf)(i mark t first:Nat)(vo:Value)(K S0:Nat→Prop)(R:Int×St)(bT bL bW xr:Nat)(k:Nat)(a:Act)(w:World):Prop:=
 ∃(f:Nat→Value),a=⟨undoF A t mark f,[]⟩∧∃(σ:St)(vl:Value)(EL:List Le)(EO:List Te)(e:Te)(S1:Nat→Prop),
  SvAt W0 w A c σ vl vo EL EO K S1∧EO[i]? = some e∧e.t=t∧e.EU.length=k∧TxP c.pg e.EU∧upsA e.EU+xr≤σ.io.R.room c.n∧e.x.id≤1099511627776∧e.x.last≤1099511627776∧e.x.first=first∧
  σ.io.R.tail+upsA e.EU≤bT∧EL.length+k≤bL∧σ.p.wr+2*k≤bW∧St.undo c i mark (k+1) σ=R∧Foot S0 (sfoot S1 vl vo EO K) ws w
theorem UndoJ.intro{W0 ws:World}{A:Adr}{c:Cf}{i mark t first:Nat}{vo:Value}{K S0:Nat→Prop}{R:Int×St}{bT bL bW xr:Nat}{k:Nat}{a:Act}{w:World}
  (h:a=⟨undoF A t mark (fun j=>a.tmps.getD j undef),[]⟩) (h2:∃(σ:St)(vl:Value)(EL:List Le)(EO:List Te)(e:Te)(S1:Nat→Prop),
  SvAt W0 w A c σ vl vo EL EO K S1∧EO[i]? = some e∧e.t=t∧e.EU.length=k∧TxP c.pg e.EU∧upsA e.EU+xr≤σ.io.R.room c.n∧e.x.id≤1099511627776∧e.x.last≤1099511627776∧e.x.first=first∧
  σ.io.R.tail+upsA e.EU≤bT∧EL.length+k≤bL∧σ.p.wr+2*k≤bW∧St.undo c i mark (k+1) σ=R∧Foot S0 (sfoot S1 vl vo EO K) ws w):
  UndoJ W0 ws A c i mark t first vo K S0 R bT bL bW xr k a w:=⟨_,h,h2⟩
end
def WSUn5(e0:Te)(t t8 k gu cu y1 y2 y3 y4 mb c2 G:Nat)(a2:Option Addr)(j b o:Nat):Prop:=False
def PSUn5(e0:Te)(t t8 k gu cu y1 y2 y3 y4 mb c2 G:Nat)(a2:Option Addr)(i:Nat)(VS:Nat→Value)(LO HI:Nat→Nat)(v:Value)(lo hi:Nat)(w:World):Prop:=
 match i with
 | 0=>v=.pointer (some ⟨t,0,none⟩)
 | 1=>v=.pointer (some ⟨t,0,none⟩)
 | 2=>v=.pointer (some ⟨t,0,none⟩)
 | 3=>v=.int .i64 (e0.x.id:Nat)
 | 4=>v=.pointer (some ⟨t,0,none⟩)
 | 5=>v=.pointer (some ⟨t,0,none⟩)
 | 6=>v=.pointer (some ⟨t,2,none⟩)
 | 7=>v=.int .i64 (e0.x.last:Nat)
 | 8=>v=.pointer (some ⟨t8,2,none⟩)
 | 9=>v=.int .i64 (y3:Nat)
 | 10=>v=.pointer (some ⟨t8,3,none⟩)
 | 11=>v=.int .i64 (y4:Nat)
 | 12=>v=.pointer (some ⟨t8,4,none⟩)
 | 13=>v=.slice a2 mb c2
 | 14=>v=.pointer (some ⟨t8,1,none⟩)
 | 15=>v=.int .i64 (y2:Nat)
 | 16=>v=.agg #[.int .i64 3,.int .i64 (e0.x.id:Nat),.int .i64 (e0.x.last:Nat),.int .i64 (y2:Nat),.int .i64 (y3:Nat),.int .i64 (y4:Nat),.slice none 0 0,.slice a2 mb c2,.slice none 0 0,.slice none 0 0,.int .i64 0]
 | 17=>∃g3,v=.pointer (some ⟨g3,0,none⟩)∧G≤g3∧Box w g3 [.int .i64 0,.int .i64 0,.int .i64 0,.int .i64 0,.int .i64 0,.int .i64 0,.slice none 0 0,.slice none 0 0,.slice none 0 0,.slice none 0 0,.int .i64 0]
 | _=>True
abbrev bSUn5:List (List Nat):=[[],[0],[0,1],[0,1,2],[],[4],[4,5],[4,5,6],[],[8],[],[10],[],[12],[],[14],[0,1,2,3,4,5,6,7,8,9,10,11,12,13,14,15],[]]
theorem PSUn5_stable(e0:Te)(t t8 k gu cu y1 y2 y3 y4 mb c2 G:Nat)(a2:Option Addr)  : ∀i j,i<18→j<18→j≠i→j∉bSUn5.getD i []→(i,j)∉([]:List (Nat×Nat))→∀VS LO HI v lo hi w w',PSUn5 e0 t t8 k gu cu y1 y2 y3 y4 mb c2 G a2 i VS LO HI v lo hi w→GrowC (WSUn5 e0 t t8 k gu cu y1 y2 y3 y4 mb c2 G a2 j) w w'→PSUn5 e0 t t8 k gu cu y1 y2 y3 y4 mb c2 G a2 i VS LO HI v lo hi w':=by
 intro i j hi hj hne hbs hx VS LO HI v lo hj2 w w' h hg
 match i,hi with
 | 0,_|1,_|2,_|3,_|4,_|5,_|6,_|7,_|8,_|9,_|10,_|11,_|12,_|13,_|14,_|15,_|16,_=>
  simp only[PSUn5]at h⊢
  exact h
 | 17,_=>
  simp only[PSUn5]at h⊢
  obtain⟨g3,h1,h2,h3⟩:=h
  exact⟨g3,h1,h2,h3.growx (GrowX.of_growC hg (Y:=fun _=>False) (fun k o h=>h)) (fun h=>h)⟩
 | (q+18),hq=>exact absurd hq (by omega)
theorem PSUn5_cong(e0:Te)(t t8 k gu cu y1 y2 y3 y4 mb c2 G:Nat)(a2:Option Addr):∀i,i<18→∀VS VS' LO LO' HI HI' v lz hz w,(∀j∈bSUn5.getD i [],VS j=VS' j∧LO j=LO' j∧HI j=HI' j)→PSUn5 e0 t t8 k gu cu y1 y2 y3 y4 mb c2 G a2 i VS LO HI v lz hz w→PSUn5 e0 t t8 k gu cu y1 y2 y3 y4 mb c2 G a2 i VS' LO' HI' v lz hz w:=by
 intro i hi VS VS' LO LO' HI HI' v lz hz w he h
 match i,hi with
 | 0,_|1,_|2,_|3,_|4,_|5,_|6,_|7,_|8,_|9,_|10,_|11,_|12,_|13,_|14,_|15,_|16,_|17,_=>
  simp only[PSUn5]at h⊢
  exact h
 | (q+18),hq=>exact absurd hq (by omega)
section
variable{W0 w w' w2:World}{A:Adr}{c:Cf}{σ:St}{S:Nat→Prop}{vl vo vo':Value}{EL:List Le}{EO:List Te}{K S1:Nat→Prop}{X:Nat→Prop}
set_option maxRecDepth 100000 in
set_option maxHeartbeats 12800000 in
theorem undo_at(h:SvAt W0 w A c σ vl vo EL EO K S1)(i mark:Nat)(hmk:mark≤1099511627776)(e:Te)(hei:EO[i]? = some e)(hu:TxP c.pg e.EU)(hm:e.EU.length≤1000000)(hpp:c.pg≤1099511627776)(bT bL bW xr:Nat)(hbT:bT≤1099511627775)(hbL:bL≤1000000)(hbW:bW≤1000000000)(hk:upsA e.EU+xr≤σ.io.R.room c.n)(hid:e.x.id≤1099511627776)(hla:e.x.last≤1099511627776)(ht:σ.io.R.tail+upsA e.EU≤bT)(hl:EL.length+e.EU.length≤bL)(hwr:σ.p.wr+2*e.EU.length≤bW):
  Calls Tryz.prog 61 #[.pointer (some ⟨A.sb,0,none⟩),.pointer (some ⟨e.t,0,none⟩),.int .i64 (mark:Nat)] w fun er w'=>er=.returned (.int .i64 0)∧∃(σ':St)(vl':Value)(EL':List Le)(EO':List Te)(e':Te)(S1':Nat→Prop),
   SvAt W0 w' A c σ' vl' vo EL' EO' K S1'∧EO'[i]? = some e'∧e'.t=e.t∧e'.x.id≤1099511627776∧e'.x.last≤1099511627776∧σ'.io.R.tail≤bT∧EL'.length≤bL∧σ'.p.wr≤bW∧xr≤σ'.io.R.room c.n∧St.undo c i mark (e.EU.length+1) σ=(0,σ')∧Foot (sfoot S1 vl vo EO K) (sfoot S1' vl' vo EO' K) w w':=by
 have HPP:=Lib.hid hpp
 obtain⟨t,htt⟩:∃x,e.t=x:=⟨_,rfl⟩
 obtain⟨k0,hk0⟩:∃x,e.EU.length=x:=⟨_,rfl⟩
 obtain⟨R,hR⟩:∃x,St.undo c i mark (e.EU.length+1) σ=x:=⟨_,rfl⟩
 have hJ:∃(σ0:St)(vl0:Value)(EL0:List Le)(EO0:List Te)(e0:Te)(S10:Nat→Prop),
  SvAt W0 w A c σ0 vl0 vo EL0 EO0 K S10∧EO0[i]? = some e0∧e0.t=t∧e0.EU.length=k0∧TxP c.pg e0.EU∧upsA e0.EU+xr≤σ0.io.R.room c.n∧e0.x.id≤1099511627776∧e0.x.last≤1099511627776∧e0.x.first=e.x.first∧
  σ0.io.R.tail+upsA e0.EU≤bT∧EL0.length+k0≤bL∧σ0.p.wr+2*k0≤bW∧St.undo c i mark (k0+1) σ0=R∧Foot (sfoot S1 vl vo EO K) (sfoot S10 vl0 vo EO0 K) w w:=
  ⟨σ,vl,EL,EO,e,S1,h,hei,htt,hk0,hu,hk,hid,hla,rfl,ht,by rw[←hk0];exact hl,by rw[←hk0];exact hwr,by rw[←hk0];exact hR,Foot.below (grow_below (Below.refl _ _))⟩
 have HJ:=Lib.hid hJ
 have hkm:k0≤1000000:=by rw[←hk0];exact hm
 have HRR:=Lib.hid hR
 rw[htt,hR]
 obtain⟨fst,hfst⟩:∃x,e.x.first=x:=⟨_,rfl⟩
 rw[hfst]at HJ
 clear h hei hu hm hpp hk hid hla ht hl hwr hJ hR hk0 htt hfst
 go_enter Tryz.func61,Tryz.ntmps61
 go_wp2_with fail
 refine wp_scope_down1 0 (UndoJ W0 w A c i mark t fst vo K (sfoot S1 vl vo EO K) R bT bL bW xr) (by rfl) ?_ ?_
 ·exact⟨k0,fun _=>undef,rfl,HJ.out⟩
 rintro k a wr ⟨f,rfl,hj⟩
 unfold undoF
 clear HJ hkm
 obtain⟨σ0,vl0,EL0,EO0,e0,S10,hs,hei,het,hlen,htxp,hroom,hid,hla,hfst,htl,hll,hww,hun,hft⟩:=hj
 have hmem:=List.mem_of_getElem? hei
 have hta:=hs.tx.at_ e0 hmem
 have HS:=Lib.hid hs
 have HEI:=Lib.hid hei
 have HET:=Lib.hid het
 have HLEN:=Lib.hid hlen
 have HTXP:=Lib.hid htxp
 have HROOM:=Lib.hid hroom
 have HFST:=Lib.hid hfst
 have HTL:=Lib.hid htl
 have HLL:=Lib.hid hll
 have HWW:=Lib.hid hww
 have HUN:=Lib.hid hun
 have HFT:=Lib.hid hft
 have HTA:=Lib.hid hta
 have HID:=Lib.hid hid
 have HLA:=Lib.hid hla
 obtain⟨au,cu,hvu⟩:=own_shape hta.row
 rw[hlen]at hvu
 have HVU:=Lib.hid hvu
 have be:Box wr t [.int .i64 (e0.x.id:Nat),.int .i64 (e0.x.first:Nat),.int .i64 (e0.x.last:Nat),.slice au k cu]:=by rw[←het,←hvu];exact hta.box
 have HBE:=Lib.hid be
 have b3:=be.cell 3 _ rfl
 have blt:=be.lt
 have stop:(e0.x.l.getLast? = none∨∃u,e0.x.l.getLast? = some u∧u.lsn≤mark)→(Value.int .i64 0=Value.int .i64 0)∧∃(σ':St)(vl':Value)(EL':List Le)(EO':List Te)(e':Te)(S1':Nat→Prop),
   SvAt W0 wr A c σ' vl' vo EL' EO' K S1'∧EO'[i]? = some e'∧e'.t=t∧e'.x.id≤1099511627776∧e'.x.last≤1099511627776∧σ'.io.R.tail≤bT∧EL'.length≤bL∧σ'.p.wr≤bW∧xr≤σ'.io.R.room c.n∧R=(0,σ')∧Foot (sfoot S1 vl vo EO K) (sfoot S1' vl' vo EO' K) w wr:=fun hst=>
  ⟨rfl,σ0,vl0,EL0,EO0,e0,S10,hs,hei,het,hid,hla,by omega,by omega,by omega,by omega,by rw[←hun];exact undo_stop c i mark k σ0 e0.x (hs.oat hei) hst,hft⟩
 have HSTOP:=Lib.hid stop
 have hupl:=hta.ups
 clear hs hei het hlen htxp hroom hid hla hfst htl hll hww hun hft hta hvu stop be hmem
 rcases k with _|k
 ·have hz:e0.x.l.getLast? = none:=by
   have:=HLEN.out
   rw[hupl,List.eq_nil_of_length_eq_zero this];rfl
  have HZ:=Lib.hid hz
  clear hz hupl
  go_wp2_with fail
  simp only[Exit.jump]
  go_ret
  exact⟨rfl,(HSTOP.out (.inl HZ.out)).2⟩
 have hkb:k≤1000000:=by have:=HLL.out;omega
 obtain⟨u,hue⟩:∃u,e0.EU[k]? = some u:=⟨_,List.getElem?_eq_getElem (by rw[HLEN.out];omega)⟩
 have hgl:e0.x.l.getLast? = some u.1:=by
  rw[hupl,List.getLast?_map,List.getLast?_eq_getElem?,HLEN.out,Nat.add_sub_cancel,hue];rfl
 have HUE:=Lib.hid hue
 have HGL:=Lib.hid hgl
 have hrow:=HTA.out.row
 rw[HLEN.out]at hrow
 obtain⟨gu,cu2,e1,_,hcu⟩:=own_slice hrow (by omega)
 have e2:=e1
 rw[HVU.out]at e2
 injection e2 with e3' e4 e5
 subst e3'
 subst e5
 rw[e1]at hrow
 have hix:=fun i hi=>flat_ix (f:=ucell) (k:=5) (fun _=>rfl) e0.EU k u hue i hi
 obtain⟨a2,c2,hv2,_⟩:=(HTA.out.tb u (List.mem_of_getElem? hue)).1
 have k0:=own_at hrow (k*5+0) _ ((hix 0 (by decide)).trans rfl)
 have k1:=own_at hrow (k*5+1) _ ((hix 1 (by decide)).trans rfl)
 have k2:=own_at hrow (k*5+2) _ ((hix 2 (by decide)).trans rfl)
 have k3:=own_at hrow (k*5+3) _ ((hix 3 (by decide)).trans rfl)
 have k4:=own_at hrow (k*5+4) _ ((hix 4 (by decide)).trans rfl)
 rw[hv2]at k4
 simp only[Nat.add_zero]at k0
 have HROW:=Lib.hid hrow
 have HV2:=Lib.hid hv2
 have hg0:decide ((k:Int)<0)=false:=by simp
 clear hupl hue hgl e1 e4 hix hrow hv2
 by_cases hmm:u.1.lsn≤mark
 ·have hm1:decide ((u.1.lsn:Int)≤(mark:Int))=true:=by simpa using hmm
  have hm2:decide (u.1.lsn≤mark)=true:=by simpa using hmm
  have HMM:=Lib.hid hmm
  clear hmm
  go_wp2_with fail
  simp only[Exit.jump]
  go_ret
  exact⟨rfl,(HSTOP.out (.inr ⟨u.1,HGL.out,HMM.out⟩)).2⟩
 have hm1:decide ((u.1.lsn:Int)≤(mark:Int))=false:=by simpa using hmm
 have hm2:decide (u.1.lsn≤mark)=false:=by simpa using hmm
 have HMM:=Lib.hid hmm
 clear hmm HSTOP
 obtain⟨mb,hmb⟩:∃x,u.1.before.length=x:=⟨_,rfl⟩
 rw[hmb]at k4
 have HMB:=Lib.hid hmb
 obtain⟨y1,hy1⟩:∃x,u.1.lsn=x:=⟨_,rfl⟩
 obtain⟨y2,hy2⟩:∃x,u.1.prev=x:=⟨_,rfl⟩
 obtain⟨y3,hy3⟩:∃x,u.1.page=x:=⟨_,rfl⟩
 obtain⟨y4,hy4⟩:∃x,u.1.off=x:=⟨_,rfl⟩
 rw[hy1]at k0 hm1 hm2
 rw[hy2]at k1
 rw[hy3]at k2
 rw[hy4]at k3
 have HY1:=Lib.hid hy1
 have HY2:=Lib.hid hy2
 have HY3:=Lib.hid hy3
 have HY4:=Lib.hid hy4
 clear hmb hy1 hy2 hy3 hy4
 go_upto_region 5 with (fail)
 have hal:=(Below.refl wr.heap.size wr).alloc (Nat.le_refl _) (.cells #[.int .i64 (y1:Nat),.int .i64 (y2:Nat),.int .i64 (y3:Nat),.int .i64 (y4:Nat),.slice a2 mb c2] 114)
 have hbu:=Box.new wr #[.int .i64 (y1:Nat),.int .i64 (y2:Nat),.int .i64 (y3:Nat),.int .i64 (y4:Nat),.slice a2 mb c2] 114 rfl
 obtain⟨t8,ht8⟩:∃x,wr.heap.size=x:=⟨_,rfl⟩
 rw[ht8]at hbu⊢
 have HT8:=Lib.hid ht8
 have HS1:=Lib.hid (HS.out.below hal)
 have hbe1:=HBE.out.below hal (Nat.le_refl _)
 have HAL:=Lib.hid hal
 generalize wr.alloc (.cells #[.int .i64 (y1:Nat),.int .i64 (y2:Nat),.int .i64 (y3:Nat),.int .i64 (y4:Nat),.slice a2 mb c2] 114)=w1 at *
 have be:Box w1 t [.int .i64 (e0.x.id:Nat),.int .i64 (e0.x.first:Nat),.int .i64 (e0.x.last:Nat),.slice (some ⟨gu,0,none⟩) (k+1) cu]:=hbe1
 have bu:Box w1 t8 [.int .i64 (y1:Nat),.int .i64 (y2:Nat),.int .i64 (y3:Nat),.int .i64 (y4:Nat),.slice a2 mb c2]:=hbu
 have hB:Below w1.heap.size w1 w1:=Below.refl _ _
 clear k0 k1 k2 k3 k4 b3 blt hbu hbe1 hal ht8 hm1 hm2 hg0
 refine wp_region_partsDV (WSUn5 e0 t t8 k gu cu y1 y2 y3 y4 mb c2 (w1.heap.size) a2) 18 bSUn5 [some 40,some 41,some 42,some 43,some 44,some 45,some 46,some 47,some 48,some 49,some 50,some 51,some 52,some 53,some 54,some 55,some 56,some 9,none] [[],[0],[1],[2],[],[4],[5],[6],[],[8],[],[10],[],[12],[],[14],[3,7,9,11,13,15],[]] [0,1,2,3,4,5,6,7,8,9,10,11,12,13,14,15,16,17] [] (by decide) (by kernel_rfl) (by kernel_rfl) rfl (PSUn5 e0 t t8 k gu cu y1 y2 y3 y4 mb c2 (w1.heap.size) a2) (PSUn5_cong e0 t t8 k gu cu y1 y2 y3 y4 mb c2 (w1.heap.size) a2) (PSUn5_stable e0 t t8 k gu cu y1 y2 y3 y4 mb c2 (w1.heap.size) a2) ?pSUn5 ?_
 case pSUn5=>
  intro i hi o ho vs lo hx_ w' hg hp hdd
  match i,hi with
  | 0,_|4,_|8,_|10,_|12,_|14,_=>
   obtain rfl:=Option.some.inj ho
   clear ho
   simp only[actsD,Act.put,actL]
   have hsz:=hg.size
   have hgB:Below w1.heap.size w1 w':=hg.below (fun k hk=>⟨hk,fun o=>by rintro⟨j,_,_,_,hw⟩;exact False.elim hw⟩)
   go_wp2
   exact⟨_,rfl,GrowC.refl _,rfl⟩
  | 1,_=>
   obtain rfl:=Option.some.inj ho
   clear ho
   simp only[actsD,Act.put,actL]
   obtain⟨_,_,_,h0⟩:=hp 0 (by simp)
   simp only[PSUn5]at h0
   have hsz:=hg.size
   have hgB:Below w1.heap.size w1 w':=hg.below (fun k hk=>⟨hk,fun o=>by rintro⟨j,_,_,_,hw⟩;exact False.elim hw⟩)
   rw[h0]
   go_wp2
   exact⟨_,rfl,GrowC.refl _,rfl⟩
  | 2,_=>
   obtain rfl:=Option.some.inj ho
   clear ho
   simp only[actsD,Act.put,actL]
   obtain⟨_,_,_,h1⟩:=hp 1 (by simp)
   simp only[PSUn5]at h1
   have hsz:=hg.size
   have hgB:Below w1.heap.size w1 w':=hg.below (fun k hk=>⟨hk,fun o=>by rintro⟨j,_,_,_,hw⟩;exact False.elim hw⟩)
   rw[h1]
   go_wp2
   exact⟨_,rfl,GrowC.refl _,rfl⟩
  | 3,_=>
   obtain rfl:=Option.some.inj ho
   clear ho
   simp only[actsD,Act.put,actL]
   obtain⟨_,_,_,h2⟩:=hp 2 (by simp)
   simp only[PSUn5]at h2
   have hsz:=hg.size
   have hgB:Below w1.heap.size w1 w':=hg.below (fun k hk=>⟨hk,fun o=>by rintro⟨j,_,_,_,hw⟩;exact False.elim hw⟩)
   rw[h2]
   have e0:=(hg.cell (t) 0 be.lt (by rintro⟨j,_,hne,hb,hw⟩;exact False.elim hw)).trans (be.cell 0 _ rfl)
   go_wp2
   exact⟨_,rfl,GrowC.refl _,rfl⟩
  | 5,_=>
   obtain rfl:=Option.some.inj ho
   clear ho
   simp only[actsD,Act.put,actL]
   obtain⟨_,_,_,h4⟩:=hp 4 (by simp)
   simp only[PSUn5]at h4
   have hsz:=hg.size
   have hgB:Below w1.heap.size w1 w':=hg.below (fun k hk=>⟨hk,fun o=>by rintro⟨j,_,_,_,hw⟩;exact False.elim hw⟩)
   rw[h4]
   go_wp2
   exact⟨_,rfl,GrowC.refl _,rfl⟩
  | 6,_=>
   obtain rfl:=Option.some.inj ho
   clear ho
   simp only[actsD,Act.put,actL]
   obtain⟨_,_,_,h5⟩:=hp 5 (by simp)
   simp only[PSUn5]at h5
   have hsz:=hg.size
   have hgB:Below w1.heap.size w1 w':=hg.below (fun k hk=>⟨hk,fun o=>by rintro⟨j,_,_,_,hw⟩;exact False.elim hw⟩)
   rw[h5]
   go_wp2
   exact⟨_,rfl,GrowC.refl _,rfl⟩
  | 7,_=>
   obtain rfl:=Option.some.inj ho
   clear ho
   simp only[actsD,Act.put,actL]
   obtain⟨_,_,_,h6⟩:=hp 6 (by simp)
   simp only[PSUn5]at h6
   have hsz:=hg.size
   have hgB:Below w1.heap.size w1 w':=hg.below (fun k hk=>⟨hk,fun o=>by rintro⟨j,_,_,_,hw⟩;exact False.elim hw⟩)
   rw[h6]
   have e0:=(hg.cell (t) 2 be.lt (by rintro⟨j,_,hne,hb,hw⟩;exact False.elim hw)).trans (be.cell 2 _ rfl)
   go_wp2
   exact⟨_,rfl,GrowC.refl _,rfl⟩
  | 9,_=>
   obtain rfl:=Option.some.inj ho
   clear ho
   simp only[actsD,Act.put,actL]
   obtain⟨_,_,_,h8⟩:=hp 8 (by simp)
   simp only[PSUn5]at h8
   have hsz:=hg.size
   have hgB:Below w1.heap.size w1 w':=hg.below (fun k hk=>⟨hk,fun o=>by rintro⟨j,_,_,_,hw⟩;exact False.elim hw⟩)
   rw[h8]
   have e0:=(hg.cell (t8) 2 bu.lt (by rintro⟨j,_,hne,hb,hw⟩;exact False.elim hw)).trans (bu.cell 2 _ rfl)
   go_wp2
   exact⟨_,rfl,GrowC.refl _,rfl⟩
  | 11,_=>
   obtain rfl:=Option.some.inj ho
   clear ho
   simp only[actsD,Act.put,actL]
   obtain⟨_,_,_,h10⟩:=hp 10 (by simp)
   simp only[PSUn5]at h10
   have hsz:=hg.size
   have hgB:Below w1.heap.size w1 w':=hg.below (fun k hk=>⟨hk,fun o=>by rintro⟨j,_,_,_,hw⟩;exact False.elim hw⟩)
   rw[h10]
   have e0:=(hg.cell (t8) 3 bu.lt (by rintro⟨j,_,hne,hb,hw⟩;exact False.elim hw)).trans (bu.cell 3 _ rfl)
   go_wp2
   exact⟨_,rfl,GrowC.refl _,rfl⟩
  | 13,_=>
   obtain rfl:=Option.some.inj ho
   clear ho
   simp only[actsD,Act.put,actL]
   obtain⟨_,_,_,h12⟩:=hp 12 (by simp)
   simp only[PSUn5]at h12
   have hsz:=hg.size
   have hgB:Below w1.heap.size w1 w':=hg.below (fun k hk=>⟨hk,fun o=>by rintro⟨j,_,_,_,hw⟩;exact False.elim hw⟩)
   rw[h12]
   have e0:=(hg.cell (t8) 4 bu.lt (by rintro⟨j,_,hne,hb,hw⟩;exact False.elim hw)).trans (bu.cell 4 _ rfl)
   go_wp2
   exact⟨_,rfl,GrowC.refl _,rfl⟩
  | 15,_=>
   obtain rfl:=Option.some.inj ho
   clear ho
   simp only[actsD,Act.put,actL]
   obtain⟨_,_,_,h14⟩:=hp 14 (by simp)
   simp only[PSUn5]at h14
   have hsz:=hg.size
   have hgB:Below w1.heap.size w1 w':=hg.below (fun k hk=>⟨hk,fun o=>by rintro⟨j,_,_,_,hw⟩;exact False.elim hw⟩)
   rw[h14]
   have e0:=(hg.cell (t8) 1 bu.lt (by rintro⟨j,_,hne,hb,hw⟩;exact False.elim hw)).trans (bu.cell 1 _ rfl)
   go_wp2
   exact⟨_,rfl,GrowC.refl _,rfl⟩
  | 16,_=>
   obtain rfl:=Option.some.inj ho
   clear ho
   simp only[actsD,Act.put,actL]
   obtain⟨_,_,_,h3⟩:=hp 3 (by simp)
   simp only[PSUn5]at h3
   obtain⟨_,_,_,h7⟩:=hp 7 (by simp)
   simp only[PSUn5]at h7
   obtain⟨_,_,_,h9⟩:=hp 9 (by simp)
   simp only[PSUn5]at h9
   obtain⟨_,_,_,h11⟩:=hp 11 (by simp)
   simp only[PSUn5]at h11
   obtain⟨_,_,_,h13⟩:=hp 13 (by simp)
   simp only[PSUn5]at h13
   obtain⟨_,_,_,h15⟩:=hp 15 (by simp)
   simp only[PSUn5]at h15
   have hsz:=hg.size
   have hgB:Below w1.heap.size w1 w':=hg.below (fun k hk=>⟨hk,fun o=>by rintro⟨j,_,_,_,hw⟩;exact False.elim hw⟩)
   rw[h3,h7,h9,h11,h13,h15]
   go_wp2
   exact⟨_,rfl,GrowC.refl _,rfl⟩
  | 17,_=>
   obtain rfl:=Option.some.inj ho
   clear ho
   simp only[actsD,Act.put,actL]
   have hsz:=hg.size
   have hgB:Below w1.heap.size w1 w':=hg.below (fun k hk=>⟨hk,fun o=>by rintro⟨j,_,_,_,hw⟩;exact False.elim hw⟩)
   have hbl:=(Below.refl w'.heap.size w').alloc (Nat.le_refl _) (.cells #[.int .i64 0,.int .i64 0,.int .i64 0,.int .i64 0,.int .i64 0,.int .i64 0,.slice none 0 0,.slice none 0 0,.slice none 0 0,.slice none 0 0,.int .i64 0] 85)
   have hbn:=Box.new w' #[.int .i64 0,.int .i64 0,.int .i64 0,.int .i64 0,.int .i64 0,.int .i64 0,.slice none 0 0,.slice none 0 0,.slice none 0 0,.slice none 0 0,.int .i64 0] 85 rfl
   go_wp2
   exact⟨_,rfl,GrowC.of_grow ⟨hbl.os,hbl.tape,hbl.output,hbl.size,hbl.block⟩,_,rfl,hgB.size,hbn⟩
  | (q+18),hq=>exact absurd hq (by omega)
 intro vS lo hi z3 hg hp hd
 obtain⟨_,_,_,h0⟩:=hp 0 (by decide)
 replace h0:=h0 (by decide)
 obtain⟨_,_,_,h1⟩:=hp 1 (by decide)
 replace h1:=h1 (by decide)
 obtain⟨_,_,_,h2⟩:=hp 2 (by decide)
 replace h2:=h2 (by decide)
 obtain⟨_,_,_,h3⟩:=hp 3 (by decide)
 replace h3:=h3 (by decide)
 obtain⟨_,_,_,h4⟩:=hp 4 (by decide)
 replace h4:=h4 (by decide)
 obtain⟨_,_,_,h5⟩:=hp 5 (by decide)
 replace h5:=h5 (by decide)
 obtain⟨_,_,_,h6⟩:=hp 6 (by decide)
 replace h6:=h6 (by decide)
 obtain⟨_,_,_,h7⟩:=hp 7 (by decide)
 replace h7:=h7 (by decide)
 obtain⟨_,_,_,h8⟩:=hp 8 (by decide)
 replace h8:=h8 (by decide)
 obtain⟨_,_,_,h9⟩:=hp 9 (by decide)
 replace h9:=h9 (by decide)
 obtain⟨_,_,_,h10⟩:=hp 10 (by decide)
 replace h10:=h10 (by decide)
 obtain⟨_,_,_,h11⟩:=hp 11 (by decide)
 replace h11:=h11 (by decide)
 obtain⟨_,_,_,h12⟩:=hp 12 (by decide)
 replace h12:=h12 (by decide)
 obtain⟨_,_,_,h13⟩:=hp 13 (by decide)
 replace h13:=h13 (by decide)
 obtain⟨_,_,_,h14⟩:=hp 14 (by decide)
 replace h14:=h14 (by decide)
 obtain⟨_,_,_,h15⟩:=hp 15 (by decide)
 replace h15:=h15 (by decide)
 obtain⟨_,_,_,h16⟩:=hp 16 (by decide)
 replace h16:=h16 (by decide)
 obtain⟨_,_,_,h17⟩:=hp 17 (by decide)
 replace h17:=h17 (by decide)
 simp only[PSUn5]at h0 h1 h2 h3 h4 h5 h6 h7 h8 h9 h10 h11 h12 h13 h14 h15 h16 h17
 clear hp hd
 have hsz:=hg.size
 replace be:=be.grow hg (by intro i _;rintro⟨j,_,hw⟩;exact False.elim hw)
 replace bu:=bu.grow hg (by intro i _;rintro⟨j,_,hw⟩;exact False.elim hw)
 replace hB:=hB.trans (hg.below (fun k hk=>⟨by omega,fun o=>by rintro⟨j,_,hw⟩;exact False.elim hw⟩))
 have hr:List.range 18=[0,1,2,3,4,5,6,7,8,9,10,11,12,13,14,15,16,17]:=rfl
 rw[hr]
 clear hr
 simp only[List.drop_succ_cons,List.drop_zero,List.drop_nil,actsD,Act.put,actL,h0,h1,h2,h3,h4,h5,h6,h7,h8,h9,h10,h11,h12,h13,h14,h15,h16]
 clear h0 h1 h2 h3 h4 h5 h6 h7 h8 h9 h10 h11 h12 h13 h14 h15 h16
 obtain⟨g9,h17a,h17b,h17c⟩:=h17
 rw[h17a]
 have HB5:=Lib.hid hB
 have HBX:=Lib.hid h17c
 have HG9:=Lib.hid h17b
 have z0:=h17c.cell 0 _ rfl
 have z1:=h17c.cell 1 _ rfl
 have z2:=h17c.cell 2 _ rfl
 have z3':=h17c.cell 3 _ rfl
 have z4:=h17c.cell 4 _ rfl
 have z5:=h17c.cell 5 _ rfl
 have z6:=h17c.cell 6 _ rfl
 have z7:=h17c.cell 7 _ rfl
 have z8:=h17c.cell 8 _ rfl
 have z9:=h17c.cell 9 _ rfl
 have z10:=h17c.cell 10 _ rfl
 have zfz:=h17c.free
 have zlt:=h17c.lt
 clear h17a h17b h17c hB hg hsz be bu
 go_upto_region 6 with (fail)
 obtain⟨hp1,hp2⟩:=put11 HBX.out (.int .i64 3) (.int .i64 (e0.x.id:Nat)) (.int .i64 (e0.x.last:Nat)) (.int .i64 (y2:Nat)) (.int .i64 (y3:Nat)) (.int .i64 (y4:Nat)) (.slice none 0 0) (.slice a2 mb c2) (.slice none 0 0) (.slice none 0 0) (.int .i64 0)
 have HP1:=Lib.hid hp1
 have HP2:=Lib.hid hp2
 clear z0 z1 z2 z3' z4 z5 z6 z7 z8 z9 z10 zfz zlt hp1 hp2
 generalize (((((((((((z3.setCell ⟨g9,0,none⟩ (.int .i64 3)).setCell ⟨g9,1,none⟩ (.int .i64 (e0.x.id:Nat))).setCell ⟨g9,2,none⟩ (.int .i64 (e0.x.last:Nat))).setCell ⟨g9,3,none⟩ (.int .i64 (y2:Nat))).setCell ⟨g9,4,none⟩ (.int .i64 (y3:Nat))).setCell ⟨g9,5,none⟩ (.int .i64 (y4:Nat))).setCell ⟨g9,6,none⟩ (.slice none 0 0)).setCell ⟨g9,7,none⟩ (.slice a2 mb c2)).setCell ⟨g9,8,none⟩ (.slice none 0 0)).setCell ⟨g9,9,none⟩ (.slice none 0 0)).setCell ⟨g9,10,none⟩ (.int .i64 0))=y4w at *
 have hgy:GrowX (fun k=>k=g9) w1 y4w:=(grow_no HB5.out).trans HP2.out
 have hgyb:Below w1.heap.size w1 y4w:=hgy.below (fun k hk=>⟨hk,fun h=>by have:=HG9.out;omega⟩)
 have hs4:=HS1.out.below hgyb
 have HS4:=Lib.hid hs4
 have HGY:=Lib.hid hgyb
 have r0:=HP1.out.cell 0 _ rfl
 have r1:=HP1.out.cell 1 _ rfl
 have r2:=HP1.out.cell 2 _ rfl
 have r3:=HP1.out.cell 3 _ rfl
 have r4:=HP1.out.cell 4 _ rfl
 have r5:=HP1.out.cell 5 _ rfl
 have r6:=HP1.out.cell 6 _ rfl
 have r7:=HP1.out.cell 7 _ rfl
 have r8:=HP1.out.cell 8 _ rfl
 have r9:=HP1.out.cell 9 _ rfl
 have r10:=HP1.out.cell 10 _ rfl
 have rlt:=HP1.out.lt
 have hup:=HTXP.out u (List.mem_of_getElem? HUE.out)
 rw[HMB.out,HY1.out,HY2.out,HY3.out,HY4.out]at hup
 have HUP:=Lib.hid hup
 have hcr:clrR e0.x u.1=({ Rc.zero with kind:=3,txn:=e0.x.id,prev:=e0.x.last,page:=y3,off:=y4,after:=u.1.before,next:=y2 }:Rc):=by unfold clrR;rw[HY2.out,HY3.out,HY4.out]
 have HCR:=Lib.hid hcr
 have hsm:Rc.small ({ Rc.zero with kind:=3,txn:=e0.x.id,prev:=e0.x.last,page:=y3,off:=y4,after:=u.1.before,next:=y2 }:Rc):=⟨by show(3:Nat)≤_;omega,by show e0.x.id≤_;have:=HID.out;omega,by show e0.x.last≤_;have:=HLA.out;omega,by show y2≤_;omega,by show y3≤_;have:=HPP.out;omega,by show y4≤_;omega,Nat.zero_le _,Nat.zero_le _,by show u.1.before.length≤_;rw[HMB.out];omega,rfl,rfl⟩
 have HSM:=Lib.hid hsm
 have hsz2:Rc.size ({ Rc.zero with kind:=3,txn:=e0.x.id,prev:=e0.x.last,page:=y3,off:=y4,after:=u.1.before,next:=y2 }:Rc)=96+mb:=by show 96+0+u.1.before.length+24*0+16*0=_;rw[HMB.out];omega
 have HSZ:=Lib.hid hsz2
 have hmemE:=List.mem_of_getElem? HEI.out
 have hsec:=(HS4.out.tx.at_ e0 hmemE).tb u (List.mem_of_getElem? HUE.out)
 rw[HV2.out,HMB.out]at hsec
 have hupA:upsA e0.EU=upsA (e0.EU.take k)+(96+mb):=by
  have h1:=sum_take_succ (fun u:Up×Value=>96+u.1.before.length) e0.EU k u HUE.out
  rw[List.take_of_length_le (by have:=HLEN.out;omega)]at h1
  rw[←HMB.out]
  exact h1
 have HUPA:=Lib.hid hupA
 have hlay:=lay_at hs4 ({ Rc.zero with kind:=3,txn:=e0.x.id,prev:=e0.x.last,page:=y3,off:=y4,after:=u.1.before,next:=y2 }:Rc) HSM.out none a2 0 0 mb c2 rfl HMB.out ⟨none,0,rfl,rfl,Nat.le_refl _,fun h=>absurd h (by omega)⟩ (by have:=hsec.1;rw[HMB.out]at this;exact this) (by rw[HSZ.out];have:=HROOM.out;omega) (by rw[HSZ.out];have:=HTL.out;omega) (by have:=HLL.out;omega) K (fun q e1=>by cases e1) hsec.2 HS4.out.kin HS4.out.k1 HS4.out.k2 HS4.out.k3
 rw[show(fun k=>K k∨K k)=K from by funext k;simp]at hlay
 have HLAY:=Lib.hid hlay
 clear hgy hgyb hs4 hup hcr hsm hsz2 hmemE hsec hupA hlay
 go_wp2_with fail
 refine HLAY.out.mono ?_
 rintro er y8 ⟨vl8,S8,rfl,hs8,hg8,hn8,hv8⟩
 have HG8:=Lib.hid hg8
 have HN8:=Lib.hid hn8
 have HV8:=Lib.hid hv8
 have HS8:=Lib.hid hs8
 obtain⟨T,hT⟩:∃x,σ0.io.R.tail=x:=⟨_,rfl⟩
 rw[hT]
 have HTT:=Lib.hid hT
 have hmemE:=List.mem_of_getElem? HEI.out
 have be8':Box y8 t [.int .i64 (e0.x.id:Nat),.int .i64 (e0.x.first:Nat),.int .i64 (e0.x.last:Nat),.slice (some ⟨gu,0,none⟩) (k+1) cu]:=by
  have h1:=(hs8.tx.at_ e0 hmemE).box
  rw[HET.out]at h1
  have h2:e0.vu=.slice (some ⟨gu,0,none⟩) (k+1) cu:=HVU.out
  rw[←h2];exact h1
 have HBE8:=Lib.hid be8'
 have c2':=be8'.cell 2 _ rfl
 have cfz:=be8'.free
 have clt:=be8'.lt
 clear hg8 hn8 hv8 hs8 hT hmemE be8' r0 r1 r2 r3 r4 r5 r6 r7 r8 r9 r10 rlt
 go_upto_region 10 with (fail)
 rw[show(Value.int .i64 ((T:Int)+1))=Value.int .i64 ((T+1:Nat):Int)from rfl]
 have be6:=HBE8.out.setCell 2 (.int .i64 ((T+1:Nat):Int))
 have hg6:=growX_setCell y8 t 2 (.int .i64 ((T+1:Nat):Int))
 have HG6:=Lib.hid hg6
 clear c2' cfz clt hg6
 generalize y8.setCell ⟨t,2,none⟩ (.int .i64 ((T+1:Nat):Int))=z6 at *
 have HBE6:Hid (Box z6 t [.int .i64 (e0.x.id:Nat),.int .i64 (e0.x.first:Nat),.int .i64 ((T+1:Nat):Int),.slice (some ⟨gu,0,none⟩) (k+1) cu]):=Lib.hid be6
 have c3':=HBE6.out.cell 3 _ rfl
 have cfz:=HBE6.out.free
 have clt:=HBE6.out.lt
 have hcu0:¬cu=0:=by omega
 have hkc:k≤cu:=by omega
 clear be6
 go_upto_region 11 with (fail)
 have be7:Box (z6.setCell ⟨t,3,none⟩ (.slice (some ⟨gu,0,none⟩) k cu)) t [.int .i64 (e0.x.id:Nat),.int .i64 (e0.x.first:Nat),.int .i64 ((T+1:Nat):Int),.slice (some ⟨gu,0,none⟩) k cu]:=HBE6.out.setCell 3 (.slice (some ⟨gu,0,none⟩) k cu)
 have hg7:=HG6.out.trans (growX_setCell z6 t 3 (.slice (some ⟨gu,0,none⟩) k cu))
 clear c3' cfz clt hcu0 hkc
 generalize z6.setCell ⟨t,3,none⟩ (.slice (some ⟨gu,0,none⟩) k cu)=z7 at *
 have hmemE:=List.mem_of_getElem? HEI.out
 have hta8:=HS8.out.tx.at_ e0 hmemE
 have hvue:e0.vu=.slice (some ⟨gu,0,none⟩) (k+1) cu:=HVU.out
 have hfp7:GrowX e0.fp y8 z7:=hg7.mono (fun b e1=>.inl (e1.trans HET.out.symm))
 have hlk:(e0.EU.take k).length=k:=by rw[List.length_take,HLEN.out];omega
 have htx:TxAt W0 z7 (⟨t,{ e0.x with last:=T+1,l:=e0.x.l.dropLast },.slice (some ⟨gu,0,none⟩) k cu,e0.EU.take k⟩:Te) K:=by
  refine⟨be7,?_,?_,?_,?_,?_⟩
  ·have h1:=own_growx hta8.row hg7 (fun q e1 e2=>hta8.ne q e1 (e2.trans HET.out.symm))
   rw[HLEN.out,hvue]at h1
   have h2:=own_take (m:=k) h1 (by omega) (by omega)
   rw[show ucells e0.EU=e0.EU.flatMap ucell from rfl,flat_take (f:=ucell) (k:=5) (fun _=>rfl)]at h2
   show z7.ownsRow W0.heap.size _ 5 (.slice (some ⟨gu,0,none⟩) k cu) (e0.EU.take k).length (ucells (e0.EU.take k))
   rw[hlk]
   exact h2
  ·show e0.x.l.dropLast=(e0.EU.take k).map _
   rw[hta8.ups,List.dropLast_eq_take,List.length_map,HLEN.out,Nat.add_sub_cancel,List.map_take]
  ·intro u' hu'
   exact(hta8.tb u' (List.mem_of_mem_take hu')).grow hg7 (fun q hq e2=>HS8.out.k3 q hq (.inr ⟨e0,hmemE,.inl (e2.trans HET.out.symm)⟩))
  ·show W0.heap.size≤t
   rw[←HET.out];exact hta8.gt
  ·intro q e1 e2
   have e3:gu=q:=by simpa[Value.ownBlock]using e1
   subst e3
   exact hta8.ne gu (by rw[hvue];rfl) (e2.trans HET.out.symm)
 have hown:∀q,(Value.slice (some ⟨gu,0,none⟩) k cu).ownBlock=some q→e0.vu.ownBlock=some q:=fun q e1=>by
  have e3:gu=q:=by simpa[Value.ownBlock]using e1
  rw[hvue,←e3];rfl
 have hnew:∀q,TxFoot vo (EO0.set i (⟨t,{ e0.x with last:=T+1,l:=e0.x.l.dropLast },.slice (some ⟨gu,0,none⟩) k cu,e0.EU.take k⟩:Te)) q→TxFoot vo EO0 q∨y8.heap.size≤q:=by
  intro q hq
  rcases hq.set with hq|hq
  ·exact .inl hq
  ·rcases hq with hq|hq
   ·exact .inl (.inr ⟨e0,hmemE,.inl (hq.trans HET.out.symm)⟩)
   ·exact .inl (.inr ⟨e0,hmemE,.inr (hown q hq)⟩)
 have hs9:=HS8.out.txs hfp7 (fun q hq=>.inl (.inr ⟨e0,hmemE,hq⟩)) (HS8.out.tx.setAt HEI.out hfp7 (fun q hq h=>HS8.out.k3 q hq (.inr ⟨e0,hmemE,h⟩)) htx HET.out.symm (fun q e1=>.inl (hown q e1))) hnew
 have e2:(EO0.set i (⟨t,{ e0.x with last:=T+1,l:=e0.x.l.dropLast },.slice (some ⟨gu,0,none⟩) k cu,e0.EU.take k⟩:Te)).map (·.x)=σ0.opn.set i { e0.x with last:=T+1,l:=e0.x.l.dropLast }:=by rw[List.map_set,←HS.out.ois]
 rw[e2]at hs9
 have HS9:=Lib.hid hs9
 have HF9:Hid (Foot (sfoot S8 vl8 vo EO0 K) (sfoot S8 vl8 vo (EO0.set i (⟨t,{ e0.x with last:=T+1,l:=e0.x.l.dropLast },.slice (some ⟨gu,0,none⟩) k cu,e0.EU.take k⟩:Te)) K) y8 z7):=Lib.hid (sfoot_foot (hfp7.mono (fun q hq=>.inr (.inr (.inl (.inr ⟨e0,hmemE,hq⟩))))) (fun q h=>.inl h) (fun q h=>.inl h) hnew (fun q h=>.inl h))
 have hl19:=HS1.out.lt
 have hg9a:=HG9.out
 have hbx9:=(HP1.out.growx HG8.out (fun h=>by
  rcases h with h|h
  ·have:=(hl19 _ (.inl h)).2;omega
  ·have:=(hl19 _ (.inr (.inl h))).2;omega)).growx hg7 (fun h=>by
  have:=HBE.out.lt
  have:=HAL.out.size
  omega)
 have r0:=hbx9.cell 0 _ rfl
 have r1:=hbx9.cell 1 _ rfl
 have r2:=hbx9.cell 2 _ rfl
 have r3:=hbx9.cell 3 _ rfl
 have r4:=hbx9.cell 4 _ rfl
 have r5:=hbx9.cell 5 _ rfl
 have r6:=hbx9.cell 6 _ rfl
 have r7:=hbx9.cell 7 _ rfl
 have r8:=hbx9.cell 8 _ rfl
 have r9:=hbx9.cell 9 _ rfl
 have r10:=hbx9.cell 10 _ rfl
 have rlt:=hbx9.lt
 have hup:=HUP.out
 have hsec:=(hs9.ln.tb _ (List.mem_append_right _ (List.mem_singleton_self _))).2
 have happ:=apply_at hs9 ({ Rc.zero with kind:=3,txn:=e0.x.id,prev:=e0.x.last,page:=y3,off:=y4,after:=u.1.before,next:=y2 }:Rc) none a2 0 0 mb c2 HMB.out (by have:=hsec.1;rw[show(({ Rc.zero with kind:=3,txn:=e0.x.id,prev:=e0.x.last,page:=y3,off:=y4,after:=u.1.before,next:=y2 }:Rc):Rc).after.length=mb from HMB.out]at this;exact this) (fun q e1=>⟨fun h=>hs9.k1 q (hsec.2 q e1) h,(hs9.kin q (hsec.2 q e1)).2⟩) (by show y3<c.pg;omega) (by show y4+mb≤504;omega) (T+1) (by omega) (by have:=HTL.out;have:=HTT.out;omega) (by show σ0.p.wr+2≤_;have:=HWW.out;omega)
 have HAP:=Lib.hid happ
 have hpl:=apply_plain hs9 ({ Rc.zero with kind:=3,txn:=e0.x.id,prev:=e0.x.last,page:=y3,off:=y4,after:=u.1.before,next:=y2 }:Rc) (by show y3<c.pg;omega) (by show y4+u.1.before.length≤504;rw[HMB.out];omega) (T+1) (by omega) (by show σ0.p.wr+1≤_;have:=HWW.out;omega)
 have HPL:=Lib.hid hpl
 have HLK:=Lib.hid hlk
 clear be7 hg7 hmemE hta8 hvue hfp7 hlk htx hown hnew hs9 e2 hl19 hg9a hbx9 hup hsec happ hpl
 go_wp2_with fail
 refine HAP.out.mono ?_
 rintro er y9 ⟨S9,rfl,hs9,hf9⟩
 have HS10:=Lib.hid hs9
 have HF10:=Lib.hid hf9
 clear r0 r1 r2 r3 r4 r5 r6 r7 r8 r9 r10 rlt hs9 hf9
 go_wp2_with fail
 go_step3
 have hencl:(Rc.enc ({ Rc.zero with kind:=3,txn:=e0.x.id,prev:=e0.x.last,page:=y3,off:=y4,after:=u.1.before,next:=y2 }:Rc)).length=96+mb:=by rw[enc_len ({ Rc.zero with kind:=3,txn:=e0.x.id,prev:=e0.x.last,page:=y3,off:=y4,after:=u.1.before,next:=y2 }:Rc) rfl rfl,HSZ.out]
 have hap1:=HPL.out.1
 have hap2:=HPL.out.2
 have huR:undoS c σ0 i e0.x u.1=(St.apply c ({ σ0 with io:={ σ0.io with R:=σ0.io.R.app (Rc.enc ({ Rc.zero with kind:=3,txn:=e0.x.id,prev:=e0.x.last,page:=y3,off:=y4,after:=u.1.before,next:=y2 }:Rc)) },lines:=σ0.lines++[(σ0.io.R.tail+1,({ Rc.zero with kind:=3,txn:=e0.x.id,prev:=e0.x.last,page:=y3,off:=y4,after:=u.1.before,next:=y2 }:Rc))],opn:=σ0.opn.set i { e0.x with last:=T+1,l:=e0.x.l.dropLast } }:St) ({ Rc.zero with kind:=3,txn:=e0.x.id,prev:=e0.x.last,page:=y3,off:=y4,after:=u.1.before,next:=y2 }:Rc) (T+1)).2:=by
  unfold undoS;rw[HCR.out,HTT.out]
 have hroomA:=HROOM.out
 have hupa:=HUPA.out
 have htla:=HTL.out
 have htt:=HTT.out
 refine⟨rfl,k,by omega,UndoJ.intro rfl ⟨undoS c σ0 i e0.x u.1,vl8,_,EO0.set i (⟨t,{ e0.x with last:=T+1,l:=e0.x.l.dropLast },.slice (some ⟨gu,0,none⟩) k cu,e0.EU.take k⟩:Te),(⟨t,{ e0.x with last:=T+1,l:=e0.x.l.dropLast },.slice (some ⟨gu,0,none⟩) k cu,e0.EU.take k⟩:Te),S9,by rw[huR];exact HS10.out,List.getElem?_set_self (List.getElem?_eq_some_iff.1 HEI.out).1,rfl,HLK.out,fun u' hu'=>HTXP.out u' (List.mem_of_mem_take hu'),?_,HID.out,?_,HFST.out,?_,?_,?_,?_,?_⟩⟩
 ·rw[huR,hap2.R.room c.n]
  show upsA (e0.EU.take k)+xr≤(σ0.io.R.app _).room c.n
  rw[app_room,hencl]
  omega
 ·show T+1≤_
  omega
 ·rw[huR,hap2.R.tail]
  show(σ0.io.R.app _).tail+upsA (e0.EU.take k)≤_
  rw[app_tail,hencl]
  omega
 ·rw[List.length_append]
  have:=HLL.out
  show EL0.length+1+k≤_
  omega
 ·rw[huR]
  have h1:=hap2.wr
  have h2:=HWW.out
  have h3:(St.apply c ({ σ0 with io:={ σ0.io with R:=σ0.io.R.app (Rc.enc ({ Rc.zero with kind:=3,txn:=e0.x.id,prev:=e0.x.last,page:=y3,off:=y4,after:=u.1.before,next:=y2 }:Rc)) },lines:=σ0.lines++[(σ0.io.R.tail+1,({ Rc.zero with kind:=3,txn:=e0.x.id,prev:=e0.x.last,page:=y3,off:=y4,after:=u.1.before,next:=y2 }:Rc))],opn:=σ0.opn.set i { e0.x with last:=T+1,l:=e0.x.l.dropLast } }:St) ({ Rc.zero with kind:=3,txn:=e0.x.id,prev:=e0.x.last,page:=y3,off:=y4,after:=u.1.before,next:=y2 }:Rc) (T+1)).2.p.wr≤σ0.p.wr+2:=h1
  omega
 ·rw[←HUN.out]
  refine(undo_step c i mark (k+1) σ0 e0.x u.1 (HS.out.oat HEI.out) HGL.out HMM.out (by rw[HCR.out,HSZ.out];omega) ?_).symm
  rw[HCR.out,HTT.out]
  rw[HTT.out]at hap1
  exact hap1
 ·have F1:Foot (sfoot S10 vl0 vo EO0 K) (sfoot S10 vl0 vo EO0 K) wr y4w:=(Foot.below (grow_below HAL.out)).trans (Foot.below (grow_below HGY.out))
  have F2:Foot (sfoot S10 vl0 vo EO0 K) (sfoot S8 vl8 vo EO0 K) y4w y8:=sfoot_foot (HG8.out.mono (fun k h=>h.elim .inl (fun h=>.inr (.inl h)))) HN8.out HV8.out (fun k h=>.inl h) (fun k h=>.inl h)
  exact HFT.out.trans (F1.trans (F2.trans (HF9.out.trans (sfoot_of HF10.out))))
end
end
section
open Go.RowKit
section
variable{W0 w w' w2:World}{A:Adr}{c:Cf}{σ:St}{S:Nat→Prop}{vl vo vo':Value}{EL:List Le}{EO:List Te}{K S1:Nat→Prop}{X:Nat→Prop}
theorem of_get{t:Int}{v:Value}{i:Nat}{e:Te}(hof:ofEnd σ EO t v)(hi:σ.of t=some i)(he:EO[i]? = some e):v=.pointer (some ⟨e.t,0,none⟩):=by
 rcases hof with ⟨i',e',h1,h2,h3⟩|⟨h1,_⟩
 ·rw[h1]at hi
  obtain rfl:=Option.some.inj hi
  rw[h2]at he
  obtain rfl:=Option.some.inj he
  exact h3
 ·rw[h1]at hi;cases hi
theorem of_nil{t:Int}{v:Value}(hof:ofEnd σ EO t v)(hi:σ.of t=none):v=.pointer none:=by
 rcases hof with ⟨i',e',h1,h2,h3⟩|⟨_,h1⟩
 ·rw[hi]at h1;cases h1
 ·exact h1
theorem step_opn(σ:St)(c:Cf)(i:Nat)(x:Tx)(kd:Nat)(hr:96≤σ.io.R.room c.n):(σ.step c i x { Rc.zero with kind:=kd }).2.io.R.room c.n=σ.io.R.room c.n-96∧(σ.step c i x { Rc.zero with kind:=kd }).2.io.R.tail=σ.io.R.tail+96∧(σ.step c i x { Rc.zero with kind:=kd }).2.p=σ.p:=by
 rw[St.step_eq σ c i x kd hr]
 have hl:(Rc.enc { Rc.zero with kind:=kd,txn:=x.id,prev:=x.last }).length=96:=by rw[enc_len _ rfl rfl];rfl
 refine⟨?_,?_,rfl⟩
 ·show(σ.io.R.app _).room c.n=_
  rw[app_room,hl]
 ·show(σ.io.R.app _).tail=_
  rw[app_tail,hl]
theorem lay_opn(σ:St)(c:Cf)(r:Rc):(σ.lay c r).2.2.opn=σ.opn:=by unfold St.lay;split<;>rfl
theorem apply_opn(σ:St)(c:Cf)(r:Rc)(l:Nat):(σ.apply c r l).2.opn=σ.opn:=by
 unfold St.apply
 simp only[]
 split<;>rfl
theorem undo_len(c:Cf)(i mark:Nat):∀(m:Nat)(σ:St),(St.undo c i mark m σ).2.opn.length=σ.opn.length
 | 0,σ=>rfl
 | m + 1,σ=>by
  rw[St.undo]
  split
  ·rfl
  ·split
   ·rfl
   ·split
    ·rfl
    ·simp only[]
     split
     ·rw[lay_opn]
     ·split
      ·rw[apply_opn];simp[St.setTx,lay_opn]
      ·rw[undo_len c i mark m,apply_opn];simp[St.setTx,lay_opn]
set_option maxRecDepth 100000 in
set_option maxHeartbeats 6400000 in
theorem rollback_at(h:SvAt W0 w A c σ vl vo EL EO K S1)(hn:EO.length≤1000000)(i:Nat)(e:Te)(hof:σ.of (e.x.id:Int)=some i)(hei:EO[i]? = some e)(hu:TxP c.pg e.EU)(hm:e.EU.length≤1000000)(hpp:c.pg≤1099511627776)(hid:e.x.id≤1099511627776)(hla:e.x.last≤1099511627776)
  (hk:192+upsA e.EU≤σ.io.R.room c.n) (ht:σ.io.R.tail+192+upsA e.EU≤1099511627775) (hl:EL.length+1+e.EU.length≤1000000) (hwr:σ.p.wr+2*e.EU.length≤1000000000):
  Calls Tryz.prog 30 #[.pointer (some ⟨A.sb,0,none⟩),.int .i64 (e.x.id:Nat)] w fun er w'=>∃S',er=.returned (.int .i64 0)∧SV W0 A c (σ.rollback c i e.x).2 S' w'∧Foot (sfoot S1 vl vo EO K) S' w w':=by
 have HS:=Lib.hid h
 have HEI:=Lib.hid hei
 have c9:=h.sbx.cell 9 _ rfl
 have clt:=h.sbx.lt
 have hcall:=of_at h (e.x.id:Int) (Nat.le_trans hn (by decide))
 have HOF:=Lib.hid hcall
 have HO1:=Lib.hid hof
 have hst:=step_at h i e hei 5 (by decide) hid hla (by omega) (by omega) (by omega)
 have hst2:Calls Tryz.prog 57 #[.pointer (some ⟨A.sb,0,none⟩),.pointer (some ⟨e.t,0,none⟩),.agg #[.int .i64 5,.int .i64 0,.int .i64 0,.int .i64 0,.int .i64 0,.int .i64 0,.slice none 0 0,.slice none 0 0,.slice none 0 0,.slice none 0 0,.int .i64 0]] w _:=hst
 have HST:=Lib.hid hst2
 obtain⟨p1,p2,p3⟩:=step_opn σ c i e.x 5 (by omega)
 have HP1:=Lib.hid p1
 have HP2:=Lib.hid p2
 have HP3:=Lib.hid p3
 have HE1:=Lib.hid (St.step_eq σ c i e.x 5 (by omega))
 have HU:=Lib.hid hu
 have HM:=Lib.hid hm
 have HPP:=Lib.hid hpp
 have HK:=Lib.hid hk
 have HT:=Lib.hid ht
 have HL:=Lib.hid hl
 have HWR:=Lib.hid hwr
 have HN:=Lib.hid hn
 have HID:=Lib.hid hid
 have HLX:=Lib.hid h.tx
 have hxl:e.x.l.length=e.EU.length:=by rw[(h.tx.at_ e (List.mem_of_getElem? hei)).ups,List.length_map]
 have HXL:=Lib.hid hxl
 clear h hei hcall hof hst hst2 p1 p2 p3 hu hm hpp hk ht hl hwr hn hid hla hxl
 go_enter Tryz.func30,Tryz.ntmps30
 go_wp2_with fail
 refine HOF.out.mono ?_
 rintro er y0 ⟨⟨v,rfl,hofe⟩,hy⟩
 obtain rfl:w=y0:=hy.symm
 obtain rfl:=of_get hofe HO1.out HEI.out
 clear hofe HOF
 go_wp2_with fail
 refine HST.out.mono ?_
 rintro er y1 ⟨vl1,S2,rfl,hs1,hf1⟩
 have hi:i<EO.length:=(List.getElem?_eq_some_iff.1 HEI.out).1
 have HS1:=Lib.hid hs1
 have HF1:=Lib.hid hf1
 have hun:=undo_at hs1 i 0 (by decide) (⟨e.t,{ e.x with last:=σ.io.R.tail+1 },e.vu,e.EU⟩:Te) (List.getElem?_set_self hi) HU.out HM.out HPP.out 1099511627679 1000000 1000000000 96 (by decide) (by decide) (by decide)
  (by rw[HP1.out];have:=HK.out;show upsA e.EU+96≤_;omega) HID.out (by show σ.io.R.tail+1≤_;have:=HT.out;omega) (by rw[HP2.out];have:=HT.out;show _+upsA e.EU≤_;omega) (by rw[List.length_append];have:=HL.out;show EL.length+1+e.EU.length≤_;omega) (by rw[HP3.out];exact HWR.out)
 have hun2:Calls Tryz.prog 61 #[.pointer (some ⟨A.sb,0,none⟩),.pointer (some ⟨e.t,0,none⟩),.int .i64 0] y1 _:=hun
 have HUN:=Lib.hid hun2
 clear hs1 hf1 hun hun2 HST c9 clt hi
 go_wp2_with fail
 refine HUN.out.mono ?_
 rintro er y2 ⟨rfl,σ2,vl2,EL2,EO2,e2,S3,hs2,hei2,het,hid2,hla2,ht2,hl2,hw2,hr2,hu2,hf2⟩
 have HS2:=Lib.hid hs2
 have HF2:=Lib.hid hf2
 have HU2:=Lib.hid hu2
 have HEI2:=Lib.hid hei2
 have hlen2:EO2.length≤1000000:=by
  have h1:=undo_len c i 0 ((⟨e.t,{ e.x with last:=σ.io.R.tail+1 },e.vu,e.EU⟩:Te).EU.length+1) (σ.step c i e.x { Rc.zero with kind:=5 }).2
  rw[hu2]at h1
  rw[←hs2.olen,h1,HS1.out.olen,List.length_set]
  exact HN.out
 have hen:=end_at hs2 i e2 hei2 hid2 hla2 hlen2 hr2 (by omega) (by omega)
 rw[show e2.t=e.t from het]at hen
 have HEN:=Lib.hid hen
 have HR2:=Lib.hid hr2
 clear hs2 hf2 hu2 hei2 het hid2 hla2 ht2 hl2 hw2 hr2 hlen2 hen
 go_wp2_with fail
 refine HEN.out.mono ?_
 rintro er y3 ⟨vl3,vo3,EL3,S4,rfl,hs3,hf3⟩
 have HS3:=Lib.hid hs3
 have HF3:=Lib.hid hf3
 clear hs3 hf3
 go_wp2_with fail
 go_ret
 have e1:(σ.rollback c i e.x).2=(σ2.end_ c i e2.x).2:=by
  unfold St.rollback
  simp only[]
  rw[HE1.out]
  simp only[]
  rw[if_neg (by simp)]
  have h1:=HU2.out
  rw[HE1.out]at h1
  rw[HXL.out]
  simp only[]at h1
  rw[h1]
  simp only[]
  rw[if_neg (by simp),HS2.out.oat HEI2.out]
 rw[e1]
 have FF:=HF1.out.trans (HF2.out.trans HF3.out)
 first|exact⟨_,rfl,⟨_,_,_,_,_,_,HS3.out,rfl⟩,FF⟩|exact⟨rfl,_,⟨_,_,_,_,_,_,HS3.out,rfl⟩,FF⟩
end
end
section
open Go.RowKit
section
variable{W0 w w' w2:World}{A:Adr}{c:Cf}{σ:St}{S:Nat→Prop}{vl vo vo':Value}{EL:List Le}{EO:List Te}{K S1:Nat→Prop}{X:Nat→Prop}
set_option maxRecDepth 100000 in
set_option maxHeartbeats 3200000 in
theorem save_at(h:SvAt W0 w A c σ vl vo EL EO K S1)(hn:EO.length≤1000000)(i:Nat)(e:Te)(hof:σ.of (e.x.id:Int)=some i)(hei:EO[i]? = some e):
    Calls Tryz.prog 41 #[.pointer (some ⟨A.sb,0,none⟩),.int .i64 (e.x.id:Nat)] w fun er w'=>er=.returned (.tuple #[.int .i64 (e.x.last:Nat),.int .i64 0])∧w'=w:=by
  have HEI:=Lib.hid hei
  have HO1:=Lib.hid hof
  have c9:=h.sbx.cell 9 _ rfl
  have clt:=h.sbx.lt
  have hbx:=(h.tx.at_ e (List.mem_of_getElem? hei)).box
  have e2:=hbx.cell 2 _ rfl
  have elt:=hbx.lt
  have hcall:=of_at h (e.x.id:Int) (Nat.le_trans hn (by decide))
  have HOF:=Lib.hid hcall
  clear h hei hof hbx hcall hn
  go_enter Tryz.func41,Tryz.ntmps41
  go_wp2_with fail
  refine HOF.out.mono ?_
  rintro er y0 ⟨⟨v,rfl,hofe⟩,hy⟩
  obtain rfl:w=y0:=hy.symm
  obtain rfl:=of_get hofe HO1.out HEI.out
  clear hofe HOF
  go_wp2_with fail
  go_ret2
  first|exact⟨rfl,rfl⟩|trivial
def St.commit(c:Cf)(σ:St)(i:Nat)(x:Tx):Int×St:=
  let a:=σ.step c i x { Rc.zero with kind:=4 }
  if a.1≠0 then a else
  let s2:St:={ a.2 with commits:=a.2.commits+1,io:={ D:=(a.2.io.R.flush c.n a.2.io.D).2,R:=(a.2.io.R.flush c.n a.2.io.D).1 } }
  match s2.opn[i]? with
  | none=>(0,s2)
  | some y=>s2.end_ c i y
theorem sflush_at(h:SvAt W0 w A c σ vl vo EL EO K S1):
    Calls Tryz.prog 58 #[.pointer (some ⟨A.r,0,none⟩)] w fun e w'=>∃S1',e=.returned (.int .i64 0)∧SvAt W0 w' A c { σ with io:={ D:=(σ.io.R.flush c.n σ.io.D).2,R:=(σ.io.R.flush c.n σ.io.D).1 } } vl vo EL EO K S1'∧Foot S1 S1' w w':=by
  obtain⟨S5,hrg5,hsub5,hc5,hput5⟩:=h.sp.putRg
  refine(rflushW_rg hrg5 hc5).mono ?_
  rintro e w' ⟨S6,rfl,hrg6,hf6⟩
  obtain⟨S7,hsp7,hf7⟩:=hput5 _ _ _ hrg6 (flush_c hrg5.good hc5 hrg5.ok.n2 hrg5.fits) (flush_l hrg5.good hrg5.ok.n2 hrg5.fits) hf6
  obtain⟨hsv7,hff7⟩:=h.putS (σ':={ σ with io:={ D:=(σ.io.R.flush c.n σ.io.D).2,R:=(σ.io.R.flush c.n σ.io.D).1 } }) hsp7 hf7 rfl rfl
  exact⟨S7,rfl,hsv7,hf7⟩
set_option maxRecDepth 100000 in
set_option maxHeartbeats 6400000 in
theorem commit_at (h:SvAt W0 w A c σ vl vo EL EO K S1) (hn:EO.length≤1000000) (i:Nat) (e:Te) (hof:σ.of (e.x.id:Int)=some i) (hei:EO[i]? = some e) (hid:e.x.id≤1099511627776) (hla:e.x.last≤1099511627776)
    (hk:192≤σ.io.R.room c.n) (ht:σ.io.R.tail+192≤1099511627775) (hl:EL.length+2≤1000000) (hcm:σ.commits≤1099511627776):
    Calls Tryz.prog 29 #[.pointer (some ⟨A.sb,0,none⟩),.int .i64 (e.x.id:Nat)] w fun er w'=>∃S',er=.returned (.int .i64 0)∧SV W0 A c (St.commit c σ i e.x).2 S' w'∧Foot (sfoot S1 vl vo EO K) S' w w':=by
  have HEI:=Lib.hid hei
  have c9:=h.sbx.cell 9 _ rfl
  have clt:=h.sbx.lt
  have hcall:=of_at h (e.x.id:Int) (Nat.le_trans hn (by decide))
  have HOF:=Lib.hid hcall
  have HO1:=Lib.hid hof
  have hst:=step_at h i e hei 4 (by decide) hid hla (by omega) (by omega) (by omega)
  have hst2:Calls Tryz.prog 57 #[.pointer (some ⟨A.sb,0,none⟩),.pointer (some ⟨e.t,0,none⟩),.agg #[.int .i64 4,.int .i64 0,.int .i64 0,.int .i64 0,.int .i64 0,.int .i64 0,.slice none 0 0,.slice none 0 0,.slice none 0 0,.slice none 0 0,.int .i64 0]] w _:=hst
  have HST:=Lib.hid hst2
  obtain⟨p1,p2,p3⟩:=step_opn σ c i e.x 4 (by omega)
  have HP1:=Lib.hid p1
  have HP2:=Lib.hid p2
  have HE1:=Lib.hid (St.step_eq σ c i e.x 4 (by omega))
  have HK:=Lib.hid hk
  have HT:=Lib.hid ht
  have HL:=Lib.hid hl
  have HN:=Lib.hid hn
  have HID:=Lib.hid hid
  obtain⟨cm,hcmm⟩:∃x,σ.commits=x:=⟨_,rfl⟩
  have hc4:(σ.step c i e.x { Rc.zero with kind:=4 }).2.commits=cm:=by rw[HE1.out];exact hcmm
  have HC4:=Lib.hid hc4
  rw[hcmm]at hcm
  clear h hei hcall hof hst hst2 p1 p2 p3 hk ht hl hn hid hla hcmm hc4
  go_enter Tryz.func29,Tryz.ntmps29
  go_wp2_with fail
  refine HOF.out.mono ?_
  rintro er y0 ⟨⟨v,rfl,hofe⟩,hy⟩
  obtain rfl:w=y0:=hy.symm
  obtain rfl:=of_get hofe HO1.out HEI.out
  clear hofe HOF
  go_wp2_with fail
  refine HST.out.mono ?_
  rintro er y1 ⟨vl1,S2,rfl,hs1,hf1⟩
  have hi:i<EO.length:=(List.getElem?_eq_some_iff.1 HEI.out).1
  have HS1:=Lib.hid hs1
  have HF1:=Lib.hid hf1
  have c8:y1.cell? ⟨A.sb,8,none⟩=some (.int .i64 (cm:Nat)):=by rw[←HC4.out];exact hs1.sbx.cell 8 _ rfl
  have cfz:=hs1.sbx.free
  have clt1:=hs1.sbx.lt
  obtain⟨S3,hs3,hf3⟩:=hs1.pokeN (σ':={ (σ.step c i e.x { Rc.zero with kind:=4 }).2 with commits:=cm+1 }) 8 (by decide) (.int .i64 ((cm:Int)+1)) rfl rfl rfl rfl rfl
  have HS3:=Lib.hid hs3
  have HF3:=Lib.hid hf3
  clear hs1 hf1 hs3 hf3 HST c9 clt
  go_upto_region 10 with (fail)
  clear c8 cfz clt1
  generalize y1.setCell ⟨A.sb,8,none⟩ (.int .i64 ((cm:Int)+1))=y2 at *
  have c1:=HS3.out.sbx.cell 1 _ rfl
  have clt2:=HS3.out.sbx.lt
  have hfl:=sflush_at HS3.out
  have HFL:=Lib.hid hfl
  clear hfl
  go_wp2_with fail
  refine HFL.out.mono ?_
  rintro er y3 ⟨S4,rfl,hs4,hf4⟩
  have HS4:=Lib.hid hs4
  have HF4:=Lib.hid hf4
  have hsame:=flush_same c.n (σ.step c i e.x { Rc.zero with kind:=4 }).2.io.R (σ.step c i e.x { Rc.zero with kind:=4 }).2.io.D
  have hen:=end_at hs4 i (⟨e.t,{ e.x with last:=σ.io.R.tail+1 },e.vu,e.EU⟩:Te) (List.getElem?_set_self hi) HID.out (by show σ.io.R.tail+1≤_;have:=HT.out;omega) (by rw[List.length_set];exact HN.out)
    (by show 96≤Rg.room c.n (Rg.flush c.n (σ.step c i e.x { Rc.zero with kind:=4 }).2.io.R (σ.step c i e.x { Rc.zero with kind:=4 }).2.io.D).1
        rw[hsame.room,HP1.out];have:=HK.out;omega)
    (by show Rg.tail (Rg.flush c.n (σ.step c i e.x { Rc.zero with kind:=4 }).2.io.R (σ.step c i e.x { Rc.zero with kind:=4 }).2.io.D).1+96≤_
        rw[hsame.tail,HP2.out];have:=HT.out;omega) (by rw[List.length_append];have:=HL.out;show EL.length+1≤_;omega)
  have HEN:=Lib.hid hen
  clear hs4 hf4 hsame hen c1 clt2 hi
  go_wp2_with fail
  refine HEN.out.mono ?_
  rintro er y5 ⟨vl5,vo5,EL5,S5,rfl,hs5,hf5⟩
  have HS5:=Lib.hid hs5
  have HF5:=Lib.hid hf5
  clear hs5 hf5
  go_wp2_with fail
  go_ret
  have e1:(St.commit c σ i e.x).2=(St.end_ c ({ (σ.step c i e.x { Rc.zero with kind:=4 }).2 with commits:=cm+1,io:={ D:=((σ.step c i e.x { Rc.zero with kind:=4 }).2.io.R.flush c.n (σ.step c i e.x { Rc.zero with kind:=4 }).2.io.D).2,R:=((σ.step c i e.x { Rc.zero with kind:=4 }).2.io.R.flush c.n (σ.step c i e.x { Rc.zero with kind:=4 }).2.io.D).1 } }:St) i { e.x with last:=σ.io.R.tail+1 }).2:=by
    unfold St.commit
    simp only[]
    rw[if_neg (by rw[HE1.out];simp)]
    have h1:(σ.step c i e.x { Rc.zero with kind:=4 }).2.opn[i]? = some { e.x with last:=σ.io.R.tail+1 }:=HS1.out.oat (e:=(⟨e.t,{ e.x with last:=σ.io.R.tail+1 },e.vu,e.EU⟩:Te)) (List.getElem?_set_self (List.getElem?_eq_some_iff.1 HEI.out).1)
    rw[h1,HC4.out]
  rw[e1]
  have FF:=HF1.out.trans ((sfoot_of HF3.out).trans ((sfoot_of HF4.out).trans HF5.out))
  first|exact⟨_,rfl,⟨_,_,_,_,_,_,HS5.out,rfl⟩,FF⟩|exact⟨rfl,_,⟨_,_,_,_,_,_,HS5.out,rfl⟩,FF⟩
end
end
section
open Go.RowKit
section
variable{W0 w w' w2:World}{A:Adr}{c:Cf}{σ:St}{S:Nat→Prop}{vl vo vo':Value}{EL:List Le}{EO:List Te}{K S1:Nat→Prop}{X:Nat→Prop}
set_option maxRecDepth 100000 in
set_option maxHeartbeats 3200000 in
theorem write_none(h:SvAt W0 w A c σ vl vo EL EO K S1)(hn:EO.length≤1000000)(t p off:Int)(v:Value)(hof:σ.of t=none):
  Calls Tryz.prog 31 #[.pointer (some ⟨A.sb,0,none⟩),.int .i64 t,.int .i64 p,.int .i64 off,v] w fun er w'=>er=.returned (.int .i64 61)∧w'=w:=by
 have HO1:=Lib.hid hof
 have c9:=h.sbx.cell 9 _ rfl
 have clt:=h.sbx.lt
 have hcall:=of_at h t (Nat.le_trans hn (by decide))
 have HOF:=Lib.hid hcall
 clear h hof hcall hn
 go_enter Tryz.func31,Tryz.ntmps31
 go_wp2_with fail
 refine HOF.out.mono ?_
 rintro er y0 ⟨⟨v,rfl,hofe⟩,hy⟩
 obtain rfl:w=y0:=hy.symm
 obtain rfl:=of_nil hofe HO1.out
 clear hofe HOF
 go_wp2_with fail
 go_ret
 first|exact⟨rfl,rfl⟩|trivial
set_option maxRecDepth 100000 in
set_option maxHeartbeats 3200000 in
theorem write_busy(h:SvAt W0 w A c σ vl vo EL EO K S1)(hn:EO.length≤1000000)(hu:TxB EO)(i:Nat)(e:Te)(hof:σ.of (e.x.id:Int)=some i)(hei:EO[i]? = some e)(p off:Nat)(ab:Option Addr)(nb cb:Nat)(hpg:p<c.pg)(hoff:off+nb≤504)(hbusy:σ.busy (e.x.id:Int) p off nb=true):
  Calls Tryz.prog 31 #[.pointer (some ⟨A.sb,0,none⟩),.int .i64 (e.x.id:Nat),.int .i64 (p:Nat),.int .i64 (off:Nat),.slice ab nb cb] w fun er w'=>er=.returned (.int .i64 62)∧Below w.heap.size w w':=by
 have HEI:=Lib.hid hei
 have HO1:=Lib.hid hof
 have c9:=h.sbx.cell 9 _ rfl
 have clt:=h.sbx.lt
 have hcall:=of_at h (e.x.id:Int) (Nat.le_trans hn (by decide))
 have HOF:=Lib.hid hcall
 have hcall2:=within_at h (p:Int) (off:Int) (nb:Int)
 rw[decide_eq_true (show _ from⟨by omega,by omega,by omega,by omega,by omega,by omega⟩)]at hcall2
 have HWI:=Lib.hid hcall2
 have hcall3:=busy_at h (Nat.le_trans hn (by decide)) (fun e he=>⟨Nat.le_trans (hu e he).1 (by decide),fun u hq=>Nat.le_trans ((hu e he).2 u hq) (by decide)⟩) (e.x.id:Int) p off nb (by omega) (by omega)
 rw[hbusy]at hcall3
 have HBU:=Lib.hid hcall3
 clear h hei hof hcall hcall2 hcall3 hn hu hbusy
 go_enter Tryz.func31,Tryz.ntmps31
 go_wp2_with fail
 refine HOF.out.mono ?_
 rintro er y0 ⟨⟨v,rfl,hofe⟩,hy⟩
 obtain rfl:w=y0:=hy.symm
 obtain rfl:=of_get hofe HO1.out HEI.out
 clear hofe HOF
 go_wp2_with fail
 refine HWI.out.mono ?_
 rintro er y0 ⟨rfl,hy⟩
 obtain rfl:w=y0:=hy.symm
 clear HWI
 go_wp2_with fail
 refine HBU.out.mono ?_
 rintro er y1 ⟨rfl,hb1⟩
 have HB1:=Lib.hid hb1
 clear hb1 HBU
 go_wp2_with fail
 go_ret
 exact⟨rfl,HB1.out⟩
end
end
section
open Go.RowKit
theorem run_append_nil_zeros{P:Program}{w:World}{t tn e:TypeId}(T:SliceOf P t e (.int .u8 0) 1 1)(ty:TypeId)(htn:P.underlying tn=some (.int .i64))(k:Nat)(hk:0<k)(h63:k≤1099511627776):
  ∃c' w',(Builtin.append_ #[t,tn] ty #[.slice none 0 0,.int .i64 k]).run P w=.ok (.slice (some ⟨w.heap.size,0,none⟩) k c') w'∧
   w'.ownsRow w.heap.size e 1 (.slice (some ⟨w.heap.size,0,none⟩) k c') k ((List.replicate k (0:UInt8)).map B)∧Below w.heap.size w w':=by
 obtain⟨i,hi,hz0,hz1,hz2⟩:=info_parts T.info
 have hge:=grownCap_ge w (0+k) 0 e
 have hcm2:grownCap w (0+k) 0 e≤maxLen:=grownCap_le_maxLen w (0+k) 0 e (by unfold maxLen;omega)
 have hold:(Builtin.firstCells i.size 0 (.slice none 0 0)).run P w.drew=.ok ([]:List Value).toArray w.drew:=by simp[Builtin.firstCells]
 have hrun:=Lib.run_append_grow_zeros (P:=P) (ty:=ty) w t tn e i (.int .u8 0) .i64 .i64 T.und htn hi hz0 none 0 0 [] hold k (by omega) (by omega) (by omega) (by omega) (by rw[hz2];omega) (by rw[hz2];exact growslice_fits (by omega) (by omega))
 rw[Nat.zero_add]at hrun
 refine⟨_,_,hrun,⟨by simp,.inr ⟨w.heap.size,_,_,rfl,Nat.le_refl _,heap_alloc_new w.drew _,by rw[←Nat.zero_add k];exact hge,by rw[←Nat.zero_add k];exact hcm2,?_,?_⟩⟩,⟨rfl,rfl,rfl,by simp,fun j hj=>Below.heap_alloc w.drew _ j (by exact hj)⟩⟩
 ·have hzc:(Value.int IntKind.u8 0).cells.size=1:=rfl
  simp only[Array.size_append,List.size_toArray,size_zeroCells,hzc,List.length_nil]
  rw[Nat.zero_add]at hge
  omega
 ·simp only[Array.toList_append,zeroCells_list,List.nil_append]
  have hl:((List.replicate k (0:UInt8)).map B).length=k*1:=by simp
  rw[←hl]
  exact List.take_left
theorem wpList_append_nil_zeros{P:Program}{w:World}{ops:Array Oper}{rest:List Oper}{o:Oper}{a:Act}{Q:Exit→Act→World→Prop}
  {t tn e:TypeId} (T:SliceOf P t e (.int .u8 0) 1 1) (htn:P.underlying tn=some (.int .i64)) (s x:Operand) (hgd:o.guard=none)
  (ho:o.op=.call { callee:=.builtin .append,args:=#[s,x],argTypes:=#[t,tn] })
  (hs:a.eval s=.slice none 0 0) {k:Nat} (hx:a.eval x=.int .i64 (k:Int)) (hk:0<k) (h63:k≤1099511627776)
  (h:∀cap w',w'.ownsRow w.heap.size e 1 (.slice (some ⟨w.heap.size,0,none⟩) k cap) k ((List.replicate k (0:UInt8)).map B)→Below w.heap.size w w'→
   wpList P ops Q rest (a.put o.dst (.slice (some ⟨w.heap.size,0,none⟩) k cap)) w'):wpList P ops Q (o::rest) a w:=by
 obtain⟨c',w',hrun,hown',hgr⟩:=run_append_nil_zeros (P:=P) T o.type htn k hk h63
 refine wpList_plain hgd fun K hK=>?_
 unfold Oper.wp
 simp[execOp,ho,resolve,invoke,builtin,hs,hx,Result.andThen]
 rw[hrun]
 exact hK _ _ (h c' w' hown' hgr)
set_option maxRecDepth 100000 in
set_option maxHeartbeats 3200000 in
theorem grow_nil(w:World)(n:Nat)(hn:0<n)(hn2:n≤1048576):
  Calls Tryz.prog 160 #[.slice none 0 0,.int .i64 (n:Nat)] w fun e w'=>∃g c,e=.returned (.slice (some ⟨g,0,none⟩) 0 c)∧w'.ownsRow w.heap.size 5 1 (.slice (some ⟨g,0,none⟩) 0 c) 0 []∧Below w.heap.size w w':=by
 have h0:decide ((n:Int)<0)=false:=by simp
 have h1:decide ((n:Int)>0)=true:=by simp;omega
 have h2:decide ((0:Int)<(n:Int))=true:=by simp;omega
 have h3:decide (0<n)=true:=by simp;omega
 go_enter Tryz.func160,Tryz.ntmps160
 go_wp2_with (at_builtin;refine wpList_append_nil_zeros bytesOf (by kernel_rfl) (.tmp 20) (.tmp 21) rfl rfl rfl rfl hn (by omega) ?_;intro cq wq ho2 hb2;have HX:=Lib.hid (And.intro ho2 hb2);clear ho2 hb2)
 have HY:=Lib.hid HX.out
 go_ret
 obtain⟨h1,h2⟩:=HY.out
 have h3':=own_take (m:=0) h1 hn (Nat.zero_le _)
 rw[Nat.zero_mul,List.take_zero]at h3'
 exact⟨_,_,rfl,h3',h2⟩
def catB(TS:List (Value×List UInt8)):List UInt8:=TS.flatMap (·.2)
theorem catB_succ(TS:List (Value×List UInt8))(j:Nat)(x:Value×List UInt8)(h:TS[j]? = some x):catB (TS.take (j+1))=catB (TS.take j)++x.2:=by
 unfold catB
 rw[List.take_add_one,h]
 simp
theorem catB_le(TS:List (Value×List UInt8))(j:Nat):(catB (TS.take j)).length≤(catB TS).length:=by
 conv=>rhs;rw[←List.take_append_drop j TS]
 unfold catB
 rw[List.flatMap_append,List.length_append]
 omega
set_option maxRecDepth 100000 in
set_option maxHeartbeats 6400000 in
theorem concat_any(w:World)(TS:List (Value×List UInt8))(n gt ct:Nat)(hl:TS.length=n)(hn:n≤1048576)(hc:∀(j:Nat) (x:Value×List UInt8),TS[j]? = some x→w.cell? ⟨gt,j,none⟩=some x.1)(hgt:gt<w.heap.size)
  (hr:∀x∈TS,Reads 1 w x.1 x.2.length (x.2.map B)) (hm:0<(catB TS).length) (hm2:(catB TS).length≤1048576):
  Calls Tryz.prog 124 #[.slice (some ⟨gt,0,none⟩) n ct] w fun e w'=>∃g c,e=.returned (.slice (some ⟨g,0,none⟩) (catB TS).length c)∧w'.ownsRow w.heap.size 5 1 (.slice (some ⟨g,0,none⟩) (catB TS).length c) (catB TS).length ((catB TS).map B)∧Below w.heap.size w w':=by
 have HL:=Lib.hid hl
 have HC:=Lib.hid hc
 have HR:=Lib.hid hr
 obtain⟨m,hmm⟩:∃x,(catB TS).length=x:=⟨_,rfl⟩
 have HMM:=Lib.hid hmm
 rw[hmm]at hm hm2⊢
 clear hl hc hr hmm
 go_enter Tryz.func124,Tryz.ntmps124
 go_wp2_with fail
 go_loopw [3,11] (fun s i wr=>∃j:Nat,j≤n∧i=.int .i64 j∧s=.int .i64 ((catB (TS.take j)).length:Nat)∧wr=w) (fun _ i _=>n-(intOf i).toNat)
 case atStart=>exact⟨0,Nat.zero_le _,rfl,rfl,rfl⟩
 case round=>
  obtain⟨j,hj,rfl,rfl,hy⟩:=hrel
  obtain rfl:w=wr:=hy.symm
  have hle:(catB (TS.take j)).length≤m:=by rw[←HMM.out];exact catB_le TS j
  obtain⟨q,hq⟩:∃x,(catB (TS.take j)).length=x:=⟨_,rfl⟩
  rw[hq]at hle⊢
  have HQ:=Lib.hid hq
  clear hq
  by_cases hjn:j<n
  case neg=>
   have b1:decide (j<n)=false:=by simpa using hjn
   have b2:decide ((j:Int)<(n:Int))=false:=by simpa using hjn
   obtain rfl:q=m:=by rw[←HQ.out,←HMM.out,List.take_of_length_le (by have:=HL.out;omega)]
   clear HQ hle
   go_wp2_with fail
   refine(grow_nil w q hm hm2).mono ?_
   rintro er y0 ⟨g0,c0,rfl,ho0,hb0⟩
   have HO0:=Lib.hid ho0
   have HB0:=Lib.hid hb0
   clear ho0 hb0
   go_wp2_with fail
   go_loopw [6,27] (fun v i wx=>∃(k:Nat)(ao:Option Addr)(p c:Nat),k≤n∧i=.int .i64 k∧v=.slice ao p c∧p=(catB (TS.take k)).length∧wx.ownsRow w.heap.size 5 1 (.slice ao p c) p ((catB (TS.take k)).map B)∧Below w.heap.size w wx) (fun _ i _=>n-(intOf i).toNat)
   case atStart=>exact⟨0,_,0,c0,Nat.zero_le _,rfl,rfl,rfl,HO0.out,HB0.out⟩
   case round=>
    obtain⟨k,ao,p,c,hk,rfl,rfl,hp,hrow,hbl⟩:=hrel
    have HROW:=Lib.hid hrow
    have HB:=Lib.hid hbl
    have HP:=Lib.hid hp
    have hple:p≤q:=by rw[hp,←HMM.out];exact catB_le TS k
    clear hrow hbl hp
    by_cases hkn:k<n
    case neg=>
     have b3:decide (k<n)=false:=by simpa using hkn
     have b4:decide ((k:Int)<(n:Int))=false:=by simpa using hkn
     have e5:TS.take k=TS:=List.take_of_length_le (by have:=HL.out;omega)
     have hrow:=HROW.out
     have hp:=HP.out
     rw[e5]at hrow hp
     rw[HMM.out]at hp
     subst hp
     obtain⟨g,c',e6,_,_⟩:=own_slice hrow hm
     injection e6 with e7 _ e8
     subst e7 e8
     have HRW:=Lib.hid hrow
     clear hrow e5
     go_wp2_with fail
     go_ret
     exact⟨_,_,rfl,HRW.out,HB.out⟩
    have b3:decide (k<n)=true:=by simpa using hkn
    have b4:decide ((k:Int)<(n:Int))=true:=by simpa using hkn
    obtain⟨x,hx⟩:∃x,TS[k]? = some x:=⟨_,List.getElem?_eq_getElem (by have:=HL.out;omega)⟩
    have hcx:=(HB.out.cell (p:=⟨gt,k,none⟩) hgt).trans (HC.out k x hx)
    have hrx:=(HR.out x (List.mem_of_getElem? hx)).below HB.out (Nat.le_refl _)
    have hsucc:=catB_succ TS k x hx
    have hple2:(catB (TS.take (k+1))).length≤q:=by rw[←HMM.out];exact catB_le TS (k+1)
    rw[hsucc,List.length_append,←HP.out]at hple2
    have HSU:=Lib.hid hsucc
    have HRX:=Lib.hid hrx
    obtain⟨xv,xb⟩:=x
    obtain⟨xa,xc,rfl⟩:∃a c,xv=.slice a xb.length c:=by obtain⟨a,c,e,_⟩:=hrx;exact⟨a,c,e⟩
    obtain⟨xl,hxl⟩:∃l,xb.length=l:=⟨_,rfl⟩
    simp only[]at hcx hple2
    have HRX2:Hid (Reads 1 wr (.slice xa xb.length xc) xb.length (xb.map B)):=Lib.hid HRX.out
    rw[hxl]at hcx hple2 HRX2
    have HXL:=Lib.hid hxl
    have hszw:=HB.out.size
    clear hx hrx hsucc HRX hxl
    go_wp2_with (at_builtin;refine wpList_append_anyC bytesOf (.tmp 31) (.tmp 32) rfl rfl rfl HROW.out rfl HRX2.out (Bs_one _) (by omega) (by omega) hszw ?_;intro ob cq wq ho2 hg2 hn2;have HX:=Lib.hid (And.intro ho2 (And.intro hg2 hn2));clear ho2 hg2 hn2)
    have HY:=Lib.hid HX.out
    go_roundw
    ·obtain⟨ho2,hg2,hn2⟩:=HY.out
     refine⟨k+1,ob,p+xl,cq,by omega,by go_num,rfl,?_,?_,?_⟩
     ·rw[HSU.out,List.length_append,←HP.out,HXL.out]
     ·rw[HSU.out,List.map_append];exact ho2
     ·exact below_app HB.out hszw (GrowX.of_growC hg2 (fun k o h=>h)) (fun q e=>(HROW.out.lt q e).1)
    ·simp[intOf];omega
  have b1:decide (j<n)=true:=by simpa using hjn
  have b2:decide ((j:Int)<(n:Int))=true:=by simpa using hjn
  obtain⟨x,hx⟩:∃x,TS[j]? = some x:=⟨_,List.getElem?_eq_getElem (by have:=HL.out;omega)⟩
  have hcx:=HC.out j x hx
  have hrx:=HR.out x (List.mem_of_getElem? hx)
  have hsucc:=catB_succ TS j x hx
  have hple2:(catB (TS.take (j+1))).length≤m:=by rw[←HMM.out];exact catB_le TS (j+1)
  rw[hsucc,List.length_append,HQ.out]at hple2
  have HSU:=Lib.hid hsucc
  obtain⟨xv,xb⟩:=x
  obtain⟨xa,xc,rfl⟩:∃a c,xv=.slice a xb.length c:=by obtain⟨a,c,e,_⟩:=hrx;exact⟨a,c,e⟩
  obtain⟨xl,hxl⟩:∃l,xb.length=l:=⟨_,rfl⟩
  simp only[]at hcx hple2
  rw[hxl]at hcx hple2
  have HXL:=Lib.hid hxl
  have hneg:decide (((q:Int)+(xl:Int))<0)=false:=by simp;omega
  clear hx hrx hsucc hxl
  go_wp2_with fail
  go_roundw
  ·refine⟨j+1,by omega,by go_num,?_,by first|rfl|trivial⟩
   rw[HSU.out,List.length_append,HQ.out,HXL.out]
   show Value.int _ _=Value.int _ _
   congr 1
  ·simp[intOf];omega
end
section
open Go.RowKit
theorem trim_tail(R:Rg)(pos:Nat)(h2:pos≤R.tail)(hb:R.base≤pos):(R.trim pos).tail=R.tail:=by
 unfold Rg.trim
 split
 ·next h=>
  unfold Rg.tail at *
  simp only[List.length_drop]
  have:=Nat.div_mul_le_self pos 118
  omega
 ·rfl
theorem trim_ok{R:Rg}{n:Nat}(h:R.ok n)(pos:Nat)(h1:R.start≤pos)(h2:pos≤R.fin):(R.trim pos).ok n:=by
 have hb:=h.base
 have ht:=trim_tail R pos (Nat.le_trans h2 h.ft) (by have:=h.base;have:=Nat.div_mul_le_self R.start 118;omega)
 have hrm:=h.room
 have hd:R.start / 118≤pos / 118:=Nat.div_le_div_right h1
 have hst:(R.trim pos).start=pos:=by unfold Rg.trim;split<;>rfl
 have hfi:(R.trim pos).fin=R.fin:=by unfold Rg.trim;split<;>rfl
 have hba:(R.trim pos).base=pos / 118*118:=by
  unfold Rg.trim
  split
  ·rfl
  ·next hh=>show R.base=_;omega
 refine⟨h.n2,h.n3,?_,?_,?_,?_,?_⟩
 ·rw[hba,hst]
 ·rw[hst,hfi];exact h2
 ·rw[hfi,ht];exact h.ft
 ·rw[ht];exact h.top
 ·rw[ht,hst]
  exact Nat.le_trans hrm (Nat.mul_le_mul_right _ (by omega))
section
variable{W0 w:World}{r d n:Nat}{s:Io}{S:Nat→Prop}
theorem rtrim_rg(h:RGV W0 r d n s S w)(pos:Nat)(h1:s.R.start≤pos)(h2:pos≤s.R.fin):
  Calls Tryz.prog 127 #[.pointer (some ⟨r,0,none⟩),.int .i64 (pos:Nat)] w fun e w'=>∃S',e=.returned (.int .i64 0)∧RGV W0 r d n { s with R:=s.R.trim pos } S' w'∧Foot S S' w w':=by
 obtain⟨vb,S0,i1,i2,i3,i4,i5,i6,i7,rfl⟩:=h
 refine(rtrim_at i1 i4 i2.bel.size pos h1 h2).mono ?_
 rintro e w' ⟨vb',rfl,g1,g2,g3⟩
 have hdj:Disj S0 (fun k=>k=r):=by
  rintro k hk rfl
  exact i6 hk
 have hbel:Below W0.heap.size W0 w':=i2.bel.trans (g2.below (fun k hk=>⟨Nat.lt_of_lt_of_le hk i2.bel.size,by
  rintro rfl
  have:=i1.gr;omega⟩))
 refine⟨_,rfl,⟨vb',S0,g1,i2.grow g2 hdj hbel,i3,trim_ok i4 pos h1 h2,i5,i6,?_,rfl⟩,g2.mono (fun k hk=>.inr (.inl hk)),?_⟩
 ·exact fun q e hs=>(g3 q e).elim (fun h=>i7 q h hs) (fun h=>by have:=(i2.lt q hs).2;omega)
 ·rintro k (hk|rfl|hk)
  ·exact .inl (.inl hk)
  ·exact .inl (.inr (.inl rfl))
  ·exact(g3 k hk).imp (fun h=>.inr (.inr h)) id
end
section
variable{W0 w w':World}{A:Adr}{c:Cf}{σ:St}{vl vo:Value}{EL:List Le}{EO:List Te}{K S1:Nat→Prop}
theorem SvAt.useRg(h:SvAt W0 w A c σ vl vo EL EO K S1):∃S5,RGV W0 A.r A.d c.n σ.io S5 w∧(∀k,S5 k→S1 k)∧¬S5 A.sb∧σ.io.D.c=[]∧
  ∀io' S5' w',RGV W0 A.r A.d c.n io' S5' w'→io'.D.c=[]→io'.D.l.length=σ.io.D.l.length→Foot S5 S5' w w'→∃S1',SvAt W0 w' A c { σ with io:=io' } vl vo EL EO K S1'∧Foot S1 S1' w w':=by
 obtain⟨S2,h1,h2,h3⟩:=h.sp.1.putIo h.sp.io
 obtain⟨S5,i1,rfl⟩:=h1
 refine⟨S5,i1.rg,fun k hk=>h2 k (.inl hk),i1.ns,i1.c0,fun io' S5' w' hr hc hl hf=>?_⟩
 obtain⟨z1,z2⟩:=i1.put hr hc (by rw[hl];exact i1.fit) hf
 obtain⟨S',z3,z4⟩:=h3 _ _ _ z1 z2
 obtain⟨z5,z6⟩:=h.putS (σ':={ σ with io:=io' }) (S1':=S') ⟨z3,h.sp.2⟩ z4 rfl rfl
 exact⟨S',z5,z4⟩
end
end
section
open Go.RowKit
section
variable{W0 w:World}{A:Adr}{c:Cf}{σ:St}{vl vo:Value}{EL:List Le}{EO:List Te}{K S1:Nat→Prop}
theorem SvAt.noLines(h:SvAt W0 w A c σ vl vo EL EO K S1):∃S1',SvAt W0 (w.setCell ⟨A.sb,4,none⟩ (.slice none 0 0)) A c { σ with lines:=[] } (.slice none 0 0) vo [] EO K S1'∧Foot S1 S1' w (w.setCell ⟨A.sb,4,none⟩ (.slice none 0 0)):=by
 obtain⟨S9,z1,z2⟩:=h.sp.poke 4 (by decide) (.slice none 0 0)
 have k3:=growX_setCell w A.sb 4 (.slice none 0 0)
 have hsb:=h.sbS
 have hlt:=h.lt
 have dn:∀(P:Nat→Prop),(∀k,P k→k<w.heap.size)→(∀k,P k→¬S1 k)→∀k,P k→¬S9 k:=fun P h1 h2 k hk hx=>(z2.new k hx).elim (h2 k hk) (fun h=>by have:=h1 k hk;omega)
 refine⟨S9,⟨z1,⟨World.ownsRow_nil _ _ _ _,fun e he=>absurd he (by simp),fun e he=>absurd he (by simp)⟩,rfl,h.tx.grow k3 (fun k hk e2=>h.d2 k (e2▸hsb) hk) (fun k hk e2=>h.k1 k hk (e2▸hsb)),h.ois,
  fun k hk=>⟨(h.kin k hk).1,Nat.lt_of_lt_of_le (h.kin k hk).2 k3.size⟩,?_,?_,?_,dn _ (fun k hk=>(h.kin k hk).2) h.k1,?_,h.k3⟩,z2⟩
 ·intro k _ e;cases e
 ·exact fun k h1 h2=>dn (TxFoot vo EO) (fun k hk=>(hlt k (.inr (.inr (.inl hk)))).2) (fun k a b=>h.d2 k b a) k h2 h1
 ·intro k e;cases e
 ·intro k _ e;cases e
end
def WSMk12(A:Adr)(σ:St)(vl vo:Value)(ma nx cm start G:Nat)(j b o:Nat):Prop:=False
def PSMk12(A:Adr)(σ:St)(vl vo:Value)(ma nx cm start G:Nat)(i:Nat)(VS:Nat→Value)(LO HI:Nat→Nat)(v:Value)(lo hi:Nat)(w:World):Prop:=
 match i with
 | 0=>v=.int .i64 ((ma+1:Nat):Int)
 | 1=>∃g,v=.slice (some ⟨g,0,none⟩) 8 8∧Buf w g (be8 (ma+1))
 | 2=>v=.int .i64 ((start:Nat):Int)
 | 3=>∃g,v=.slice (some ⟨g,0,none⟩) 8 8∧Buf w g (be8 start)
 | 4=>v=.int .i64 ((cm:Nat):Int)
 | 5=>∃g,v=.slice (some ⟨g,0,none⟩) 8 8∧Buf w g (be8 cm)
 | 6=>v=.pointer (some ⟨A.sb,0,none⟩)
 | 7=>v=.pointer (some ⟨A.sb,0,none⟩)
 | 8=>v=.pointer (some ⟨A.sb,7,none⟩)
 | 9=>v=.int .i64 (nx:Nat)
 | 10=>∃g,v=.slice (some ⟨g,0,none⟩) 8 8∧Buf w g (be8 nx)
 | 11=>∃gt,v=.slice (some ⟨gt,0,none⟩) 4 4∧gt<w.heap.size∧∀(j:Nat)(x:Value),[VS 1,VS 3,VS 5,VS 10][j]? = some x→w.cell? ⟨gt,j,none⟩=some x
 | 12=>∃g c,v=.slice (some ⟨g,0,none⟩) 32 c∧w.ownsRow G 5 1 (.slice (some ⟨g,0,none⟩) 32 c) 32 ((be8 (ma+1)++be8 start++be8 cm++be8 nx).map B)∧G≤g
 | _=>True
abbrev bSMk12:List (List Nat):=[[],[0],[],[0,1,2],[],[0,1,2,3,4],[],[6],[6,7],[6,7,8],[0,1,2,3,4,5,6,7,8,9],[0,1,2,3,4,5,6,7,8,9,10],[0,1,2,3,4,5,6,7,8,9,10,11]]
theorem PSMk12_stable(A:Adr)(σ:St)(vl vo:Value)(ma nx cm start G:Nat)  : ∀i j,i<13→j<13→j≠i→j∉bSMk12.getD i []→(i,j)∉([]:List (Nat×Nat))→∀VS LO HI v lo hi w w',PSMk12 A σ vl vo ma nx cm start G i VS LO HI v lo hi w→GrowC (WSMk12 A σ vl vo ma nx cm start G j) w w'→PSMk12 A σ vl vo ma nx cm start G i VS LO HI v lo hi w':=by
 intro i j hi hj hne hbs hx VS LO HI v lo hj2 w w' h hg
 match i,hi with
 | 0,_|2,_|4,_|6,_|7,_|8,_|9,_=>
  simp only[PSMk12]at h⊢
  exact h
 | 1,_|3,_|5,_|10,_=>
  simp only[PSMk12]at h⊢
  obtain⟨g,h1,h2⟩:=h
  exact⟨g,h1,h2.growx (GrowX.of_growC hg (Y:=fun _=>False) (fun k o h=>h)) (fun h=>h)⟩
 | 11,_=>
  simp only[PSMk12]at h⊢
  obtain⟨g,h1,h2,h3⟩:=h
  exact⟨g,h1,Nat.lt_of_lt_of_le h2 hg.size,fun j x hx=>(hg.cell g j h2 (fun h=>h)).trans (h3 j x hx)⟩
 | 12,_=>
  simp only[PSMk12]at h⊢
  obtain⟨g,c,h1,h2,h3⟩:=h
  exact⟨g,c,h1,own_growx h2 (GrowX.of_growC hg (Y:=fun _=>False) (fun k o h=>h)) (fun _ _ h=>h),h3⟩
 | (q+13),hq=>exact absurd hq (by omega)
theorem PSMk12_cong(A:Adr)(σ:St)(vl vo:Value)(ma nx cm start G:Nat):∀i,i<13→∀VS VS' LO LO' HI HI' v lz hz w,(∀j∈bSMk12.getD i [],VS j=VS' j∧LO j=LO' j∧HI j=HI' j)→PSMk12 A σ vl vo ma nx cm start G i VS LO HI v lz hz w→PSMk12 A σ vl vo ma nx cm start G i VS' LO' HI' v lz hz w:=by
 intro i hi VS VS' LO LO' HI HI' v lz hz w he h
 match i,hi with
 | 0,_|1,_|2,_|3,_|4,_|5,_|6,_|7,_|8,_|9,_|10,_|12,_=>
  simp only[PSMk12]at h⊢
  exact h
 | 11,_=>
  simp only[PSMk12]at h⊢
  obtain⟨e1a,e1b,e1c⟩:=he 1 (by decide)
  obtain⟨e3a,e3b,e3c⟩:=he 3 (by decide)
  obtain⟨e5a,e5b,e5c⟩:=he 5 (by decide)
  obtain⟨e10a,e10b,e10c⟩:=he 10 (by decide)
  simp only[←e1a,←e1b,←e1c,←e3a,←e3b,←e3c,←e5a,←e5b,←e5c,←e10a,←e10b,←e10c]
  exact h
 | (q+13),hq=>exact absurd hq (by omega)
def WSMk13(A:Adr)(σ:St)(vl vo:Value)(ma nx cm start g cg G G0:Nat)(j b o:Nat):Prop:=(j=10∧b=g)
def PSMk13(A:Adr)(σ:St)(vl vo:Value)(ma nx cm start g cg G G0:Nat)(i:Nat)(v:Value)(lo hi:Nat)(w:World):Prop:=
 match i with
 | 0=>v=.pointer (some ⟨A.sb,0,none⟩)
 | 1=>v=.pointer (some ⟨A.sb,0,none⟩)
 | 2=>v=.pointer (some ⟨A.sb,0,none⟩)
 | 3=>v=.pointer (some ⟨A.d,0,none⟩)
 | 4=>v=.int .i64 ((ma+1:Nat):Int)
 | 5=>v=.int .i64 (((ma+1) % 2:Nat):Int)
 | 6=>v=.slice (some ⟨g,0,none⟩) 32 cg
 | 7=>v=.slice (some ⟨g,0,none⟩) 32 cg
 | 8=>v=.int .i64 32
 | 9=>v=.int .i64 96
 | 10=>∃g2 c2,v=.slice (some ⟨g2,0,none⟩) 128 c2∧w.ownsRow G0 5 1 (.slice (some ⟨g2,0,none⟩) 128 c2) 128 ((masterB (ma+1) start cm nx).map B)∧(g2=g∨G≤g2)
 | _=>True
theorem PSMk13_stable(A:Adr)(σ:St)(vl vo:Value)(ma nx cm start g cg G G0:Nat)  : ∀i j,i<11→j<11→j≠i→j∉([[],[0],[0,1],[0,1,2],[],[4],[],[],[7],[7,8],[6,7,8,9]]:List (List Nat)).getD i []→∀v lo hi w w',PSMk13 A σ vl vo ma nx cm start g cg G G0 i v lo hi w→GrowC (WSMk13 A σ vl vo ma nx cm start g cg G G0 j) w w'→PSMk13 A σ vl vo ma nx cm start g cg G G0 i v lo hi w':=by
 intro i j hi hj hne hbs v lo hj2 w w' h hg
 match i,hi with
 | 0,_|1,_|2,_|3,_|4,_|5,_|6,_|7,_|8,_|9,_=>
  simp only[PSMk13]at h⊢
  exact h
 | 10,_=>
  simp only[PSMk13]at h⊢
  obtain⟨g2,c2,h1,h2,h3⟩:=h
  exact⟨g2,c2,h1,own_growx h2 (GrowX.of_growC hg (Y:=fun _=>False) (fun k o h=>hne h.1)) (fun _ _ h=>h),h3⟩
 | (q+11),hq=>exact absurd hq (by omega)
section
variable{W0 w w' w2:World}{A:Adr}{c:Cf}{σ:St}{S:Nat→Prop}{vl vo vo':Value}{EL:List Le}{EO:List Te}{K S1:Nat→Prop}{X:Nat→Prop}
set_option maxRecDepth 100000 in
set_option maxHeartbeats 6400000 in
theorem mark0_at(h:SvAt W0 w A c σ vl vo [] EO K S1)(start:Nat)(hs1:σ.io.R.start≤start)(hs2:start≤σ.io.R.fin)(hsn:start≤1099511627776)(hma:σ.master≤1099511627776)(hnx:σ.next≤1099511627776)(hcm:σ.commits≤1099511627776):
  Calls Tryz.prog 91 #[.pointer (some ⟨A.sb,0,none⟩),.int .i64 (start:Nat)] w fun er w'=>∃S1',er=.returned (.int .i64 0)∧SvAt W0 w' A c (σ.mark start) (.slice none 0 0) vo [] EO K S1'∧Foot (sfoot S1 vl vo EO K) (sfoot S1' (.slice none 0 0) vo EO K) w w':=by
 have HS:=Lib.hid h
 have HS1:=Lib.hid hs1
 have HS2:=Lib.hid hs2
 obtain⟨cm,hcmm⟩:∃x,σ.commits=x:=⟨_,rfl⟩
 obtain⟨ma,hmaa⟩:∃x,σ.master=x:=⟨_,rfl⟩
 obtain⟨nx,hnxx⟩:∃x,σ.next=x:=⟨_,rfl⟩
 have c8:w.cell? ⟨A.sb,8,none⟩=some (.int .i64 (cm:Nat)):=by rw[←hcmm];exact h.sbx.cell 8 _ rfl
 have c6:w.cell? ⟨A.sb,6,none⟩=some (.int .i64 (ma:Nat)):=by rw[←hmaa];exact h.sbx.cell 6 _ rfl
 obtain⟨al,cl,hvl⟩:=own_shape h.ln.row
 have c4:w.cell? ⟨A.sb,4,none⟩=some (.slice al 0 cl):=by have:=h.sbx.cell 4 _ rfl;rw[hvl]at this;exact this
 have clt:=h.sbx.lt
 have HCM:=Lib.hid hcmm
 have HMA:=Lib.hid hmaa
 have HNX:=Lib.hid hnxx
 rw[hcmm]at hcm
 rw[hmaa]at hma
 rw[hnxx]at hnx
 clear h hs1 hs2 hcmm hmaa hnxx hvl
 go_enter Tryz.func91,Tryz.ntmps91
 go_wp2_with fail
 go_loopw [5,6,21] (fun v5 v6 i wr=>i=.int .i64 (0:Nat)∧v5=.int .i64 (cm:Nat)∧v6=.slice none 0 0∧wr=w) (fun _ _ _ _=>0)
 case atStart=>exact⟨rfl,rfl,rfl,rfl⟩
 case round=>
  obtain⟨rfl,rfl,rfl,hy⟩:=hrel
  obtain rfl:w=wr:=hy.symm
  go_upto_region 12 with (fail)
  have bs:Box w A.sb [.pointer (some ⟨A.d,0,none⟩),.pointer (some ⟨A.r,0,none⟩),.pointer (some ⟨A.f,0,none⟩),.pointer (some ⟨A.g,0,none⟩),vl,vo,.int .i64 (ma:Nat),.int .i64 (nx:Nat),.int .i64 (cm:Nat),.bool false,.int .i64 (σ.redone:Nat),.int .i64 (σ.undone:Nat)]:=by have:=HS.out.sbx;rw[←HCM.out,←HMA.out,←HNX.out];exact this
  have hB:Below w.heap.size w w:=Below.refl _ _
  clear c8 c6 c4 clt
  refine wp_region_partsDV (WSMk12 A σ vl vo ma nx cm start (w.heap.size)) 13 bSMk12 [some 45,some 46,some 47,some 48,some 49,some 50,some 51,some 52,some 53,some 54,some 55,some 56,some 57,some 10] [[],[0],[],[2],[],[4],[],[6],[7],[8],[9],[1,3,5,10],[1,3,5,10,11]] [0,1,2,3,4,5,6,7,8,9,10,11,12] [] (by decide) (by kernel_rfl) (by kernel_rfl) rfl (PSMk12 A σ vl vo ma nx cm start (w.heap.size)) (PSMk12_cong A σ vl vo ma nx cm start (w.heap.size)) (PSMk12_stable A σ vl vo ma nx cm start (w.heap.size)) ?pSMk12 ?_
  case pSMk12=>
   intro i hi o ho vs lo hx_ w' hg hp hdd
   match i,hi with
   | 0,_|2,_|4,_|6,_=>
    obtain rfl:=Option.some.inj ho
    clear ho
    simp only[actsD,Act.put,actL]
    have hsz:=hg.size
    have hgB:Below w.heap.size w w':=hg.below (fun k hk=>⟨hk,fun o=>by rintro⟨j,_,_,_,hw⟩;exact False.elim hw⟩)
    go_wp2
    exact⟨_,rfl,GrowC.refl _,rfl⟩
   | 1,_=>
    obtain rfl:=Option.some.inj ho
    clear ho
    simp only[actsD,Act.put,actL]
    obtain⟨_,_,_,h0⟩:=hp 0 (by simp)
    simp only[PSMk12]at h0
    have hsz:=hg.size
    have hgB:Below w.heap.size w w':=hg.below (fun k hk=>⟨hk,fun o=>by rintro⟨j,_,_,_,hw⟩;exact False.elim hw⟩)
    rw[h0]
    go_wp2_with fail
    refine(eight_any w' (ma+1) (by omega)).mono ?_
    rintro er wh ⟨g2,rfl,hbuf,hg2,hbl⟩
    go_wp2
    exact⟨_,rfl,GrowC.of_grow ⟨hbl.os,hbl.tape,hbl.output,hbl.size,hbl.block⟩,g2,rfl,hbuf⟩
   | 3,_=>
    obtain rfl:=Option.some.inj ho
    clear ho
    simp only[actsD,Act.put,actL]
    obtain⟨_,_,_,h2⟩:=hp 2 (by simp)
    simp only[PSMk12]at h2
    have hsz:=hg.size
    have hgB:Below w.heap.size w w':=hg.below (fun k hk=>⟨hk,fun o=>by rintro⟨j,_,_,_,hw⟩;exact False.elim hw⟩)
    rw[h2]
    go_wp2_with fail
    refine(eight_any w' start (by omega)).mono ?_
    rintro er wh ⟨g2,rfl,hbuf,hg2,hbl⟩
    go_wp2
    exact⟨_,rfl,GrowC.of_grow ⟨hbl.os,hbl.tape,hbl.output,hbl.size,hbl.block⟩,g2,rfl,hbuf⟩
   | 5,_=>
    obtain rfl:=Option.some.inj ho
    clear ho
    simp only[actsD,Act.put,actL]
    obtain⟨_,_,_,h4⟩:=hp 4 (by simp)
    simp only[PSMk12]at h4
    have hsz:=hg.size
    have hgB:Below w.heap.size w w':=hg.below (fun k hk=>⟨hk,fun o=>by rintro⟨j,_,_,_,hw⟩;exact False.elim hw⟩)
    rw[h4]
    go_wp2_with fail
    refine(eight_any w' cm (by omega)).mono ?_
    rintro er wh ⟨g2,rfl,hbuf,hg2,hbl⟩
    go_wp2
    exact⟨_,rfl,GrowC.of_grow ⟨hbl.os,hbl.tape,hbl.output,hbl.size,hbl.block⟩,g2,rfl,hbuf⟩
   | 7,_=>
    obtain rfl:=Option.some.inj ho
    clear ho
    simp only[actsD,Act.put,actL]
    obtain⟨_,_,_,h6⟩:=hp 6 (by simp)
    simp only[PSMk12]at h6
    have hsz:=hg.size
    have hgB:Below w.heap.size w w':=hg.below (fun k hk=>⟨hk,fun o=>by rintro⟨j,_,_,_,hw⟩;exact False.elim hw⟩)
    rw[h6]
    go_wp2
    exact⟨_,rfl,GrowC.refl _,rfl⟩
   | 8,_=>
    obtain rfl:=Option.some.inj ho
    clear ho
    simp only[actsD,Act.put,actL]
    obtain⟨_,_,_,h7⟩:=hp 7 (by simp)
    simp only[PSMk12]at h7
    have hsz:=hg.size
    have hgB:Below w.heap.size w w':=hg.below (fun k hk=>⟨hk,fun o=>by rintro⟨j,_,_,_,hw⟩;exact False.elim hw⟩)
    rw[h7]
    go_wp2
    exact⟨_,rfl,GrowC.refl _,rfl⟩
   | 9,_=>
    obtain rfl:=Option.some.inj ho
    clear ho
    simp only[actsD,Act.put,actL]
    obtain⟨_,_,_,h8⟩:=hp 8 (by simp)
    simp only[PSMk12]at h8
    have hsz:=hg.size
    have hgB:Below w.heap.size w w':=hg.below (fun k hk=>⟨hk,fun o=>by rintro⟨j,_,_,_,hw⟩;exact False.elim hw⟩)
    rw[h8]
    have e0:=(hg.cell (A.sb) 7 bs.lt (by rintro⟨j,_,hne,hb,hw⟩;exact False.elim hw)).trans (bs.cell 7 _ rfl)
    go_wp2
    exact⟨_,rfl,GrowC.refl _,rfl⟩
   | 10,_=>
    obtain rfl:=Option.some.inj ho
    clear ho
    simp only[actsD,Act.put,actL]
    obtain⟨_,_,_,h9⟩:=hp 9 (by simp)
    simp only[PSMk12]at h9
    have hsz:=hg.size
    have hgB:Below w.heap.size w w':=hg.below (fun k hk=>⟨hk,fun o=>by rintro⟨j,_,_,_,hw⟩;exact False.elim hw⟩)
    rw[h9]
    go_wp2_with fail
    refine(eight_any w' nx (by omega)).mono ?_
    rintro er wh ⟨g2,rfl,hbuf,hg2,hbl⟩
    go_wp2
    exact⟨_,rfl,GrowC.of_grow ⟨hbl.os,hbl.tape,hbl.output,hbl.size,hbl.block⟩,g2,rfl,hbuf⟩
   | 11,_=>
    obtain rfl:=Option.some.inj ho
    clear ho
    simp only[actsD,Act.put,actL]
    obtain⟨_,_,_,h1⟩:=hp 1 (by simp)
    simp only[PSMk12]at h1
    obtain⟨_,_,_,h3⟩:=hp 3 (by simp)
    simp only[PSMk12]at h3
    obtain⟨_,_,_,h5⟩:=hp 5 (by simp)
    simp only[PSMk12]at h5
    obtain⟨_,_,_,h10⟩:=hp 10 (by simp)
    simp only[PSMk12]at h10
    have hsz:=hg.size
    have hgB:Below w.heap.size w w':=hg.below (fun k hk=>⟨hk,fun o=>by rintro⟨j,_,_,_,hw⟩;exact False.elim hw⟩)
    obtain⟨g1,e1,_⟩:=h1
    obtain⟨g3,e3,_⟩:=h3
    obtain⟨g5,e5,_⟩:=h5
    obtain⟨g10,e10,_⟩:=h10
    have hbl:=(Below.refl w'.heap.size w').alloc (Nat.le_refl _) (.cells #[vs 1,vs 3,vs 5,vs 10] 48)
    have hbx:=Box.new w' #[vs 1,vs 3,vs 5,vs 10] 48 rfl
    rw[e1,e3,e5,e10]at hbl hbx⊢
    go_wp2
    exact⟨_,rfl,GrowC.of_grow ⟨hbl.os,hbl.tape,hbl.output,hbl.size,hbl.block⟩,_,rfl,by simp,fun j x hx=>by rw[e1,e3,e5,e10]at hx;exact hbx.cell j x hx⟩
   | 12,_=>
    obtain rfl:=Option.some.inj ho
    clear ho
    simp only[actsD,Act.put,actL]
    obtain⟨_,_,_,h1⟩:=hp 1 (by simp)
    simp only[PSMk12]at h1
    obtain⟨_,_,_,h3⟩:=hp 3 (by simp)
    simp only[PSMk12]at h3
    obtain⟨_,_,_,h5⟩:=hp 5 (by simp)
    simp only[PSMk12]at h5
    obtain⟨_,_,_,h10⟩:=hp 10 (by simp)
    simp only[PSMk12]at h10
    obtain⟨_,_,_,h11⟩:=hp 11 (by simp)
    simp only[PSMk12]at h11
    have hsz:=hg.size
    have hgB:Below w.heap.size w w':=hg.below (fun k hk=>⟨hk,fun o=>by rintro⟨j,_,_,_,hw⟩;exact False.elim hw⟩)
    obtain⟨g1,e1,k1⟩:=h1
    obtain⟨g3,e3,k3⟩:=h3
    obtain⟨g5,e5,k5⟩:=h5
    obtain⟨g10,e10,k10⟩:=h10
    obtain⟨gt,e11,l11,c11⟩:=h11
    rw[e11]
    have hcat:catB [(vs 1,be8 (ma+1)),(vs 3,be8 start),(vs 5,be8 cm),(vs 10,be8 nx)]=(be8 (ma+1)++be8 start++be8 cm++be8 nx):=by simp[catB]
    have hlen:((be8 (ma+1)++be8 start++be8 cm++be8 nx)).length=32:=by simp only[List.length_append,be8_len]
    have rd:∀(q:Nat)(l:Nat),Buf w' q (be8 l)→Reads 1 w' (.slice (some ⟨q,0,none⟩) 8 8) (be8 l).length ((be8 l).map B):=fun q l hb=>by rw[be8_len];exact Reads.of_own (hb.own (base:=0) (be8_len _) (Nat.zero_le _) (by decide))
    have hcall:=concat_any w' [(vs 1,be8 (ma+1)),(vs 3,be8 start),(vs 5,be8 cm),(vs 10,be8 nx)] 4 gt 4 rfl (by decide) (fun j x hx=>c11 j x.1 (by
     match j,hx with
     | 0,hx=>obtain rfl:=Option.some.inj hx;rfl
     | 1,hx=>obtain rfl:=Option.some.inj hx;rfl
     | 2,hx=>obtain rfl:=Option.some.inj hx;rfl
     | 3,hx=>obtain rfl:=Option.some.inj hx;rfl
     | (q+4),hx=>cases hx)) l11 (fun x hx=>by
     simp only[List.mem_cons,List.not_mem_nil,or_false]at hx
     rcases hx with rfl|rfl|rfl|rfl
     ·rw[e1];exact rd _ _ k1
     ·rw[e3];exact rd _ _ k3
     ·rw[e5];exact rd _ _ k5
     ·rw[e10];exact rd _ _ k10) (by rw[hcat,hlen];decide) (by rw[hcat,hlen];decide)
    rw[hcat,hlen]at hcall
    have HCA:=Lib.hid hcall
    clear hcall e1 e3 e5 e10 e11 k1 k3 k5 k10 l11 c11 rd
    go_wp2_with fail
    refine HCA.out.mono ?_
    rintro er wh ⟨g,c,rfl,ho,hbl⟩
    go_wp2
    exact⟨_,rfl,GrowC.of_grow ⟨hbl.os,hbl.tape,hbl.output,hbl.size,hbl.block⟩,g,c,rfl,own_base ho hgB.size,Nat.le_trans hgB.size (ho.lt g rfl).1⟩
   | (q+13),hq=>exact absurd hq (by omega)
  intro vS lo hi y12 hg hp hd
  obtain⟨_,_,_,h0⟩:=hp 0 (by decide)
  replace h0:=h0 (by decide)
  obtain⟨_,_,_,h1⟩:=hp 1 (by decide)
  replace h1:=h1 (by decide)
  obtain⟨_,_,_,h2⟩:=hp 2 (by decide)
  replace h2:=h2 (by decide)
  obtain⟨_,_,_,h3⟩:=hp 3 (by decide)
  replace h3:=h3 (by decide)
  obtain⟨_,_,_,h4⟩:=hp 4 (by decide)
  replace h4:=h4 (by decide)
  obtain⟨_,_,_,h5⟩:=hp 5 (by decide)
  replace h5:=h5 (by decide)
  obtain⟨_,_,_,h6⟩:=hp 6 (by decide)
  replace h6:=h6 (by decide)
  obtain⟨_,_,_,h7⟩:=hp 7 (by decide)
  replace h7:=h7 (by decide)
  obtain⟨_,_,_,h8⟩:=hp 8 (by decide)
  replace h8:=h8 (by decide)
  obtain⟨_,_,_,h9⟩:=hp 9 (by decide)
  replace h9:=h9 (by decide)
  obtain⟨_,_,_,h10⟩:=hp 10 (by decide)
  replace h10:=h10 (by decide)
  obtain⟨_,_,_,h11⟩:=hp 11 (by decide)
  replace h11:=h11 (by decide)
  obtain⟨_,_,_,h12⟩:=hp 12 (by decide)
  replace h12:=h12 (by decide)
  simp only[PSMk12]at h0 h1 h2 h3 h4 h5 h6 h7 h8 h9 h10 h11 h12
  clear hp hd
  have hsz:=hg.size
  replace bs:=bs.grow hg (by intro i _;rintro⟨j,_,hw⟩;exact False.elim hw)
  replace hB:=hB.trans (hg.below (fun k hk=>⟨by omega,fun o=>by rintro⟨j,_,hw⟩;exact False.elim hw⟩))
  have hr:List.range 13=[0,1,2,3,4,5,6,7,8,9,10,11,12]:=rfl
  rw[hr]
  clear hr
  simp only[List.drop_succ_cons,List.drop_zero,List.drop_nil,actsD,Act.put,actL,h0,h2,h4,h6,h7,h8,h9]
  clear h0 h2 h4 h6 h7 h8 h9
  obtain⟨g,cg,h12a,h12b,h12c⟩:=h12
  rw[h12a]
  have HROW:=Lib.hid h12b
  have HGG:=Lib.hid h12c
  have HB12:=Lib.hid hB
  have hs12:=HS.out.below hB
  have HS12:=Lib.hid hs12
  clear h1 h3 h5 h10 h11 h12a h12b h12c hB hg hsz hs12
  have bs13:Box y12 A.sb [.pointer (some ⟨A.d,0,none⟩),.pointer (some ⟨A.r,0,none⟩),.pointer (some ⟨A.f,0,none⟩),.pointer (some ⟨A.g,0,none⟩),vl,vo,.int .i64 (ma:Nat),.int .i64 (nx:Nat),.int .i64 (cm:Nat),.bool false,.int .i64 (σ.redone:Nat),.int .i64 (σ.undone:Nat)]:=by have:=HS12.out.sbx;rw[←HCM.out,←HMA.out,←HNX.out];exact this
  clear bs
  go_upto_region 13 with (fail)
  have bs:=bs13
  have hlx:=HS12.out.lt
  have hgs:g≠A.sb:=fun e1=>by have:=(HS.out.lt A.sb (.inl HS.out.sbS)).2;have:=HGG.out;omega
  have hB:Below 0 y12 y12:=Below.refl _ _
  have HGS:=Lib.hid hgs
  clear bs13 hlx
  refine wp_region_partsDC (WSMk13 A σ vl vo ma nx cm start g cg (y12.heap.size) (w.heap.size)) 11 [[],[0],[0,1],[0,1,2],[],[4],[],[],[7],[7,8],[6,7,8,9]] [some 58,some 59,some 60,some 61,some 62,some 63,some 64,some 65,some 66,some 67,some 68,some 69,some 11] (by kernel_rfl) (by kernel_rfl) rfl (PSMk13 A σ vl vo ma nx cm start g cg (y12.heap.size) (w.heap.size)) (PSMk13_stable A σ vl vo ma nx cm start g cg (y12.heap.size) (w.heap.size)) ?pSMk13 ?_
  case pSMk13=>
   intro i hi o ho vs lo hx_ w' hg hp
   match i,hi with
   | 0,_|4,_|6,_|7,_=>
    obtain rfl:=Option.some.inj ho
    clear ho
    simp only[actsD,Act.put,actL]
    have hsz:=hg.size
    go_wp2
    exact⟨_,rfl,GrowC.refl _,rfl⟩
   | 1,_=>
    obtain rfl:=Option.some.inj ho
    clear ho
    simp only[actsD,Act.put,actL]
    obtain⟨_,_,_,h0⟩:=hp 0 (by simp)
    simp only[PSMk13]at h0
    have hsz:=hg.size
    rw[h0]
    go_wp2
    exact⟨_,rfl,GrowC.refl _,rfl⟩
   | 2,_=>
    obtain rfl:=Option.some.inj ho
    clear ho
    simp only[actsD,Act.put,actL]
    obtain⟨_,_,_,h1⟩:=hp 1 (by simp)
    simp only[PSMk13]at h1
    have hsz:=hg.size
    rw[h1]
    go_wp2
    exact⟨_,rfl,GrowC.refl _,rfl⟩
   | 3,_=>
    obtain rfl:=Option.some.inj ho
    clear ho
    simp only[actsD,Act.put,actL]
    obtain⟨_,_,_,h2⟩:=hp 2 (by simp)
    simp only[PSMk13]at h2
    have hsz:=hg.size
    rw[h2]
    have e0:=(hg.cell (A.sb) 0 bs.lt (by rintro⟨j,_,hne,hb,hw⟩;simp only[WSMk13]at hw;exact hgs hw.2.symm)).trans (bs.cell 0 _ rfl)
    go_wp2
    exact⟨_,rfl,GrowC.refl _,rfl⟩
   | 5,_=>
    obtain rfl:=Option.some.inj ho
    clear ho
    simp only[actsD,Act.put,actL]
    obtain⟨_,_,_,h4⟩:=hp 4 (by simp)
    simp only[PSMk13]at h4
    have hsz:=hg.size
    rw[h4]
    go_wp2
    refine⟨_,rfl,GrowC.refl _,?_⟩
    simp only[PSMk13]
    first|rfl|(congr 1)|(congr 1;omega)
   | 8,_=>
    obtain rfl:=Option.some.inj ho
    clear ho
    simp only[actsD,Act.put,actL]
    obtain⟨_,_,_,h7⟩:=hp 7 (by simp)
    simp only[PSMk13]at h7
    have hsz:=hg.size
    rw[h7]
    go_wp2
    exact⟨_,rfl,GrowC.refl _,rfl⟩
   | 9,_=>
    obtain rfl:=Option.some.inj ho
    clear ho
    simp only[actsD,Act.put,actL]
    obtain⟨_,_,_,h8⟩:=hp 8 (by simp)
    simp only[PSMk13]at h8
    have hsz:=hg.size
    rw[h8]
    go_wp2
    exact⟨_,rfl,GrowC.refl _,rfl⟩
   | 10,_=>
    obtain rfl:=Option.some.inj ho
    clear ho
    simp only[actsD,Act.put,actL]
    obtain⟨_,_,_,h6⟩:=hp 6 (by simp)
    simp only[PSMk13]at h6
    obtain⟨_,_,_,h9⟩:=hp 9 (by simp)
    simp only[PSMk13]at h9
    have hsz:=hg.size
    rw[h6,h9]
    have hgx:GrowX (fun _=>False) y12 w':=GrowX.of_growC hg (fun k o ⟨j,hj,hne,hb,hw⟩=>hne hw.1)
    have hown:=own_growx HROW.out hgx (fun _ _ h=>h)
    have hbase:w.heap.size≤w'.heap.size:=Nat.le_trans HB12.out.size hgx.size
    go_wp2_with (at_builtin;refine wpList_append_zeros bytesOf (by kernel_rfl) (.tmp 64) (.tmp 67) rfl rfl rfl hown (k:=96) rfl (by decide) hbase ?_;intro gq cq wq ho2 hg2 hn2)
    exact⟨_,rfl,hg2.mono (fun b o h=>⟨rfl,h⟩),gq,cq,rfl,ho2,hn2.imp (fun h=>h) (fun h=>by omega)⟩
   | (q+11),hq=>exact absurd hq (by omega)
  intro vS lo hi y13 hg hp hd
  obtain⟨_,_,_,h0⟩:=hp 0 (by decide)
  obtain⟨_,_,_,h1⟩:=hp 1 (by decide)
  obtain⟨_,_,_,h2⟩:=hp 2 (by decide)
  obtain⟨_,_,_,h3⟩:=hp 3 (by decide)
  obtain⟨_,_,_,h4⟩:=hp 4 (by decide)
  obtain⟨_,_,_,h5⟩:=hp 5 (by decide)
  obtain⟨_,_,_,h6⟩:=hp 6 (by decide)
  obtain⟨_,_,_,h7⟩:=hp 7 (by decide)
  obtain⟨_,_,_,h8⟩:=hp 8 (by decide)
  obtain⟨_,_,_,h9⟩:=hp 9 (by decide)
  obtain⟨_,_,_,h10⟩:=hp 10 (by decide)
  simp only[PSMk13]at h0 h1 h2 h3 h4 h5 h6 h7 h8 h9 h10
  clear hp hd
  have hsz:=hg.size
  replace bs:=bs.grow hg (by intro i _;rintro⟨j,_,hw⟩;simp only[WSMk13]at hw;first|exact hgs hw.2.symm|(have:=hw.2;omega))
  replace hB:=hB.trans (hg.below (fun k hk=>⟨by omega,fun o=>by rintro⟨j,_,hw⟩;simp only[WSMk13]at hw;first|exact hgs hw.2.symm|(have:=hw.2;omega)⟩))
  have hr:List.range 11=[0,1,2,3,4,5,6,7,8,9,10]:=rfl
  rw[hr]
  clear hr
  simp only[List.drop_succ_cons,List.drop_zero,List.drop_nil,actsD,Act.put,actL,h0,h1,h2,h3,h4,h5,h6,h7,h8,h9]
  clear h0 h1 h2 h3 h4 h5 h6 h7 h8 h9
  obtain⟨g2,cg2,h10a,h10b,h10c⟩:=h10
  rw[h10a]
  have HROW2:=Lib.hid h10b
  have HG2:=Lib.hid h10c
  have HX13:=Lib.hid (GrowX.of_growC hg (Y:=fun b=>b=g) (fun k o ⟨j,_,hw⟩=>hw.2))
  have hgx13:GrowX (fun b=>b=g) w y13:=(grow_no HB12.out).trans HX13.out
  have hs13:=HS.out.other hgx13 (fun b e1=>by subst e1;exact HGG.out)
  have hltS:=HS.out.lt
  obtain⟨S5,hrg5,hsub5,hnsb,hc5,hput5⟩:=hs13.useRg
  have HRG:=Lib.hid hrg5
  have HNSB:=Lib.hid hnsb
  have HPUT:=Lib.hid hput5
  have HC5:=Lib.hid hc5
  have HF13:Hid (Foot (sfoot S1 vl vo EO K) (sfoot S1 vl vo EO K) w y13):=Lib.hid ((Foot.below (grow_below (Below.refl w.heap.size w))).fin hgx13 (fun b e1=>.inr (by subst e1;exact HGG.out)) (fun b h=>.inl h))
  have hlen128:(masterB (ma+1) start cm nx).length=128:=by unfold masterB;simp only[List.length_append,be8_len,List.length_replicate]
  have hgood:=hrg5.good
  have hfit:=hrg5.fits
  have hok2:=hrg5.ok.n2
  have hwi:(ma+1) % 2<σ.io.D.l.length:=by omega
  have hcallW:=rdwrite_rg hrg5 ((ma+1) % 2) hwi _ hlen128 _ (Reads.of_own HROW2.out) (fun b e1 h1=>by
   have e3:g2=b:=by simpa[Value.ownBlock]using e1
   subst e3
   have h2:=(hltS _ (.inl (hsub5 _ h1))).2
   have:=HGG.out
   have:=HB12.out.size
   rcases HG2.out with h3|h3<;>omega) (by rw[hc5];exact Nat.zero_le _)
  have HCW:=Lib.hid hcallW
  obtain⟨w1,w2,w3⟩:=hgood.write ((ma+1) % 2) (masterB (ma+1) start cm nx) hwi hlen128
  obtain⟨v1,v2,v3,_⟩:=w1.sync
  have HV3:=Lib.hid v3
  have HV2:Hid ((σ.io.D.write ((ma+1) % 2) (masterB (ma+1) start cm nx)).sync.l.length=σ.io.D.l.length):=Lib.hid (by rw[v2,w2])
  have bs13:=bs
  have HBS:=Lib.hid bs13
  clear h10a h10b h10c hB hg hsz bs bs13 hgx13 hs13 hltS hrg5 hsub5 hnsb hc5 hput5 hlen128 hgood hfit hok2 hwi hcallW w1 w2 w3 v1 v2 v3
  go_wp2_with fail
  refine HCW.out.mono ?_
  rintro er y14 ⟨S6,rfl,hrg6,hf6⟩
  have hbs14:=HBS.out.growx hf6.grow HNSB.out
  have HBS14:=Lib.hid hbs14
  have HRG6:=Lib.hid hrg6
  have HF6:=Lib.hid hf6
  have c0:=hbs14.cell 0 _ rfl
  have clt:=hbs14.lt
  have hsy:=rsync_rg hrg6
  have HSY:=Lib.hid hsy
  have hnsb6:¬S6 A.sb:=fun h=>(hf6.new _ h).elim HNSB.out (fun h=>by have:=HBS.out.lt;omega)
  have HNSB6:=Lib.hid hnsb6
  clear hrg6 hf6 hbs14 hsy hnsb6
  go_wp2_with fail
  refine HSY.out.mono ?_
  rintro er y15 ⟨S7,rfl,hrg7,hf7⟩
  have hbs15:=HBS14.out.growx hf7.grow HNSB6.out
  have HBS15:=Lib.hid hbs15
  have HF7:=Lib.hid hf7
  have c1:=hbs15.cell 1 _ rfl
  have clt2:=hbs15.lt
  have hnsb7:¬S7 A.sb:=fun h=>(hf7.new _ h).elim HNSB6.out (fun h=>by have:=HBS14.out.lt;omega)
  have HNSB7:=Lib.hid hnsb7
  have htr:=rtrim_rg hrg7 start HS1.out HS2.out
  have HTR:=Lib.hid htr
  clear hrg7 hf7 hbs15 hnsb7 htr c0 clt
  go_wp2_with fail
  refine HTR.out.mono ?_
  rintro er y16 ⟨S8,rfl,hrg8,hf8⟩
  obtain⟨S9,hs9,hf9⟩:=HPUT.out _ _ _ hrg8 HV3.out HV2.out (HF6.out.trans (HF7.out.trans hf8))
  have HS9:=Lib.hid hs9
  have HF9:=Lib.hid hf9
  obtain⟨S10,hs10,hf10⟩:=hs9.pokeN (σ':={ σ with io:={ D:=(σ.io.D.write ((ma+1) % 2) (masterB (ma+1) start cm nx)).sync,R:=σ.io.R.trim start },master:=ma+1 }) 6 (by decide) (.int .i64 ((ma:Int)+1)) rfl rfl rfl rfl rfl
  have HS10:=Lib.hid hs10
  have HF10:=Lib.hid hf10
  have c6:=hs9.sbx.cell 6 _ rfl
  have cfz:=hs9.sbx.free
  have clt3:=hs9.sbx.lt
  have hs9bx:=hs9.sbx
  clear hrg8 hf8 hs9 hf9 hs10 hf10 c1 clt2
  go_upto_region 20 with (fail)
  have c4:=hs9bx.cell 4 _ rfl
  obtain⟨S11,hs11,hf11⟩:=HS10.out.noLines
  have HS11:=Lib.hid hs11
  have HF11:=Lib.hid hf11
  clear hs11 hf11 hs9bx
  go_wp2_with fail
  go_ret
  have e1:σ.mark start=({ σ with io:={ D:=(σ.io.D.write ((ma+1) % 2) (masterB (ma+1) start cm nx)).sync,R:=σ.io.R.trim start },master:=ma+1,lines:=[] }:St):=by
   have h1:σ.lines=[]:=HS.out.lis
   unfold St.mark
   rw[h1,HMA.out,HCM.out,HNX.out]
   rfl
  rw[e1]
  have FF:=HF13.out.trans ((sfoot_of HF9.out).trans (sfoot_of HF10.out))
  have F2:Foot (sfoot S10 vl vo EO K) (sfoot S11 (.slice none 0 0) vo EO K) _ _:=sfoot_foot (HF11.out.grow.mono (fun k h=>.inl h)) HF11.out.new (fun k h=>by cases h) (fun k h=>.inl h) (fun k h=>.inl h)
  first|exact⟨_,rfl,HS11.out,FF.trans F2⟩|exact⟨rfl,_,HS11.out,FF.trans F2⟩
end
end
end Go.Proofs.YtpajagkhmodbnaaGreat

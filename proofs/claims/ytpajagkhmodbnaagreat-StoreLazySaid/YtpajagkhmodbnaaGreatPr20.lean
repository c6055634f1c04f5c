/- Pr: texts of the store seat laid together by program: SvEnd SvUndo SvRoll SvCommit SvRefuse SvCat SvTrim SvMark SvClean. Conditions: each theorem names its own. -/
import Derived.Test.YtpajagkhmodbnaaGreatPr19
import Derived.Test.YtpajagkhmodbnaaGreatPr11
import Derived.LaidEqlPtr
namespace Go.Proofs.YtpajagkhmodbnaaGreat
set_option maxRecDepth 100000
set_option maxHeartbeats 12800000
open Lib(hid)
set_option linter.unusedSimpArgs false
set_option linter.unusedVariables false
section
open Go.RowKit
theorem zF{α β:Type}(f:α->β):∀(l:List α)(i:Nat),(l.eraseIdx i).map f=(l.map f).eraseIdx i
 | [],i=>by simp
 | a::r,0=>by simp
 | a::r,i+1=>by simp[zF f r i]
theorem DX:∀(L:List Nat)(i t:Nat),L[i]? = some t->L.Nodup->L.filter (fun x=>!(x==t))=L.eraseIdx i
 | [],i,t,h,_=>by simp at h
 | a::r,0,t,h,hn=>by
  obtain rfl:a=t:=by simpa using h
  have h1:=List.nodup_cons.1 hn;rw[List.eraseIdx_cons_zero,List.filter_cons_of_neg (by simp)];refine List.filter_eq_self.2 (fun x hx=>?_);have:x≠a:=fun e=>h1.1 (e▸hx);simpa using this
 | a::r,i+1,t,h,hn=>by
  have h1:=List.nodup_cons.1 hn;have h2:r[i]? = some t:=by simpa using h
  have h3:a≠t:=fun e=>h1.1 (e▸List.mem_of_getElem? h2);rw[List.eraseIdx_cons_succ,List.filter_cons_of_pos (by simpa using h3),DX r i t h2 h1.2]
def zG(W0 ws:World)(A:bG)(c:Cf)(σ:St)(vl vo:Value)(EL:List Le)(EO:List Te)(K S1:Nat->Prop)(e:Te)(t3 T G:Nat)(j b:Nat):Prop:=(j=10/\(S1 b\/dS vl b))
def qA(W0 ws:World)(A:bG)(c:Cf)(σ:St)(vl vo:Value)(EL:List Le)(EO:List Te)(K S1:Nat->Prop)(e:Te)(t3 T G:Nat)(i:Nat)(VS:Nat->Value)(LO HI:Nat->Nat)(v:Value)(lo hi:Nat)(w:World):Prop:=
 match i with
 | 0=>v=.pointer (some ⟨A.sb,0,none⟩)
 | 1=>v=.pointer (some ⟨e.t,0,none⟩)
 | 2=>v=.pointer (some ⟨e.t,0,none⟩)
 | 3=>v=.pointer (some ⟨e.t,0,none⟩)
 | 4=>v=.int .i64 (e.x.id:Nat)
 | 5=>v=.pointer (some ⟨e.t,0,none⟩)
 | 6=>v=.pointer (some ⟨e.t,0,none⟩)
 | 7=>v=.pointer (some ⟨e.t,2,none⟩)
 | 8=>v=.int .i64 (e.x.last:Nat)
 | 9=>v=.agg #[.int .i64 6,.int .i64 (e.x.id:Nat),.int .i64 (e.x.last:Nat),.int .i64 0,.int .i64 0,.int .i64 0,.slice none 0 0,.slice none 0 0,.slice none 0 0,.slice none 0 0,.int .i64 0]
 | 10=>v=.tuple #[.int .i64 ((T+1:Nat):Int),.int .i64 0]/\∃gJ aT,aP W0 w A c { σ with io:={ σ.io with R:=σ.io.R.app (Rc.enc { Rc.zero with kind:=6,aV:=e.x.id,prev:=e.x.last }) },lines:=σ.lines++[(σ.io.R.tail+1,{ Rc.zero with kind:=6,aV:=e.x.id,prev:=e.x.last })] } gJ vo (EL++[⟨σ.io.R.tail+1,{ Rc.zero with kind:=6,aV:=e.x.id,prev:=e.x.last },.slice none 0 0,.slice none 0 0⟩]) EO K aT/\aj (fun k=>S1 k\/dS vl k) ws w/\(∀k,aT k->S1 k\/G<=k)/\(∀q,dS gJ q->dS vl q\/G<=q)
 | 11=>v=.tuple #[.int .i64 ((T+1:Nat):Int),.int .i64 0]
 | 12=>v=.int .i64 ((T+1:Nat):Int)
 | 13=>v=.int .i64 0
 | 14=>v=.int .i64 ((T+1:Nat):Int)
 | 15=>v=.int .i64 0
 | _=>True
abbrev WM:List (List Nat):=[[],[],[1],[1,2],[1,2,3],[],[5],[5,6],[5,6,7],[1,2,3,4,5,6,7,8],[0,1,2,3,4,5,6,7,8,9],[0,1,2,3,4,5,6,7,8,9,10],[0,1,2,3,4,5,6,7,8,9,10,11],[0,1,2,3,4,5,6,7,8,9,10,11],[0,1,2,3,4,5,6,7,8,9,10,11,12],[0,1,2,3,4,5,6,7,8,9,10,11,12,13,14]]
theorem QE(W0 ws:World)(A:bG)(c:Cf)(σ:St)(vl vo:Value)(EL:List Le)(EO:List Te)(K S1:Nat->Prop)(e:Te)(t3 T G:Nat)  : ∀i j,i<16->j<16->j≠i->j∉WM.getD i []->(i,j)∉([]:List (Nat×Nat))->∀VS LO HI v lo hi w w',qA W0 ws A c σ vl vo EL EO K S1 e t3 T G i VS LO HI v lo hi w->aj (zG W0 ws A c σ vl vo EL EO K S1 e t3 T G j) w w'->qA W0 ws A c σ vl vo EL EO K S1 e t3 T G i VS LO HI v lo hi w':=by
 intro i j hi hj hne hbs hx VS LO HI v lo hj2 w w' h hg
 match i,hi with
 | 0,_|1,_|2,_|3,_|4,_|5,_|6,_|7,_|8,_|9,_|11,_|12,_|13,_|14,_|15,_=>
  simp only[qA]at h⊢;exact h
 | 10,_=>
  simp only[qA]at h⊢;obtain⟨h1,vl2,S2,h2,h3,h4,h5⟩:=h;have hgx:aj (fun _=>False) w w':=hg.mono (fun b hb=>hne hb.1);exact⟨h1,vl2,S2,h2.stay hgx,h3.trans (hgx.mono (fun _ (h:False)=>h.elim)),h4,h5⟩
 | (q+16),hq=>exact absurd hq (by omega)
theorem WO(W0 ws:World)(A:bG)(c:Cf)(σ:St)(vl vo:Value)(EL:List Le)(EO:List Te)(K S1:Nat->Prop)(e:Te)(t3 T G:Nat):∀i,i<16->∀VS dZ LO eu HI eF v lz hz w,(∀j∈WM.getD i [],VS j=dZ j/\LO j=eu j/\HI j=eF j)->qA W0 ws A c σ vl vo EL EO K S1 e t3 T G i VS LO HI v lz hz w->qA W0 ws A c σ vl vo EL EO K S1 e t3 T G i dZ eu eF v lz hz w:=by
 intro i hi VS dZ LO eu HI eF v lz hz w he h
 match i,hi with
 | 0,_|1,_|2,_|3,_|4,_|5,_|6,_|7,_|8,_|9,_|10,_|11,_|12,_|13,_|14,_|15,_=>
  simp only[qA]at h⊢;exact h
 | (q+16),hq=>exact absurd hq (by omega)
section
variable{W0 w w' w2:World}{A:bG}{c:Cf}{σ:St}{S:Nat->Prop}{vl vo gV:Value}{EL:List Le}{EO:List Te}{K S1:Nat->Prop}{X:Nat->Prop}
theorem pF.nodup(h:pF W0 w vo EO K):(EO.map (·.t)).Nodup:=by
 rw[List.Nodup,List.pairwise_map];exact h.pw.imp (fun {a b} hd e=>hd a.t (.inl rfl) (.inl e))
theorem pF.erase{g n cap:Nat}(h:pF W0 w vo EO K)(i:Nat)(hg:aj (fun b=>vo.ownBlock=some b) w w2)(hk:∀k,K k->¬vo.ownBlock=some k)(hrow:w2.ownsRow W0.heap.size 100 1 gV (EO.eraseIdx i).length ((EO.eraseIdx i).map jL))(hv:∀q,gV.ownBlock=some q->vo.ownBlock=some q):
  pF W0 w2 gV (EO.eraseIdx i) K:=by
 have hsub:(EO.eraseIdx i).Sublist EO:=List.eraseIdx_sublist _ _;exact⟨hrow,fun e he=>(h.at_ e (hsub.subset he)).grow hg (fun k hk1 e2=>h.no e (hsub.subset he) k e2 hk1) hk,h.pw.sublist hsub,fun e he q hq=>h.no e (hsub.subset he) q (hv q hq)⟩
theorem St.ahW(σ:St)(c:Cf)(i:Nat)(x:Tx)(hr:96<=σ.io.R.room c.n):σ.end_ c i x=(0,{ σ with io:={ σ.io with R:=σ.io.R.app (Rc.enc { Rc.zero with kind:=6,aV:=x.id,prev:=x.last }) },lines:=σ.lines++[(σ.io.R.tail+1,{ Rc.zero with kind:=6,aV:=x.id,prev:=x.last })],opn:=σ.opn.eraseIdx i }):=by
 unfold St.end_;simp only[];rw[St.DL σ c { Rc.zero with kind:=6,aV:=x.id,prev:=x.last } rfl rfl hr];simp only[if_pos]
theorem QF{w:World}{x:Nat}{v:Value}(h:w.cell? ⟨x,0,none⟩=some v):∃c e f,w.heap[x]? = some (.cells c e f):=by
 unfold World.cell? at h;simp only at h;split at h
 ·next c e f hc=>exact⟨c,e,f,hc⟩
 ·cases h
theorem TV{P:Program}(w:World){tp te:TypeId}{j:TypeInfo}{x t:Nat}{va vb:Value}(hp:P.underlying tp=some (.pointer te))(hte:P.info? te=some j)(hsz:j.size≠0)(hne:¬x=t)
  (ha:w.cell? ⟨x,0,none⟩=some va) (hfa:∀o,w.frozen? ⟨x,o,none⟩=false) (hb:w.cell? ⟨t,0,none⟩=some vb) (hfb:∀o,w.frozen? ⟨t,o,none⟩=false):
  (binOp .eql tp (.pointer (some ⟨x,0,none⟩)) (.pointer (some ⟨t,0,none⟩))).run P w=.ok (.bool false) w:=by
 obtain⟨ca,ea,fa,hca⟩:=QF ha;obtain⟨cb,eb,fb,hcb⟩:=QF hb;have hs:(sameAddr ⟨x,0,none⟩ ⟨t,0,none⟩).run P w=.ok false w:=by
  simp[sameAddr,hne,hfa,hfb,noView,viewAt,World.shape?,hca,hcb,mayBeOne,stringish]
 have h:∀d:Nat,(Op.equalIn (d+1) tp (.pointer (some ⟨x,0,none⟩)) (.pointer (some ⟨t,0,none⟩))).run P w=.ok false w:=fun d=>by
  simp[Op.equalIn,run_underlying hp,sizeOf,typeInfo,hte,hsz,hs]
 simp only[binOp];simp[Op.equal,Op.maxDepth,h 9999]
theorem abL(w:World)(x t t3:Nat)(hb:Box w t3 [.pointer (some ⟨t,0,none⟩)])(hx1:∃v,w.cell? ⟨x,0,none⟩=some v)(hx2:∀o,w.frozen? ⟨x,o,none⟩=false)(ht1:∃v,w.cell? ⟨t,0,none⟩=some v)(ht2:∀o,w.frozen? ⟨t,o,none⟩=false):
  Calls Tryz.prog 102 #[.pointer (some ⟨x,0,none⟩),.pointer (some ⟨t3,0,none⟩)] w fun e w'=>e=.returned (.bool (x==t))/\Below w.heap.size w w':=by
 have c0:=hb.cell 0 _ rfl;have bU:=hb.lt;obtain⟨vx,hx1⟩:=hx1;obtain⟨vt,ht1⟩:=ht1;obtain⟨j,hj,hz0,hz1,hz2⟩:=info_parts (P:=Tryz.prog) (e:=103) (z:=.agg #[.int .i64 0,.int .i64 0,.int .i64 0,.slice none 0 0]) (size:=4) (bytes:=48) (by kernel_rfl);have hj2:j.size≠0:=by rw[hz1];decide
 clear hb;by_cases hx:x=t
 ·subst hx;have h0:=run_eql_ptr_same w (tp:=100) (te:=103) (⟨x,0,none⟩:Addr) (by kernel_rfl) hj;go_enter Tryz.func102,Tryz.ntmps102;go_wp2_with fail;go_ret;exact⟨rO (by simp),Below.refl _ _⟩
 ·have h1:=TV w (tp:=100) (te:=103) (by kernel_rfl) hj hj2 hx hx1 hx2 ht1 ht2;have h2:(x==t)=false:=by simpa using hx
  clear hx1 hx2 ht1 ht2 hj;go_enter Tryz.func102,Tryz.ntmps102;go_wp2_with fail;go_ret;exact⟨rO (by rw[h2];rfl),Below.refl _ _⟩
theorem ahX(h:aP W0 w A c σ vl vo EL EO K S1)(i:Nat)(e:Te)(jI:EO[i]? = some e)(lS:e.x.id<=1099511627776)(hla:e.x.last<=1099511627776)(hn:EO.length<=1000000)(hk:96<=σ.io.R.room c.n)(ht:σ.io.R.tail+96<=1099511627775)(hl:EL.length<=1073741824):
  Calls Tryz.prog 60 #[.pointer (some ⟨A.sb,0,none⟩),.pointer (some ⟨e.t,0,none⟩)] w fun er w'=>∃gJ gV jq aT,er=.returned (.int .i64 0)/\
   aP W0 w' A c (σ.end_ c i e.x).2 gJ gV jq (EO.eraseIdx i) K aT/\aG (aO S1 vl vo EO K) (aO aT gJ gV (EO.eraseIdx i) K) w w':=by
 have lU:=hid jI;have HK:=hid hk;have HT:=hid ht;have HL:=hid hl;have HN:=hid hn;have HS0:=hid h;have hal:Below w.heap.size w (w.alloc (.cells #[.pointer (some ⟨e.t,0,none⟩)] 100)):=(Below.refl _ _).alloc (Nat.le_refl _) _;have hbx:=Box.new w #[.pointer (some ⟨e.t,0,none⟩)] 100 rfl;have ji:=hid hal;have gY:=hid (h.below hal);obtain⟨t3,ht3⟩:∃x,w.heap.size=x:=⟨_,rfl⟩
 have hlt3:∀k,aO S1 vl vo EO K k->k<t3:=fun k hk=>by have:=(h.lt k hk).2;omega
 have jH:=hid hlt3;have HT3:=hid ht3;obtain⟨T,hT⟩:∃x,σ.io.R.tail=x:=⟨_,rfl⟩
 have oG:=hid hT;clear h jI hk ht hl hn hal hlt3;go_enter Tryz.func60,Tryz.ntmps60;go_upto_region 1 with (fail);rw[ht3]at hbx
 try rw[ht3]
 generalize w.alloc (.cells #[.pointer (some ⟨e.t,0,none⟩)] 100)=w1 at *;have bt:Box w1 t3 [.pointer (some ⟨e.t,0,none⟩)]:=hbx;have hmem:=List.mem_of_getElem? lU.out;have be:Box w1 e.t [.int .i64 (e.x.id:Nat),.int .i64 (e.x.first:Nat),.int .i64 (e.x.last:Nat),e.vu]:=(gY.out.tx.at_ e hmem).box;have hfe:¬(S1 e.t\/dS vl e.t):=fun h=>h.elim (fun h=>gY.out.d2 _ h (.inr ⟨e,hmem,.inl rfl⟩)) (fun h=>gY.out.d3 _ h (.inr ⟨e,hmem,.inl rfl⟩));have hft:¬(S1 t3\/dS vl t3):=fun h=>h.elim (fun h=>by have:=jH.out _ (.inl h);omega) (fun h=>by have:=jH.out _ (.inr (.inl h));omega);have iQ:=hid hft;have hB:Below 0 w1 w1:=Below.refl _ _;clear hbx hmem ht3 hT;refine gK (zG W0 w1 A c σ vl vo EL EO K S1 e t3 T (w1.heap.size)) 16 WM [some 8,some 9,some 10,some 11,some 12,some 13,some 14,some 15,some 16,some 17,some 18,some 7,some 19,some 20,some 5,some 6] [[],[],[1],[2],[3],[],[5],[6],[7],[4,8],[0,9],[10],[11],[11],[12],[13]] [0,1,2,3,4,5,6,7,8,9,10,11,12,13,14,15] [] (by decide) (by kernel_rfl) (by kernel_rfl) rfl (qA W0 w1 A c σ vl vo EL EO K S1 e t3 T (w1.heap.size)) (WO W0 w1 A c σ vl vo EL EO K S1 e t3 T (w1.heap.size)) (QE W0 w1 A c σ vl vo EL EO K S1 e t3 T (w1.heap.size)) ?alL ?_
 case alL=>
  intro i hi o ho vs lo eX w' hg hp hdd;have hsz:=hg.size;replace hp:=fun j hj=>(hp j hj).2.2.2
  match i,hi with
  | 0,_|1,_|5,_|2,_|3,_|4,_|6,_|7,_|8,_|9,_|12,_|13,_|14,_|15,_=>
   cases ho;simp only[aA,qA]at hp
   first|simp only[ak,Act.put,aA,hp]|simp only[ak,Act.put,aA]
   try have e0:=(bt.aH hg (by rintro⟨j,_,hne,hb,hw⟩;simp only[zG]at hw;obtain⟨rfl,hw⟩:=hw;first|exact hfe hw|exact hft hw|exact hb (by decide)|exact hne rfl)).cell 0 _ rfl
   try have e1:=(be.aH hg (by rintro⟨j,_,hne,hb,hw⟩;simp only[zG]at hw;obtain⟨rfl,hw⟩:=hw;first|exact hfe hw|exact hft hw|exact hb (by decide)|exact hne rfl)).cell 0 _ rfl
   try have e2:=(be.aH hg (by rintro⟨j,_,hne,hb,hw⟩;simp only[zG]at hw;obtain⟨rfl,hw⟩:=hw;first|exact hfe hw|exact hft hw|exact hb (by decide)|exact hne rfl)).cell 2 _ rfl
   go_wp2;exact⟨_,rfl,aj.refl _,rfl⟩
  | 10,_=>
   cases ho;simp only[ak,Act.put,aA];have h0:=hp 0 (by simp);have h9:=hp 9 (by simp);simp only[qA]at h0 h9;rw[h0,h9];have hgx:aj (fun _=>False) w1 w':=hg.mono (fun b ⟨j,_,hne,_,hw⟩=>hne hw.1);have hcall:=ES (gY.out.stay hgx) { Rc.zero with kind:=6,aV:=e.x.id,prev:=e.x.last } ⟨by show(6:Nat)<=_;omega,by show e.x.id<=_;omega,by show e.x.last<=_;omega,Nat.zero_le _,Nat.zero_le _,Nat.zero_le _,Nat.zero_le _,Nat.zero_le _,Nat.zero_le _,rfl,rfl⟩ rfl rfl HK.out HT.out HL.out;have cO:=hid hcall;clear hcall;go_wp2_with fail;refine cO.out.mono ?_;rintro er y ⟨vl2,S2,rfl,h2,h3,h4,h5⟩;rw[oG.out];go_wp2;exact⟨_,rfl,h3.mono (fun b h=>⟨rfl,h⟩),rfl,vl2,S2,h2,(hgx.mono (fun _ (h:False)=>h.elim)).trans h3,fun k h=>(h4 k h).imp (fun h=>h) (fun h=>Nat.le_trans hgx.size h),fun k h=>(h5 k h).imp (fun h=>h) (fun h=>Nat.le_trans hgx.size h)⟩
  | 11,_=>
   cases ho;simp only[ak,Act.put,aA];have h10:=hp 10 (by simp);simp only[qA]at h10;rw[h10.1];go_wp2;exact⟨_,rfl,aj.refl _,rfl⟩
  | (q+16),hq=>exact absurd hq (by omega)
 intro vS lo hi y4 hg hp hd;have hP:=fun j hj=>(hp j hj).2.2.2;have h0:=hP 0 (by decide) (by decide);have h1:=hP 1 (by decide) (by decide);have h2:=hP 2 (by decide) (by decide);have h3:=hP 3 (by decide) (by decide);have h4:=hP 4 (by decide) (by decide);have h5:=hP 5 (by decide) (by decide);have h6:=hP 6 (by decide) (by decide);have h7:=hP 7 (by decide) (by decide);have h8:=hP 8 (by decide) (by decide);have h9:=hP 9 (by decide) (by decide);have h10:=hP 10 (by decide) (by decide);have h11:=hP 11 (by decide) (by decide);have h12:=hP 12 (by decide) (by decide);have h13:=hP 13 (by decide) (by decide);have dH:=hP 14 (by decide) (by decide);have h15:=hP 15 (by decide) (by decide);clear hP;simp only[qA]at h0 h1 h2 h3 h4 h5 h6 h7 h8 h9 h10 h11 h12 h13 dH h15;clear hp hd;have hsz:=hg.size;replace bt:=bt.aH hg (by rintro⟨j,_,hw⟩;simp only[zG]at hw;first|exact hfe hw.2|exact hft hw.2|omega);replace be:=be.aH hg (by rintro⟨j,_,hw⟩;simp only[zG]at hw;first|exact hfe hw.2|exact hft hw.2|omega);replace hB:=hB.trans (hg.below (fun k hk=>⟨by omega,by rintro⟨j,_,hw⟩;simp only[zG]at hw;first|exact hfe hw.2|exact hft hw.2|omega⟩));have hr:List.range 16=[0,1,2,3,4,5,6,7,8,9,10,11,12,13,14,15]:=rfl;rw[hr];clear hr;simp only[List.drop_succ_cons,List.drop_zero,List.drop_nil,ak,Act.put,aA,h0,h1,h2,h3,h4,h5,h6,h7,h8,h9,h11,h12,h13,dH,h15];clear h0 h1 h2 h3 h4 h5 h6 h7 h8 h9 h11 h12 h13 dH h15;obtain⟨He,nR,S4,yF,yG,ahY,ahZ⟩:=h10;have iD:=hid yF;have Cj:=hid yG;have FT:=hid ahY;have vO:=hid ahZ;have HBT:=hid bt;clear He yF yG ahY ahZ hB hg hsz be bt hfe hft;have c5:=iD.out.bC.cell 5 _ rfl;have cfz:=iD.out.bC.free;have bU:=iD.out.bC.lt;obtain⟨n,hnn⟩:∃x,EO.length=x:=⟨_,rfl⟩
 have hn1:0<n:=by rw[<-hnn];exact Nat.lt_of_le_of_lt (Nat.zero_le _) (List.getElem?_eq_some_iff.1 lU.out).1
 have hrow:=iD.out.tx.row;rw[hnn]at hrow;obtain⟨g,cq,rG,_,_⟩:=dV hrow hn1;have hcells:EO.map jL=(EO.map (·.t)).map uG:=by rw[List.map_map];rfl
 rw[rG,hcells]at hrow;rw[rG]at c5;have htg:g≠t3:=fun e1=>by have h1:=jH.out g (.inr (.inr (.inl (.inl (by rw[rG];rfl)))));omega
 have eg:∀args w,(callFunc 102 args).run Tryz.prog w=.ok (.enter 102 args) w:=enters_of Tryz.func102 (by kernel_rfl) rfl;have hP:Bz (EO.map (·.t)) 102 #[.pointer (some ⟨t3,0,none⟩)] (fun x=>x==e.t) g (fun W=>Box W t3 [.pointer (some ⟨e.t,0,none⟩)]/\∀x∈EO,Box W x.t (adz x)):=
  ⟨fun W W' hF hg=>⟨hF.1.aH hg (fun e1=>htg e1.symm),fun x hx=>(hF.2 x hx).aH hg (fun e1=>iD.out.tx.no x hx g (by rw[rG];rfl) (.inl e1.symm))⟩,fun W x hx hF=>by
   obtain⟨y,hy,rfl⟩:=List.mem_map.1 hx;have h1:=hF.2 y hy;have h2:=hF.2 e (List.mem_of_getElem? lU.out);exact abL W y.t e.t t3 hF.1 ⟨_,h1.cell 0 _ rfl⟩ h1.free ⟨_,h2.cell 0 _ rfl⟩ h2.free⟩
 have hcall:=abK (EO.map (·.t)) n cq W0.heap.size g 102 #[.pointer (some ⟨t3,0,none⟩)] (fun x=>x==e.t) _ eg hP (by rw[List.length_map];exact hnn) (by rw[<-hnn];have:=HN.out;omega) hn1 y4 ⟨HBT.out,fun x hx=>(iD.out.tx.at_ x hx).box⟩ hrow;rw[DX _ i e.t (by rw[List.getElem?_map,lU.out];rfl) iD.out.tx.nodup]at hcall;have cO:=hid hcall;have Qe:=hid rG;have kC:=hid hnn;clear eg hP hcall hrow hcells htg rG hnn;go_wp2_with fail;refine cO.out.mono ?_;rintro er y5 ⟨m,rfl,hm1,hm2,adW,abM⟩;have hgo:∀b,b=g->vo.ownBlock=some b:=fun b e1=>by rw[Qe.out,e1];rfl
 have hgv:aj (fun b=>vo.ownBlock=some b) y4 y5:=abM.mono hgo;have hlen:((EO.map (·.t)).eraseIdx i).length=m:=hm1;have hlen2:(EO.eraseIdx i).length=m:=by rw[<-hlen,List.length_eraseIdx,List.length_eraseIdx,List.length_map]
 have Ja:y5.ownsRow W0.heap.size 100 1 (.slice (some ⟨g,0,none⟩) m cq) (EO.eraseIdx i).length ((EO.eraseIdx i).map jL):=by
  rw[hlen2];have e1:(EO.eraseIdx i).map jL=((EO.map (·.t)).eraseIdx i).map uG:=by rw[zF,zF,List.map_map];rfl
  rw[e1];exact adW
 have hvv:∀q,(Value.slice (some ⟨g,0,none⟩) m cq).ownBlock=some q->vo.ownBlock=some q:=fun q e1=>hgo q (by have e2:g=q:=(by simpa[Value.ownBlock]using e1);exact e2.symm);have hnew:∀k,bZ (.slice (some ⟨g,0,none⟩) m cq) (EO.eraseIdx i) k->bZ vo EO k\/y4.heap.size<=k:=by
  rintro k (hk|⟨x,hx,hk⟩)
  ·exact .inl (.inl (hvv k hk))
  ·exact .inl (.inr ⟨x,(List.eraseIdx_sublist EO i).subset hx,hk⟩)
 have htx:=iD.out.tx.erase (g:=0) (n:=0) (cap:=0) i hgv (fun k hk e1=>iD.out.k3 k hk (.inl e1)) Ja hvv;obtain⟨S6,hs6,Ar,hn6⟩:=iD.out.opn hgv (fun k hk=>.inl (.inl hk)) htx hnew;have ql:=hid hs6;have xK:=hid Ar;have HN6:=hid hn6;have CG:=hid hnew;have hsg:A.sb≠g:=fun e1=>iD.out.d2 _ iD.out.pG (.inl (hgo _ e1));have bs5:=iD.out.bC.aH abM hsg;have c5':=bs5.cell 5 _ rfl;have auB:=bs5.free;have abu:=bs5.lt;clear hgo hgv hlen hlen2 Ja hvv hnew htx hs6 Ar hn6 hsg bs5 c5 cfz bU adW abM hm1;go_wp2_with fail;go_ret;have F0:aG (aO S1 vl vo EO K) (aO S4 nR vo EO K) w1 y4:=fQ (Cj.out.mono (fun k h=>h.elim .inl (fun h=>.inr (.inl h)))) FT.out vO.out (fun k h=>.inl h) (fun k h=>.inl h);have F1:aG (aO S4 nR vo EO K) (aO S6 nR (.slice (some ⟨g,0,none⟩) m cq) (EO.eraseIdx i) K) y4 _:=fQ (xK.out.mono (fun k h=>h.elim .inl (fun h=>.inr (.inr (.inl h))))) HN6.out (fun k h=>.inl h) CG.out (fun k h=>.inl h);have e1:=St.ahW σ c i e.x HK.out;have e2:(EO.eraseIdx i).map (·.x)=σ.opn.eraseIdx i:=by rw[zF,<-HS0.out.wP]
 have e3:=ql.out;rw[e2]at e3;rw[e1];have FF:=(aG.below (aC ji.out)).trans (F0.trans F1)
 first|exact⟨_,_,_,_,rfl,e3,FF⟩|exact⟨rfl,_,_,_,_,e3,FF⟩
end
end
section
open Go.RowKit
open Classical in
theorem Ko{P:Program}{a:Act}{w:World}{Q:Exit->Act->World->Prop}{R:Code}(l:Nat)(J:Nat->Act->World->Prop)
  (hf:findLabel ((Code.label l).seq R) l=some (Code.skip.seq R))
  (first:∃k,J k a w)
  (pass:∀k a w,J k a w->R.wp P (Exit.jump l (fun a' w'=>∃k',k'<k/\J k' a' w') Q) a w):
  (Code.scope ((Code.label l).seq R)).wp P Q a w:=by
 have weak:∀(K:Act->World->Prop) e a w,Exit.jump l (fun a' w'=>(∃k,J k a' w')/\K a' w') Q e a w->Exit.jump l (fun a w=>∃k,J k a w) Q e a w:=by
  intro K e a w h;cases e with
  | goto l'=>exact⟨h.1,h.2.1⟩
  | _=>exact h
 have Jb:∀a w,(∃k,J k a w)->R.wp P (Exit.jump l (fun a' w'=>(∃k,J k a' w')/\(fun a w=>if h:∃k,J k a w then(least h).choose else 0) a' w'<(fun a w=>if h:∃k,J k a w then(least h).choose else 0) a w) Q) a w:=by
  intro a w hJ;obtain⟨h1,h2⟩:=(least hJ).choose_spec;refine wp_mono (pass _ a w h1) ?_;intro e a' w' h;cases e with
  | goto l'=>
   obtain⟨e1,k',hk',hj'⟩:=h;refine⟨e1,⟨k',hj'⟩,?_⟩;have hJ':∃k,J k a' w':=⟨k',hj'⟩
   simp only;rw[dif_pos hJ',dif_pos hJ];exact Nat.lt_of_le_of_lt ((least hJ').choose_spec.2 k' hj') hk'
  | _=>exact h
 refine wp_scope_jumps l (fun a w=>∃k,J k a w) (fun a w=>if h:∃k,J k a w then(least h).choose else 0) hf ?_ (fun a w hJ=>wp_seq (wp_skip (Jb a w hJ)));exact wp_seq (wp_label (wp_mono (Jb a w first) (weak _)))
theorem Lr{α β:Type}{f:α->List β}{k:Nat}(hf:∀x,(f x).length=k):∀(l:List α)(m:Nat),(l.flatMap f).take (m*k)=(l.take m).flatMap f
 | [],m=>by simp
 | a::l,0=>by simp
 | a::l,m+1=>by
  rw[List.take_succ_cons,List.flatMap_cons,List.flatMap_cons,List.take_append,hf,Nat.succ_mul,List.take_of_length_le (by rw[hf];omega),Nat.add_sub_cancel,Lr hf l m]
theorem qN(R:Rg)(b:List UInt8):(R.app b).tail=R.tail+b.length:=by
 show R.base+(R.bytes++b).length=_;rw[List.length_append];unfold Rg.tail;omega
theorem QG(n:Nat)(R:Rg)(b:List UInt8):(R.app b).room n=R.room n-b.length:=by
 unfold Rg.room;rw[qN];show(R.start / 118+n-1)*118-_=_;omega
theorem QH{w:World}{base e K n m:Nat}{ao:Option Addr}{c:Nat}{xs:List Value}(h:w.ownsRow base e K (.slice ao n c) n xs)(hn:0<n)(hm:m<=n):w.ownsRow base e K (.slice ao m c) m (xs.take (m*K)):=by
 obtain⟨hl,h⟩:=h;have hmn:m*K<=n*K:=Nat.mul_le_mul_right _ hm;refine⟨by rw[List.length_take,hl];omega,?_⟩;rcases h with ⟨_,h0⟩|⟨g,cap,cur,e1,hb,hg,hnc,hcm,hcs,ht⟩
 ·omega
 ·injection e1 with e2 _ e3;subst e2 e3;refine .inr ⟨g,_,cur,rfl,hb,hg,by omega,hcm,hcs,?_⟩;rw[<-ht,List.take_take,Nat.min_eq_left hmn]
section
variable{W0 w w' w2:World}{A:bG}{c:Cf}{σ:St}{S:Nat->Prop}{vl vo gV:Value}{EL:List Le}{EO:List Te}{K S1:Nat->Prop}{X:Nat->Prop}
theorem QI(h:aP W0 w A c σ vl vo EL EO K S1)(q:Nat)(hq:q<c.pg)(hwr:σ.p.wr+1<=1000000000):(σ.get c q).2.1.length=512:=by
 obtain⟨_,w',_,⟨g,k,S',_,h2,_⟩,_⟩:=xC h q hq hwr [];have:=h2.1;rw[List.length_map]at this;omega
theorem F8(h:aP W0 w A c σ vl vo EL EO K S1)(r:Rc)(hp:r.page<c.pg)(ho:r.off+r.after.length<=504)(l:Nat)(hl:1<=l)(hwr:σ.p.wr+1<=1000000000):(σ.apply c r l).1=0/\jy σ (σ.apply c r l).2 2:=by
 have h1:=QI h r.page hp hwr;obtain⟨h2,h3⟩:=σ.iV c r.page hp;have hlen:(aX (aX (σ.get c r.page).2.1 0 (aJ l)) (8+r.off) r.after).length=512:=by
  have e1:(aX (σ.get c r.page).2.1 0 (aJ l)).length=512:=by rw[dK _ _ _ (Nat.zero_le _),h1]
  rw[dK _ _ _ (by rw[e1];omega),e1]
 obtain⟨h4,h5⟩:=(σ.get c r.page).2.2.xY c r.page hp _ hlen l hl;rw[St.Bo σ c r l hp];exact⟨h4,h3.trans h5⟩
def U6(pg:Nat)(EU:List (Up×Value)):Prop:=∀u∈EU,u.1.off+u.1.before.length<=504/\u.1.page<pg/\u.1.aN<=1099511627776/\u.1.prev<=1099511627776
def wH(x:Tx)(u:Up):Rc:={ Rc.zero with kind:=3,aV:=x.id,prev:=x.last,page:=u.page,off:=u.off,after:=u.before,next:=u.prev }
def NI(c:Cf)(σ:St)(i:Nat)(x:Tx)(u:Up):St:=
 (({ σ with io:={ σ.io with R:=σ.io.R.app (wH x u).enc },lines:=σ.lines++[(σ.io.R.tail+1,wH x u)],opn:=σ.opn.set i { x with last:=σ.io.R.tail+1,l:=x.l.dropLast } }:St).apply c (wH x u) (σ.io.R.tail+1)).2
theorem Zr(c:Cf)(i mark m:Nat)(σ:St)(x:Tx)(hx:σ.opn[i]? = some x)(h:x.l.getLast? = none\/∃u,x.l.getLast? = some u/\u.aN<=mark):St.undo c i mark (m+1) σ=(0,σ):=by
 unfold St.undo;rw[hx];simp only[];rcases h with h|⟨u,h,hl⟩
 ·rw[h]
 ·rw[h];simp only[];rw[if_pos hl]
theorem Zt(c:Cf)(i mark m:Nat)(σ:St)(x:Tx)(u:Up)(hx:σ.opn[i]? = some x)(hu:x.l.getLast? = some u)(hl:¬u.aN<=mark)(hr:(wH x u).size<=σ.io.R.room c.n)
  (ha:(({ σ with io:={ σ.io with R:=σ.io.R.app (wH x u).enc },lines:=σ.lines++[(σ.io.R.tail+1,wH x u)],opn:=σ.opn.set i { x with last:=σ.io.R.tail+1,l:=x.l.dropLast } }:St).apply c (wH x u) (σ.io.R.tail+1)).1=0):
  St.undo c i mark (m+1) σ=St.undo c i mark m (NI c σ i x u):=by
 rw[St.undo,hx];simp only[];rw[hu];simp only[];rw[if_neg hl];have e1:=St.DL σ c (wH x u) rfl rfl hr;unfold wH at e1;rw[e1];simp only[St.wZ];rw[if_neg (by simp)];unfold wH at ha;refine Eq.trans (if_neg ?_) rfl;exact fun h=>h ha
def WQ(A:bG)(t mark:Nat)(f:Nat->Value):Array Value:=(List.toArray ((Value.pointer (some ⟨A.sb,0,none⟩))::(Value.pointer (some ⟨t,0,none⟩))::(Value.int .i64 (mark:Nat))::undef::undef::undef::(Value.int .i64 0)::(f 7)::(f 8)::(f 9)::(f 10)::(f 11)::(f 12)::(f 13)::(f 14)::(f 15)::(f 16)::(f 17)::(f 18)::(f 19)::(f 20)::(f 21)::(f 22)::(f 23)::(f 24)::(f 25)::(f 26)::(f 27)::(f 28)::(f 29)::(f 30)::(f 31)::(f 32)::(f 33)::(f 34)::(f 35)::(f 36)::(f 37)::(f 38)::(f 39)::(f 40)::(f 41)::(f 42)::(f 43)::(f 44)::(f 45)::(f 46)::(f 47)::(f 48)::(f 49)::(f 50)::(f 51)::(f 52)::(f 53)::(f 54)::(f 55)::(f 56)::(f 57)::(f 58)::(f 59)::(f 60)::(f 61)::(f 62)::(f 63)::(f 64)::(f 65)::(f 66)::(f 67)::(f 68)::(f 69)::(f 70)::(f 71)::(f 72)::(f 73)::(f 74)::(f 75)::(f 76)::(f 77)::(f 78)::(f 79)::(f 80)::(f 81)::(f 82)::(f 83)::(f 84)::(f 85)::[]))
def NJ(W0 ws:World)(A:bG)(c:Cf)(i mark t first:Nat)(vo:Value)(K S0:Nat->Prop)(R:Int×St)(bT bL bW xr:Nat)(k:Nat)(a:Act)(w:World):Prop:=
 ∃(f:Nat->Value),a=⟨WQ A t mark f,[]⟩/\∃(σ:St)(vl:Value)(EL:List Le)(EO:List Te)(e:Te)(S1:Nat->Prop),
  aP W0 w A c σ vl vo EL EO K S1/\EO[i]? = some e/\e.t=t/\e.EU.length=k/\U6 c.pg e.EU/\iP e.EU+xr<=σ.io.R.room c.n/\e.x.id<=1099511627776/\e.x.last<=1099511627776/\e.x.first=first/\
  σ.io.R.tail+iP e.EU<=bT/\EL.length+k<=bL/\σ.p.wr+2*k<=bW/\St.undo c i mark (k+1) σ=R/\aG S0 (aO S1 vl vo EO K) ws w
theorem NJ.intro{W0 ws:World}{A:bG}{c:Cf}{i mark t first:Nat}{vo:Value}{K S0:Nat->Prop}{R:Int×St}{bT bL bW xr:Nat}{k:Nat}{a:Act}{w:World}
  (h:a=⟨WQ A t mark (fun j=>a.tmps.getD j undef),[]⟩) (h2:∃(σ:St)(vl:Value)(EL:List Le)(EO:List Te)(e:Te)(S1:Nat->Prop),
  aP W0 w A c σ vl vo EL EO K S1/\EO[i]? = some e/\e.t=t/\e.EU.length=k/\U6 c.pg e.EU/\iP e.EU+xr<=σ.io.R.room c.n/\e.x.id<=1099511627776/\e.x.last<=1099511627776/\e.x.first=first/\
  σ.io.R.tail+iP e.EU<=bT/\EL.length+k<=bL/\σ.p.wr+2*k<=bW/\St.undo c i mark (k+1) σ=R/\aG S0 (aO S1 vl vo EO K) ws w):
  NJ W0 ws A c i mark t first vo K S0 R bT bL bW xr k a w:=⟨_,h,h2⟩
end
def adY(e0:Te)(t t8 k gu cu y1 y2 y3 y4 mb c2 G:Nat)(a2:Option Addr)(j b o:Nat):Prop:=False
def uU(e0:Te)(t t8 k gu cu y1 y2 y3 y4 mb c2 G:Nat)(a2:Option Addr)(i:Nat)(VS:Nat->Value)(LO HI:Nat->Nat)(v:Value)(lo hi:Nat)(w:World):Prop:=
 match i with
 | 0=>v=.pointer (some ⟨t,0,none⟩)
 | 1=>v=.pointer (some ⟨t,0,none⟩)
 | 2=>v=.pointer (some ⟨t,0,none⟩)
 | 3=>v=.int .i64 (e0.x.id:Nat)
 | 4=>v=.pointer (some ⟨t,0,none⟩)
 | 5=>v=.pointer (some ⟨t,0,none⟩)
 | 6=>v=.pointer (some ⟨t,2,none⟩)
 | 7=>v=.int .i64 (e0.x.last:Nat)
 | 8=>v=.pointer (some ⟨t8,2,none⟩)
 | 9=>v=.int .i64 (y3:Nat)
 | 10=>v=.pointer (some ⟨t8,3,none⟩)
 | 11=>v=.int .i64 (y4:Nat)
 | 12=>v=.pointer (some ⟨t8,4,none⟩)
 | 13=>v=.slice a2 mb c2
 | 14=>v=.pointer (some ⟨t8,1,none⟩)
 | 15=>v=.int .i64 (y2:Nat)
 | 16=>v=.agg #[.int .i64 3,.int .i64 (e0.x.id:Nat),.int .i64 (e0.x.last:Nat),.int .i64 (y2:Nat),.int .i64 (y3:Nat),.int .i64 (y4:Nat),.slice none 0 0,.slice a2 mb c2,.slice none 0 0,.slice none 0 0,.int .i64 0]
 | 17=>∃g3,v=.pointer (some ⟨g3,0,none⟩)/\G<=g3/\Box w g3 [.int .i64 0,.int .i64 0,.int .i64 0,.int .i64 0,.int .i64 0,.int .i64 0,.slice none 0 0,.slice none 0 0,.slice none 0 0,.slice none 0 0,.int .i64 0]
 | _=>True
abbrev WR:List (List Nat):=[[],[0],[0,1],[0,1,2],[],[4],[4,5],[4,5,6],[],[8],[],[10],[],[12],[],[14],[0,1,2,3,4,5,6,7,8,9,10,11,12,13,14,15],[]]
theorem QJ(e0:Te)(t t8 k gu cu y1 y2 y3 y4 mb c2 G:Nat)(a2:Option Addr)  : ∀i j,i<18->j<18->j≠i->j∉WR.getD i []->(i,j)∉([]:List (Nat×Nat))->∀VS LO HI v lo hi w w',uU e0 t t8 k gu cu y1 y2 y3 y4 mb c2 G a2 i VS LO HI v lo hi w->aB (adY e0 t t8 k gu cu y1 y2 y3 y4 mb c2 G a2 j) w w'->uU e0 t t8 k gu cu y1 y2 y3 y4 mb c2 G a2 i VS LO HI v lo hi w':=by
 intro i j hi hj hne hbs hx VS LO HI v lo hj2 w w' h hg
 match i,hi with
 | 0,_|1,_|2,_|3,_|4,_|5,_|6,_|7,_|8,_|9,_|10,_|11,_|12,_|13,_|14,_|15,_|16,_=>
  simp only[uU]at h⊢;exact h
 | 17,_=>
  simp only[uU]at h⊢;obtain⟨g3,h1,h2,h3⟩:=h;exact⟨g3,h1,h2,h3.aH (aj.aK hg (Y:=fun _=>False) (fun k o h=>h)) (fun h=>h)⟩
 | (q+18),hq=>exact absurd hq (by omega)
theorem WS(e0:Te)(t t8 k gu cu y1 y2 y3 y4 mb c2 G:Nat)(a2:Option Addr):∀i,i<18->∀VS dZ LO eu HI eF v lz hz w,(∀j∈WR.getD i [],VS j=dZ j/\LO j=eu j/\HI j=eF j)->uU e0 t t8 k gu cu y1 y2 y3 y4 mb c2 G a2 i VS LO HI v lz hz w->uU e0 t t8 k gu cu y1 y2 y3 y4 mb c2 G a2 i dZ eu eF v lz hz w:=by
 intro i hi VS dZ LO eu HI eF v lz hz w he h
 match i,hi with
 | 0,_|1,_|2,_|3,_|4,_|5,_|6,_|7,_|8,_|9,_|10,_|11,_|12,_|13,_|14,_|15,_|16,_|17,_=>
  simp only[uU]at h⊢;exact h
 | (q+18),hq=>exact absurd hq (by omega)
section
variable{W0 w w' w2:World}{A:bG}{c:Cf}{σ:St}{S:Nat->Prop}{vl vo gV:Value}{EL:List Le}{EO:List Te}{K S1:Nat->Prop}{X:Nat->Prop}
theorem afy(h:aP W0 w A c σ vl vo EL EO K S1)(i mark:Nat)(hmk:mark<=1099511627776)(e:Te)(jI:EO[i]? = some e)(hu:U6 c.pg e.EU)(hm:e.EU.length<=1000000)(hpp:c.pg<=1099511627776)(bT bL bW xr:Nat)(hbT:bT<=1099511627775)(hbL:bL<=1000000)(hbW:bW<=1000000000)(hk:iP e.EU+xr<=σ.io.R.room c.n)(lS:e.x.id<=1099511627776)(hla:e.x.last<=1099511627776)(ht:σ.io.R.tail+iP e.EU<=bT)(hl:EL.length+e.EU.length<=bL)(hwr:σ.p.wr+2*e.EU.length<=bW):
  Calls Tryz.prog 61 #[.pointer (some ⟨A.sb,0,none⟩),.pointer (some ⟨e.t,0,none⟩),.int .i64 (mark:Nat)] w fun er w'=>er=.returned (.int .i64 0)/\∃(σ':St)(gJ:Value)(jq:List Le)(pJ:List Te)(e':Te)(aT:Nat->Prop),
   aP W0 w' A c σ' gJ vo jq pJ K aT/\pJ[i]? = some e'/\e'.t=e.t/\e'.x.id<=1099511627776/\e'.x.last<=1099511627776/\σ'.io.R.tail<=bT/\jq.length<=bL/\σ'.p.wr<=bW/\xr<=σ'.io.R.room c.n/\St.undo c i mark (e.EU.length+1) σ=(0,σ')/\aG (aO S1 vl vo EO K) (aO aT gJ vo pJ K) w w':=by
 have Qn:=hid hpp;obtain⟨t,htt⟩:∃x,e.t=x:=⟨_,rfl⟩
 obtain⟨k0,hk0⟩:∃x,e.EU.length=x:=⟨_,rfl⟩
 obtain⟨R,hR⟩:∃x,St.undo c i mark (e.EU.length+1) σ=x:=⟨_,rfl⟩
 have hJ:∃(σ0:St)(QK:Value)(Zu:List Le)(yH:List Te)(e0:Te)(xW:Nat->Prop),
  aP W0 w A c σ0 QK vo Zu yH K xW/\yH[i]? = some e0/\e0.t=t/\e0.EU.length=k0/\U6 c.pg e0.EU/\iP e0.EU+xr<=σ0.io.R.room c.n/\e0.x.id<=1099511627776/\e0.x.last<=1099511627776/\e0.x.first=e.x.first/\
  σ0.io.R.tail+iP e0.EU<=bT/\Zu.length+k0<=bL/\σ0.p.wr+2*k0<=bW/\St.undo c i mark (k0+1) σ0=R/\aG (aO S1 vl vo EO K) (aO xW QK vo yH K) w w:=
  ⟨σ,vl,EL,EO,e,S1,h,jI,htt,hk0,hu,hk,lS,hla,rfl,ht,by rw[<-hk0];exact hl,by rw[<-hk0];exact hwr,by rw[<-hk0];exact hR,aG.below (aC (Below.refl _ _))⟩
 have HJ:=hid hJ;have hkm:k0<=1000000:=by rw[<-hk0];exact hm
 have HRR:=hid hR;rw[htt,hR];obtain⟨fst,QL⟩:∃x,e.x.first=x:=⟨_,rfl⟩
 rw[QL]at HJ;clear h jI hu hm hpp hk lS hla ht hl hwr hJ hR hk0 htt QL;go_enter Tryz.func61,Tryz.ntmps61;go_wp2_with fail;refine Ko 0 (NJ W0 w A c i mark t fst vo K (aO S1 vl vo EO K) R bT bL bW xr) (by rfl) ?_ ?_
 ·exact⟨k0,fun _=>undef,rfl,HJ.out⟩
 rintro k a wr ⟨f,rfl,hj⟩;unfold WQ;clear HJ hkm;obtain⟨σ0,QK,Zu,yH,e0,xW,hs,jI,het,hlen,ah0,hroom,lS,hla,QL,htl,hll,hww,hun,hft⟩:=hj;have hmem:=List.mem_of_getElem? jI;have hta:=hs.tx.at_ e0 hmem;have HS:=hid hs;have lU:=hid jI;have Ls:=hid het;have HLEN:=hid hlen;have ah1:=hid ah0;have adZ:=hid hroom;have apP:=hid QL;have U7:=hid htl;have nS:=hid hll;have Zv:=hid hww;have yI:=hid hun;have iQ:=hid hft;have DT:=hid hta;have oD:=hid lS;have FQ:=hid hla;obtain⟨au,cu,hvu⟩:=bF hta.row;rw[hlen]at hvu;have FP:=hid hvu;have be:Box wr t [.int .i64 (e0.x.id:Nat),.int .i64 (e0.x.first:Nat),.int .i64 (e0.x.last:Nat),.slice au k cu]:=by rw[<-het,<-hvu];exact hta.box
 have rH:=hid be;have b3:=be.cell 3 _ rfl;have blt:=be.lt;have stop:(e0.x.l.getLast? = none\/∃u,e0.x.l.getLast? = some u/\u.aN<=mark)->(Value.int .i64 0=Value.int .i64 0)/\∃(σ':St)(gJ:Value)(jq:List Le)(pJ:List Te)(e':Te)(aT:Nat->Prop),
   aP W0 wr A c σ' gJ vo jq pJ K aT/\pJ[i]? = some e'/\e'.t=t/\e'.x.id<=1099511627776/\e'.x.last<=1099511627776/\σ'.io.R.tail<=bT/\jq.length<=bL/\σ'.p.wr<=bW/\xr<=σ'.io.R.room c.n/\R=(0,σ')/\aG (aO S1 vl vo EO K) (aO aT gJ vo pJ K) w wr:=fun hst=>
  ⟨rfl,σ0,QK,Zu,yH,e0,xW,hs,jI,het,lS,hla,by omega,by omega,by omega,by omega,by rw[<-hun];exact Zr c i mark k σ0 e0.x (hs.UW jI) hst,hft⟩
 have WT:=hid stop;have WU:=hta.ups;clear hs jI het hlen ah0 hroom lS hla QL htl hll hww hun hft hta hvu stop be hmem;rcases k with _|k
 ·have hz:e0.x.l.getLast? = none:=by
   have:=HLEN.out;rw[WU,List.eq_nil_of_length_eq_zero this];rfl
  have HZ:=hid hz;clear hz WU;go_wp2_with fail;simp only[Exit.jump];go_ret;exact⟨rfl,(WT.out (.inl HZ.out)).2⟩
 have hkb:k<=1000000:=by have:=nS.out;omega
 obtain⟨u,hue⟩:∃u,e0.EU[k]? = some u:=⟨_,List.getElem?_eq_getElem (by rw[HLEN.out];omega)⟩
 have hgl:e0.x.l.getLast? = some u.1:=by
  rw[WU,List.getLast?_map,List.getLast?_eq_getElem?,HLEN.out,Nat.add_sub_cancel,hue];rfl
 have FU:=hid hue;have Ux:=hid hgl;have hrow:=DT.out.row;rw[HLEN.out]at hrow;obtain⟨gu,Qi,e1,_,Lu⟩:=dV hrow (by omega);have e2:=e1;rw[FP.out]at e2;injection e2 with e3' e4 e5;subst e3';subst e5;rw[e1]at hrow;have hix:=fun i hi=>ER (f:=EM) (k:=5) (fun _=>rfl) e0.EU k u hue i hi;obtain⟨a2,c2,hv2,_⟩:=(DT.out.tb u (List.mem_of_getElem? hue)).1;have k0:=gQ hrow (k*5+0) _ ((hix 0 (by decide)).trans rfl);have k1:=gQ hrow (k*5+1) _ ((hix 1 (by decide)).trans rfl);have k2:=gQ hrow (k*5+2) _ ((hix 2 (by decide)).trans rfl);have k3:=gQ hrow (k*5+3) _ ((hix 3 (by decide)).trans rfl);have k4:=gQ hrow (k*5+4) _ ((hix 4 (by decide)).trans rfl);rw[hv2]at k4;simp only[Nat.add_zero]at k0;have gZ:=hid hrow;have l7:=hid hv2;have hg0:decide ((k:Int)<0)=false:=by simp
 clear WU hue hgl e1 e4 hix hrow hv2;by_cases hmm:u.1.aN<=mark
 ·have hm1:decide ((u.1.aN:Int)<=(mark:Int))=true:=by simpa using hmm
  have hm2:decide (u.1.aN<=mark)=true:=by simpa using hmm
  have jP:=hid hmm;clear hmm;go_wp2_with fail;simp only[Exit.jump];go_ret;exact⟨rfl,(WT.out (.inr ⟨u.1,Ux.out,jP.out⟩)).2⟩
 have hm1:decide ((u.1.aN:Int)<=(mark:Int))=false:=by simpa using hmm
 have hm2:decide (u.1.aN<=mark)=false:=by simpa using hmm
 have jP:=hid hmm;clear hmm WT;obtain⟨mb,hmb⟩:∃x,u.1.before.length=x:=⟨_,rfl⟩
 rw[hmb]at k4;have zB:=hid hmb;obtain⟨y1,hy1⟩:∃x,u.1.aN=x:=⟨_,rfl⟩
 obtain⟨y2,hy2⟩:∃x,u.1.prev=x:=⟨_,rfl⟩
 obtain⟨y3,hy3⟩:∃x,u.1.page=x:=⟨_,rfl⟩
 obtain⟨y4,hy4⟩:∃x,u.1.off=x:=⟨_,rfl⟩
 rw[hy1]at k0 hm1 hm2;rw[hy2]at k1;rw[hy3]at k2;rw[hy4]at k3;have HY1:=hid hy1;have Y7:=hid hy2;have Y8:=hid hy3;have PO:=hid hy4;clear hmb hy1 hy2 hy3 hy4;go_upto_region 5 with (fail);have hal:=(Below.refl wr.heap.size wr).alloc (Nat.le_refl _) (.cells #[.int .i64 (y1:Nat),.int .i64 (y2:Nat),.int .i64 (y3:Nat),.int .i64 (y4:Nat),.slice a2 mb c2] 114);have hbu:=Box.new wr #[.int .i64 (y1:Nat),.int .i64 (y2:Nat),.int .i64 (y3:Nat),.int .i64 (y4:Nat),.slice a2 mb c2] 114 rfl;obtain⟨t8,Gf⟩:∃x,wr.heap.size=x:=⟨_,rfl⟩
 rw[Gf]at hbu⊢;have Jc:=hid Gf;have gY:=hid (HS.out.below hal);have ah2:=rH.out.below hal (Nat.le_refl _);have ji:=hid hal;generalize wr.alloc (.cells #[.int .i64 (y1:Nat),.int .i64 (y2:Nat),.int .i64 (y3:Nat),.int .i64 (y4:Nat),.slice a2 mb c2] 114)=w1 at *;have be:Box w1 t [.int .i64 (e0.x.id:Nat),.int .i64 (e0.x.first:Nat),.int .i64 (e0.x.last:Nat),.slice (some ⟨gu,0,none⟩) (k+1) cu]:=ah2;have bu:Box w1 t8 [.int .i64 (y1:Nat),.int .i64 (y2:Nat),.int .i64 (y3:Nat),.int .i64 (y4:Nat),.slice a2 mb c2]:=hbu;have hB:Below w1.heap.size w1 w1:=Below.refl _ _;clear k0 k1 k2 k3 k4 b3 blt hbu ah2 hal Gf hm1 hm2 hg0;refine eP (adY e0 t t8 k gu cu y1 y2 y3 y4 mb c2 (w1.heap.size) a2) 18 WR [some 40,some 41,some 42,some 43,some 44,some 45,some 46,some 47,some 48,some 49,some 50,some 51,some 52,some 53,some 54,some 55,some 56,some 9,none] [[],[0],[1],[2],[],[4],[5],[6],[],[8],[],[10],[],[12],[],[14],[3,7,9,11,13,15],[]] [0,1,2,3,4,5,6,7,8,9,10,11,12,13,14,15,16,17] [] (by decide) (by kernel_rfl) (by kernel_rfl) rfl (uU e0 t t8 k gu cu y1 y2 y3 y4 mb c2 (w1.heap.size) a2) (WS e0 t t8 k gu cu y1 y2 y3 y4 mb c2 (w1.heap.size) a2) (QJ e0 t t8 k gu cu y1 y2 y3 y4 mb c2 (w1.heap.size) a2) ?alM ?_
 case alM=>
  intro i hi o ho vs lo eX w' hg hp hdd;have hsz:=hg.size;have hgB:Below w1.heap.size w1 w':=hg.below (fun k hk=>⟨hk,fun o=>by rintro⟨j,_,_,_,hw⟩;exact False.elim hw⟩);replace hp:=fun j hj=>(hp j hj).2.2.2
  match i,hi with
  | 0,_|4,_|8,_|10,_|12,_|14,_|1,_|2,_|3,_|5,_|6,_|7,_|9,_|11,_|13,_|15,_|16,_=>
   cases ho;simp only[aA,uU]at hp
   first|simp only[ak,Act.put,aA,hp]|simp only[ak,Act.put,aA]
   try have e0:=(hg.cell (t) 0 be.lt (by rintro⟨j,_,hne,hb,hw⟩;exact False.elim hw)).trans (be.cell 0 _ rfl)
   try have e1:=(hg.cell (t) 2 be.lt (by rintro⟨j,_,hne,hb,hw⟩;exact False.elim hw)).trans (be.cell 2 _ rfl)
   try have e2:=(hg.cell (t8) 2 bu.lt (by rintro⟨j,_,hne,hb,hw⟩;exact False.elim hw)).trans (bu.cell 2 _ rfl)
   try have e3:=(hg.cell (t8) 3 bu.lt (by rintro⟨j,_,hne,hb,hw⟩;exact False.elim hw)).trans (bu.cell 3 _ rfl)
   try have e4:=(hg.cell (t8) 4 bu.lt (by rintro⟨j,_,hne,hb,hw⟩;exact False.elim hw)).trans (bu.cell 4 _ rfl)
   try have e5:=(hg.cell (t8) 1 bu.lt (by rintro⟨j,_,hne,hb,hw⟩;exact False.elim hw)).trans (bu.cell 1 _ rfl)
   go_wp2;exact⟨_,rfl,aB.refl _,rfl⟩
  | 17,_=>
   cases ho;simp only[ak,Act.put,aA];have hbl:=(Below.refl w'.heap.size w').alloc (Nat.le_refl _) (.cells #[.int .i64 0,.int .i64 0,.int .i64 0,.int .i64 0,.int .i64 0,.int .i64 0,.slice none 0 0,.slice none 0 0,.slice none 0 0,.slice none 0 0,.int .i64 0] 85);have hbn:=Box.new w' #[.int .i64 0,.int .i64 0,.int .i64 0,.int .i64 0,.int .i64 0,.int .i64 0,.slice none 0 0,.slice none 0 0,.slice none 0 0,.slice none 0 0,.int .i64 0] 85 rfl;go_wp2;exact⟨_,rfl,aB.bK ⟨hbl.os,hbl.tape,hbl.output,hbl.size,hbl.block⟩,_,rfl,hgB.size,hbn⟩
  | (q+18),hq=>exact absurd hq (by omega)
 intro vS lo hi z3 hg hp hd;have hP:=fun j hj=>(hp j hj).2.2.2;have h0:=hP 0 (by decide) (by decide);have h1:=hP 1 (by decide) (by decide);have h2:=hP 2 (by decide) (by decide);have h3:=hP 3 (by decide) (by decide);have h4:=hP 4 (by decide) (by decide);have h5:=hP 5 (by decide) (by decide);have h6:=hP 6 (by decide) (by decide);have h7:=hP 7 (by decide) (by decide);have h8:=hP 8 (by decide) (by decide);have h9:=hP 9 (by decide) (by decide);have h10:=hP 10 (by decide) (by decide);have h11:=hP 11 (by decide) (by decide);have h12:=hP 12 (by decide) (by decide);have h13:=hP 13 (by decide) (by decide);have dH:=hP 14 (by decide) (by decide);have h15:=hP 15 (by decide) (by decide);have h16:=hP 16 (by decide) (by decide);have h17:=hP 17 (by decide) (by decide);clear hP;simp only[uU]at h0 h1 h2 h3 h4 h5 h6 h7 h8 h9 h10 h11 h12 h13 dH h15 h16 h17;clear hp hd;have hsz:=hg.size;replace be:=be.grow hg (by intro i _;rintro⟨j,_,hw⟩;exact False.elim hw);replace bu:=bu.grow hg (by intro i _;rintro⟨j,_,hw⟩;exact False.elim hw);replace hB:=hB.trans (hg.below (fun k hk=>⟨by omega,fun o=>by rintro⟨j,_,hw⟩;exact False.elim hw⟩));have hr:List.range 18=[0,1,2,3,4,5,6,7,8,9,10,11,12,13,14,15,16,17]:=rfl;rw[hr];clear hr;simp only[List.drop_succ_cons,List.drop_zero,List.drop_nil,ak,Act.put,aA,h0,h1,h2,h3,h4,h5,h6,h7,h8,h9,h10,h11,h12,h13,dH,h15,h16];clear h0 h1 h2 h3 h4 h5 h6 h7 h8 h9 h10 h11 h12 h13 dH h15 h16;obtain⟨g9,ah3,ah4,qO⟩:=h17;rw[ah3];have xO:=hid hB;have iC:=hid qO;have Au:=hid ah4;have z0:=qO.cell 0 _ rfl;have z1:=qO.cell 1 _ rfl;have z2:=qO.cell 2 _ rfl;have z3':=qO.cell 3 _ rfl;have z4:=qO.cell 4 _ rfl;have z5:=qO.cell 5 _ rfl;have z6:=qO.cell 6 _ rfl;have z7:=qO.cell 7 _ rfl;have z8:=qO.cell 8 _ rfl;have z9:=qO.cell 9 _ rfl;have z10:=qO.cell 10 _ rfl;have Qw:=qO.free;have IL:=qO.lt;clear ah3 ah4 qO hB hg hsz be bu;go_upto_region 6 with (fail)
 obtain⟨hp1,hp2⟩:=NG iC.out (.int .i64 3) (.int .i64 (e0.x.id:Nat)) (.int .i64 (e0.x.last:Nat)) (.int .i64 (y2:Nat)) (.int .i64 (y3:Nat)) (.int .i64 (y4:Nat)) (.slice none 0 0) (.slice a2 mb c2) (.slice none 0 0) (.slice none 0 0) (.int .i64 0);have kD:=hid hp1;have HP2:=hid hp2;clear z0 z1 z2 z3' z4 z5 z6 z7 z8 z9 z10 Qw IL hp1 hp2;generalize (((((((((((z3.setCell ⟨g9,0,none⟩ (.int .i64 3)).setCell ⟨g9,1,none⟩ (.int .i64 (e0.x.id:Nat))).setCell ⟨g9,2,none⟩ (.int .i64 (e0.x.last:Nat))).setCell ⟨g9,3,none⟩ (.int .i64 (y2:Nat))).setCell ⟨g9,4,none⟩ (.int .i64 (y3:Nat))).setCell ⟨g9,5,none⟩ (.int .i64 (y4:Nat))).setCell ⟨g9,6,none⟩ (.slice none 0 0)).setCell ⟨g9,7,none⟩ (.slice a2 mb c2)).setCell ⟨g9,8,none⟩ (.slice none 0 0)).setCell ⟨g9,9,none⟩ (.slice none 0 0)).setCell ⟨g9,10,none⟩ (.int .i64 0))=y4w at *;have U4:aj (fun k=>k=g9) w1 y4w:=(lT xO.out).trans HP2.out;have DR:Below w1.heap.size w1 y4w:=U4.below (fun k hk=>⟨hk,fun h=>by have:=Au.out;omega⟩);have hs4:=gY.out.below DR;have iD:=hid hs4;have HGY:=hid DR;have r0:=kD.out.cell 0 _ rfl;have r1:=kD.out.cell 1 _ rfl;have r2:=kD.out.cell 2 _ rfl;have r3:=kD.out.cell 3 _ rfl;have r4:=kD.out.cell 4 _ rfl;have r5:=kD.out.cell 5 _ rfl;have r6:=kD.out.cell 6 _ rfl;have r7:=kD.out.cell 7 _ rfl;have r8:=kD.out.cell 8 _ rfl;have r9:=kD.out.cell 9 _ rfl;have r10:=kD.out.cell 10 _ rfl;have yw:=kD.out.lt;have hup:=ah1.out u (List.mem_of_getElem? FU.out);rw[zB.out,HY1.out,Y7.out,Y8.out,PO.out]at hup;have HUP:=hid hup;have hcr:wH e0.x u.1=({ Rc.zero with kind:=3,aV:=e0.x.id,prev:=e0.x.last,page:=y3,off:=y4,after:=u.1.before,next:=y2 }:Rc):=by unfold wH;rw[Y7.out,Y8.out,PO.out]
 have U8:=hid hcr;have hsm:Rc.small ({ Rc.zero with kind:=3,aV:=e0.x.id,prev:=e0.x.last,page:=y3,off:=y4,after:=u.1.before,next:=y2 }:Rc):=⟨by show(3:Nat)<=_;omega,by show e0.x.id<=_;have:=oD.out;omega,by show e0.x.last<=_;have:=FQ.out;omega,by show y2<=_;omega,by show y3<=_;have:=Qn.out;omega,by show y4<=_;omega,Nat.zero_le _,Nat.zero_le _,by show u.1.before.length<=_;rw[zB.out];omega,rfl,rfl⟩
 have Ci:=hid hsm;have hsz2:Rc.size ({ Rc.zero with kind:=3,aV:=e0.x.id,prev:=e0.x.last,page:=y3,off:=y4,after:=u.1.before,next:=y2 }:Rc)=96+mb:=by show 96+0+u.1.before.length+24*0+16*0=_;rw[zB.out];omega
 have ny:=hid hsz2;have nU:=List.mem_of_getElem? lU.out;have eH:=(iD.out.tx.at_ e0 nU).tb u (List.mem_of_getElem? FU.out);rw[l7.out,zB.out]at eH;have ah5:iP e0.EU=iP (e0.EU.take k)+(96+mb):=by
  have h1:=wG (fun u:Up×Value=>96+u.1.before.length) e0.EU k u FU.out;rw[List.take_of_length_le (by have:=HLEN.out;omega)]at h1;rw[<-zB.out];exact h1
 have apQ:=hid ah5;have jB:=IE hs4 ({ Rc.zero with kind:=3,aV:=e0.x.id,prev:=e0.x.last,page:=y3,off:=y4,after:=u.1.before,next:=y2 }:Rc) Ci.out none a2 0 0 mb c2 rfl zB.out ⟨none,0,rfl,rfl,Nat.le_refl _,fun h=>absurd h (by omega)⟩ (by have:=eH.1;rw[zB.out]at this;exact this) (by rw[ny.out];have:=adZ.out;omega) (by rw[ny.out];have:=U7.out;omega) (by have:=nS.out;omega) K (fun q e1=>by cases e1) eH.2 iD.out.kin iD.out.k1 iD.out.k2 iD.out.k3;rw[show(fun k=>K k\/K k)=K from by funext k;simp]at jB;have xM:=hid jB;clear U4 DR hs4 hup hcr hsm hsz2 nU eH ah5 jB;go_wp2_with fail;refine xM.out.mono ?_;rintro er y8 ⟨yD,S8,rfl,hs8,rF,vK,FX⟩;have FW:=hid rF;have Aq:=hid vK;have HV8:=hid FX;have l9:=hid hs8;obtain⟨T,hT⟩:∃x,σ0.io.R.tail=x:=⟨_,rfl⟩
 rw[hT];have oG:=hid hT;have nU:=List.mem_of_getElem? lU.out;have QM:Box y8 t [.int .i64 (e0.x.id:Nat),.int .i64 (e0.x.first:Nat),.int .i64 (e0.x.last:Nat),.slice (some ⟨gu,0,none⟩) (k+1) cu]:=by
  have h1:=(hs8.tx.at_ e0 nU).box;rw[Ls.out]at h1;have h2:e0.vu=.slice (some ⟨gu,0,none⟩) (k+1) cu:=FP.out;rw[<-h2];exact h1
 have apR:=hid QM;have c2':=QM.cell 2 _ rfl;have cfz:=QM.free;have bU:=QM.lt;clear rF vK FX hs8 hT nU QM r0 r1 r2 r3 r4 r5 r6 r7 r8 r9 r10 yw;go_upto_region 10 with (fail);rw[show(Value.int .i64 ((T:Int)+1))=Value.int .i64 ((T+1:Nat):Int)from rfl];have Lm:=apR.out.setCell 2 (.int .i64 ((T+1:Nat):Int));have Ar:=aF y8 t 2 (.int .i64 ((T+1:Nat):Int));have xK:=hid Ar;clear c2' cfz bU Ar;generalize y8.setCell ⟨t,2,none⟩ (.int .i64 ((T+1:Nat):Int))=z6 at *;have JZ:Hid (Box z6 t [.int .i64 (e0.x.id:Nat),.int .i64 (e0.x.first:Nat),.int .i64 ((T+1:Nat):Int),.slice (some ⟨gu,0,none⟩) (k+1) cu]):=hid Lm;have c3':=JZ.out.cell 3 _ rfl;have cfz:=JZ.out.free;have bU:=JZ.out.lt;have apS:¬cu=0:=by omega
 have hkc:k<=cu:=by omega
 clear Lm;go_upto_region 11 with (fail);have Zn:Box (z6.setCell ⟨t,3,none⟩ (.slice (some ⟨gu,0,none⟩) k cu)) t [.int .i64 (e0.x.id:Nat),.int .i64 (e0.x.first:Nat),.int .i64 ((T+1:Nat):Int),.slice (some ⟨gu,0,none⟩) k cu]:=JZ.out.setCell 3 (.slice (some ⟨gu,0,none⟩) k cu);have tX:=xK.out.trans (aF z6 t 3 (.slice (some ⟨gu,0,none⟩) k cu));clear c3' cfz bU apS hkc;generalize z6.setCell ⟨t,3,none⟩ (.slice (some ⟨gu,0,none⟩) k cu)=z7 at *;have nU:=List.mem_of_getElem? lU.out;have Hf:=l9.out.tx.at_ e0 nU;have WV:e0.vu=.slice (some ⟨gu,0,none⟩) (k+1) cu:=FP.out;have WW:aj e0.fp y8 z7:=tX.mono (fun b e1=>.inl (e1.trans Ls.out.symm));have hlk:(e0.EU.take k).length=k:=by rw[List.length_take,HLEN.out];omega
 have htx:yg W0 z7 (⟨t,{ e0.x with last:=T+1,l:=e0.x.l.dropLast },.slice (some ⟨gu,0,none⟩) k cu,e0.EU.take k⟩:Te) K:=by
  refine⟨Zn,?_,?_,?_,?_,?_⟩
  ·have h1:=aI Hf.row tX (fun q e1 e2=>Hf.ne q e1 (e2.trans Ls.out.symm));rw[HLEN.out,WV]at h1;have h2:=QH (m:=k) h1 (by omega) (by omega);rw[show sG e0.EU=e0.EU.flatMap EM from rfl,Lr (f:=EM) (k:=5) (fun _=>rfl)]at h2;show z7.ownsRow W0.heap.size _ 5 (.slice (some ⟨gu,0,none⟩) k cu) (e0.EU.take k).length (sG (e0.EU.take k));rw[hlk];exact h2
  ·show e0.x.l.dropLast=(e0.EU.take k).map _;rw[Hf.ups,List.dropLast_eq_take,List.length_map,HLEN.out,Nat.add_sub_cancel,List.map_take]
  ·intro u' hu';exact(Hf.tb u' (List.mem_of_mem_take hu')).grow tX (fun q hq e2=>l9.out.k3 q hq (.inr ⟨e0,nU,.inl (e2.trans Ls.out.symm)⟩))
  ·show W0.heap.size<=t;rw[<-Ls.out];exact Hf.gt
  ·intro q e1 e2;have e3:gu=q:=by simpa[Value.ownBlock]using e1
   subst e3;exact Hf.ne gu (by rw[WV];rfl) (e2.trans Ls.out.symm)
 have hown:∀q,(Value.slice (some ⟨gu,0,none⟩) k cu).ownBlock=some q->e0.vu.ownBlock=some q:=fun q e1=>by
  have e3:gu=q:=by simpa[Value.ownBlock]using e1
  rw[WV,<-e3];rfl
 have hnew:∀q,bZ vo (yH.set i (⟨t,{ e0.x with last:=T+1,l:=e0.x.l.dropLast },.slice (some ⟨gu,0,none⟩) k cu,e0.EU.take k⟩:Te)) q->bZ vo yH q\/y8.heap.size<=q:=by
  intro q hq;rcases hq.set with hq|hq
  ·exact .inl hq
  ·rcases hq with hq|hq
   ·exact .inl (.inr ⟨e0,nU,.inl (hq.trans Ls.out.symm)⟩)
   ·exact .inl (.inr ⟨e0,nU,.inr (hown q hq)⟩)
 have hs9:=l9.out.txs WW (fun q hq=>.inl (.inr ⟨e0,nU,hq⟩)) (l9.out.tx.setAt lU.out WW (fun q hq h=>l9.out.k3 q hq (.inr ⟨e0,nU,h⟩)) htx Ls.out.symm (fun q e1=>.inl (hown q e1))) hnew;have e2:(yH.set i (⟨t,{ e0.x with last:=T+1,l:=e0.x.l.dropLast },.slice (some ⟨gu,0,none⟩) k cu,e0.EU.take k⟩:Te)).map (·.x)=σ0.opn.set i { e0.x with last:=T+1,l:=e0.x.l.dropLast }:=by rw[List.map_set,<-HS.out.wP]
 rw[e2]at hs9;have pW:=hid hs9;have Aj:Hid (aG (aO S8 yD vo yH K) (aO S8 yD vo (yH.set i (⟨t,{ e0.x with last:=T+1,l:=e0.x.l.dropLast },.slice (some ⟨gu,0,none⟩) k cu,e0.EU.take k⟩:Te)) K) y8 z7):=hid (fQ (WW.mono (fun q hq=>.inr (.inr (.inl (.inr ⟨e0,nU,hq⟩))))) (fun q h=>.inl h) (fun q h=>.inl h) hnew (fun q h=>.inl h));have Dp:=gY.out.lt;have apT:=Au.out;have uH:=(kD.out.aH FW.out (fun h=>by
  rcases h with h|h
  ·have:=(Dp _ (.inl h)).2;omega
  ·have:=(Dp _ (.inr (.inl h))).2;omega)).aH tX (fun h=>by
  have:=rH.out.lt;have:=ji.out.size;omega)
 have r0:=uH.cell 0 _ rfl;have r1:=uH.cell 1 _ rfl;have r2:=uH.cell 2 _ rfl;have r3:=uH.cell 3 _ rfl;have r4:=uH.cell 4 _ rfl;have r5:=uH.cell 5 _ rfl;have r6:=uH.cell 6 _ rfl;have r7:=uH.cell 7 _ rfl;have r8:=uH.cell 8 _ rfl;have r9:=uH.cell 9 _ rfl;have r10:=uH.cell 10 _ rfl;have yw:=uH.lt;have hup:=HUP.out;have eH:=(hs9.ln.tb _ (List.mem_append_right _ (List.mem_singleton_self _))).2;have happ:=GR hs9 ({ Rc.zero with kind:=3,aV:=e0.x.id,prev:=e0.x.last,page:=y3,off:=y4,after:=u.1.before,next:=y2 }:Rc) none a2 0 0 mb c2 zB.out (by have:=eH.1;rw[show(({ Rc.zero with kind:=3,aV:=e0.x.id,prev:=e0.x.last,page:=y3,off:=y4,after:=u.1.before,next:=y2 }:Rc):Rc).after.length=mb from zB.out]at this;exact this) (fun q e1=>⟨fun h=>hs9.k1 q (eH.2 q e1) h,(hs9.kin q (eH.2 q e1)).2⟩) (by show y3<c.pg;omega) (by show y4+mb<=504;omega) (T+1) (by omega) (by have:=U7.out;have:=oG.out;omega) (by show σ0.p.wr+2<=_;have:=Zv.out;omega);have QN:=hid happ;have hpl:=F8 hs9 ({ Rc.zero with kind:=3,aV:=e0.x.id,prev:=e0.x.last,page:=y3,off:=y4,after:=u.1.before,next:=y2 }:Rc) (by show y3<c.pg;omega) (by show y4+u.1.before.length<=504;rw[zB.out];omega) (T+1) (by omega) (by show σ0.p.wr+1<=_;have:=Zv.out;omega);have KR:=hid hpl;have Og:=hid hlk;clear Zn tX nU Hf WV WW hlk htx hown hnew hs9 e2 Dp apT uH hup eH happ hpl;go_wp2_with fail;refine QN.out.mono ?_;rintro er y9 ⟨S9,rfl,hs9,DI⟩;have abN:=hid hs9;have Kq:=hid DI;clear r0 r1 r2 r3 r4 r5 r6 r7 r8 r9 r10 yw hs9 DI;go_wp2_with fail;go_step3;have ad2:(Rc.enc ({ Rc.zero with kind:=3,aV:=e0.x.id,prev:=e0.x.last,page:=y3,off:=y4,after:=u.1.before,next:=y2 }:Rc)).length=96+mb:=by rw[oZ ({ Rc.zero with kind:=3,aV:=e0.x.id,prev:=e0.x.last,page:=y3,off:=y4,after:=u.1.before,next:=y2 }:Rc) rfl rfl,ny.out]
 have ah6:=KR.out.1;have abO:=KR.out.2;have huR:NI c σ0 i e0.x u.1=(St.apply c ({ σ0 with io:={ σ0.io with R:=σ0.io.R.app (Rc.enc ({ Rc.zero with kind:=3,aV:=e0.x.id,prev:=e0.x.last,page:=y3,off:=y4,after:=u.1.before,next:=y2 }:Rc)) },lines:=σ0.lines++[(σ0.io.R.tail+1,({ Rc.zero with kind:=3,aV:=e0.x.id,prev:=e0.x.last,page:=y3,off:=y4,after:=u.1.before,next:=y2 }:Rc))],opn:=σ0.opn.set i { e0.x with last:=T+1,l:=e0.x.l.dropLast } }:St) ({ Rc.zero with kind:=3,aV:=e0.x.id,prev:=e0.x.last,page:=y3,off:=y4,after:=u.1.before,next:=y2 }:Rc) (T+1)).2:=by
  unfold NI;rw[U8.out,oG.out]
 have asB:=adZ.out;have auC:=apQ.out;have auD:=U7.out;have htt:=oG.out;refine⟨rfl,k,by omega,NJ.intro rfl ⟨NI c σ0 i e0.x u.1,yD,_,yH.set i (⟨t,{ e0.x with last:=T+1,l:=e0.x.l.dropLast },.slice (some ⟨gu,0,none⟩) k cu,e0.EU.take k⟩:Te),(⟨t,{ e0.x with last:=T+1,l:=e0.x.l.dropLast },.slice (some ⟨gu,0,none⟩) k cu,e0.EU.take k⟩:Te),S9,by rw[huR];exact abN.out,List.getElem?_set_self (List.getElem?_eq_some_iff.1 lU.out).1,rfl,Og.out,fun u' hu'=>ah1.out u' (List.mem_of_mem_take hu'),?_,oD.out,?_,apP.out,?_,?_,?_,?_,?_⟩⟩
 ·rw[huR,abO.R.room c.n];show iP (e0.EU.take k)+xr<=(σ0.io.R.app _).room c.n;rw[QG,ad2];omega
 ·show T+1<=_;omega
 ·rw[huR,abO.R.tail];show(σ0.io.R.app _).tail+iP (e0.EU.take k)<=_;rw[qN,ad2];omega
 ·rw[List.length_append];have:=nS.out;show Zu.length+1+k<=_;omega
 ·rw[huR];have h1:=abO.wr;have h2:=Zv.out;have h3:(St.apply c ({ σ0 with io:={ σ0.io with R:=σ0.io.R.app (Rc.enc ({ Rc.zero with kind:=3,aV:=e0.x.id,prev:=e0.x.last,page:=y3,off:=y4,after:=u.1.before,next:=y2 }:Rc)) },lines:=σ0.lines++[(σ0.io.R.tail+1,({ Rc.zero with kind:=3,aV:=e0.x.id,prev:=e0.x.last,page:=y3,off:=y4,after:=u.1.before,next:=y2 }:Rc))],opn:=σ0.opn.set i { e0.x with last:=T+1,l:=e0.x.l.dropLast } }:St) ({ Rc.zero with kind:=3,aV:=e0.x.id,prev:=e0.x.last,page:=y3,off:=y4,after:=u.1.before,next:=y2 }:Rc) (T+1)).2.p.wr<=σ0.p.wr+2:=h1;omega
 ·rw[<-yI.out];refine(Zt c i mark (k+1) σ0 e0.x u.1 (HS.out.UW lU.out) Ux.out jP.out (by rw[U8.out,ny.out];omega) ?_).symm;rw[U8.out,oG.out];rw[oG.out]at ah6;exact ah6
 ·have F1:aG (aO xW QK vo yH K) (aO xW QK vo yH K) wr y4w:=(aG.below (aC ji.out)).trans (aG.below (aC HGY.out));have F2:aG (aO xW QK vo yH K) (aO S8 yD vo yH K) y4w y8:=fQ (FW.out.mono (fun k h=>h.elim .inl (fun h=>.inr (.inl h)))) Aq.out HV8.out (fun k h=>.inl h) (fun k h=>.inl h);exact iQ.out.trans (F1.trans (F2.trans (Aj.out.trans (iY Kq.out))))
end
end
section
open Go.RowKit
section
variable{W0 w w' w2:World}{A:bG}{c:Cf}{σ:St}{S:Nat->Prop}{vl vo gV:Value}{EL:List Le}{EO:List Te}{K S1:Nat->Prop}{X:Nat->Prop}
theorem ah7{t:Int}{v:Value}{i:Nat}{e:Te}(hof:WC σ EO t v)(hi:σ.of t=some i)(he:EO[i]? = some e):v=.pointer (some ⟨e.t,0,none⟩):=by
 rcases hof with ⟨i',e',h1,h2,h3⟩|⟨h1,_⟩
 ·rw[h1]at hi;obtain rfl:=Option.some.inj hi;rw[h2]at he;obtain rfl:=Option.some.inj he;exact h3
 ·rw[h1]at hi;cases hi
theorem of_nil{t:Int}{v:Value}(hof:WC σ EO t v)(hi:σ.of t=none):v=.pointer none:=by
 rcases hof with ⟨i',e',h1,h2,h3⟩|⟨_,h1⟩
 ·rw[hi]at h1;cases h1
 ·exact h1
theorem step_opn(σ:St)(c:Cf)(i:Nat)(x:Tx)(kd:Nat)(hr:96<=σ.io.R.room c.n):(σ.step c i x { Rc.zero with kind:=kd }).2.io.R.room c.n=σ.io.R.room c.n-96/\(σ.step c i x { Rc.zero with kind:=kd }).2.io.R.tail=σ.io.R.tail+96/\(σ.step c i x { Rc.zero with kind:=kd }).2.p=σ.p:=by
 rw[St.step_eq σ c i x kd hr];have hl:(Rc.enc { Rc.zero with kind:=kd,aV:=x.id,prev:=x.last }).length=96:=by rw[oZ _ rfl rfl];rfl
 refine⟨?_,?_,rfl⟩
 ·show(σ.io.R.app _).room c.n=_;rw[QG,hl]
 ·show(σ.io.R.app _).tail=_;rw[qN,hl]
theorem Kr(σ:St)(c:Cf)(r:Rc):(σ.lay c r).2.2.opn=σ.opn:=by unfold St.lay;split<;>rfl
theorem LC(σ:St)(c:Cf)(r:Rc)(l:Nat):(σ.apply c r l).2.opn=σ.opn:=by
 unfold St.apply;simp only[];split<;>rfl
theorem QO(c:Cf)(i mark:Nat):∀(m:Nat)(σ:St),(St.undo c i mark m σ).2.opn.length=σ.opn.length
 | 0,σ=>rfl
 | m + 1,σ=>by
  rw[St.undo];split
  ·rfl
  ·split
   ·rfl
   ·split
    ·rfl
    ·simp only[];split
     ·rw[Kr]
     ·split
      ·rw[LC];simp[St.wZ,Kr]
      ·rw[QO c i mark m,LC];simp[St.wZ,Kr]
theorem TW(h:aP W0 w A c σ vl vo EL EO K S1)(hn:EO.length<=1000000)(i:Nat)(e:Te)(hof:σ.of (e.x.id:Int)=some i)(jI:EO[i]? = some e)(hu:U6 c.pg e.EU)(hm:e.EU.length<=1000000)(hpp:c.pg<=1099511627776)(lS:e.x.id<=1099511627776)(hla:e.x.last<=1099511627776)
  (hk:192+iP e.EU<=σ.io.R.room c.n) (ht:σ.io.R.tail+192+iP e.EU<=1099511627775) (hl:EL.length+1+e.EU.length<=1000000) (hwr:σ.p.wr+2*e.EU.length<=1000000000):
  Calls Tryz.prog 30 #[.pointer (some ⟨A.sb,0,none⟩),.int .i64 (e.x.id:Nat)] w fun er w'=>∃S',er=.returned (.int .i64 0)/\SV W0 A c (σ.rollback c i e.x).2 S' w'/\aG (aO S1 vl vo EO K) S' w w':=by
 have HS:=hid h;have lU:=hid jI;have c9:=h.bC.cell 9 _ rfl;have bU:=h.bC.lt;have hcall:=ND h (e.x.id:Int) (Nat.le_trans hn (by decide));have Ap:=hid hcall;have qh:=hid hof;have hst:=afw h i e jI 5 (by decide) lS hla (by omega) (by omega) (by omega);have hst2:Calls Tryz.prog 57 #[.pointer (some ⟨A.sb,0,none⟩),.pointer (some ⟨e.t,0,none⟩),.agg #[.int .i64 5,.int .i64 0,.int .i64 0,.int .i64 0,.int .i64 0,.int .i64 0,.slice none 0 0,.slice none 0 0,.slice none 0 0,.slice none 0 0,.int .i64 0]] w _:=hst;have HST:=hid hst2;obtain⟨p1,p2,p3⟩:=step_opn σ c i e.x 5 (by omega);have kD:=hid p1;have HP2:=hid p2;have HP3:=hid p3;have HE1:=hid (St.step_eq σ c i e.x 5 (by omega));have HU:=hid hu;have HM:=hid hm;have Qn:=hid hpp;have HK:=hid hk;have HT:=hid ht;have HL:=hid hl;have nK:=hid hwr;have HN:=hid hn;have oD:=hid lS;have HLX:=hid h.tx;have hxl:e.x.l.length=e.EU.length:=by rw[(h.tx.at_ e (List.mem_of_getElem? jI)).ups,List.length_map]
 have O6:=hid hxl;clear h jI hcall hof hst hst2 p1 p2 p3 hu hm hpp hk ht hl hwr hn lS hla hxl;go_enter Tryz.func30,Tryz.ntmps30;go_wp2_with fail;refine Ap.out.mono ?_;rintro er y0 ⟨⟨v,rfl,QS⟩,hy⟩;obtain rfl:w=y0:=hy.symm;obtain rfl:=ah7 QS qh.out lU.out;clear QS Ap;go_wp2_with fail;refine HST.out.mono ?_;rintro er y1 ⟨vl1,S2,rfl,hs1,hf1⟩;have hi:i<EO.length:=(List.getElem?_eq_some_iff.1 lU.out).1;have gY:=hid hs1;have Df:=hid hf1;have hun:=afy hs1 i 0 (by decide) (⟨e.t,{ e.x with last:=σ.io.R.tail+1 },e.vu,e.EU⟩:Te) (List.getElem?_set_self hi) HU.out HM.out Qn.out 1099511627679 1000000 1000000000 96 (by decide) (by decide) (by decide)
  (by rw[kD.out];have:=HK.out;show iP e.EU+96<=_;omega) oD.out (by show σ.io.R.tail+1<=_;have:=HT.out;omega) (by rw[HP2.out];have:=HT.out;show _+iP e.EU<=_;omega) (by rw[List.length_append];have:=HL.out;show EL.length+1+e.EU.length<=_;omega) (by rw[HP3.out];exact nK.out)
 have ah8:Calls Tryz.prog 61 #[.pointer (some ⟨A.sb,0,none⟩),.pointer (some ⟨e.t,0,none⟩),.int .i64 0] y1 _:=hun;have yI:=hid ah8;clear hs1 hf1 hun ah8 HST c9 bU hi;go_wp2_with fail;refine yI.out.mono ?_;rintro er y2 ⟨rfl,σ2,vl2,EL2,EO2,e2,S3,hs2,abP,het,ah9,aia,ht2,hl2,hw2,hr2,hu2,hf2⟩;have HS2:=hid hs2;have HF2:=hid hf2;have Gg:=hid hu2;have apU:=hid abP;have hlen2:EO2.length<=1000000:=by
  have h1:=QO c i 0 ((⟨e.t,{ e.x with last:=σ.io.R.tail+1 },e.vu,e.EU⟩:Te).EU.length+1) (σ.step c i e.x { Rc.zero with kind:=5 }).2;rw[hu2]at h1;rw[<-hs2.JQ,h1,gY.out.JQ,List.length_set];exact HN.out
 have hen:=ahX hs2 i e2 abP ah9 aia hlen2 hr2 (by omega) (by omega);rw[show e2.t=e.t from het]at hen;have qX:=hid hen;have HR2:=hid hr2;clear hs2 hf2 hu2 abP het ah9 aia ht2 hl2 hw2 hr2 hlen2 hen;go_wp2_with fail;refine qX.out.mono ?_;rintro er y3 ⟨vl3,vo3,EL3,S4,rfl,hs3,hf3⟩;have Aw:=hid hs3;have HF3:=hid hf3;clear hs3 hf3;go_wp2_with fail;go_ret;have e1:(σ.rollback c i e.x).2=(σ2.end_ c i e2.x).2:=by
  unfold St.rollback;simp only[];rw[HE1.out];simp only[];rw[if_neg (by simp)];have h1:=Gg.out;rw[HE1.out]at h1;rw[O6.out];simp only[]at h1;rw[h1];simp only[];rw[if_neg (by simp),HS2.out.UW apU.out]
 rw[e1];have FF:=Df.out.trans (HF2.out.trans HF3.out)
 first|exact⟨_,rfl,⟨_,_,_,_,_,_,Aw.out,rfl⟩,FF⟩|exact⟨rfl,_,⟨_,_,_,_,_,_,Aw.out,rfl⟩,FF⟩
end
end
section
open Go.RowKit
section
variable{W0 w w' w2:World}{A:bG}{c:Cf}{σ:St}{S:Nat->Prop}{vl vo gV:Value}{EL:List Le}{EO:List Te}{K S1:Nat->Prop}{X:Nat->Prop}
def St.commit(c:Cf)(σ:St)(i:Nat)(x:Tx):Int×St:=
 let a:=σ.step c i x { Rc.zero with kind:=4 }
 if a.1≠0 then a else
 let s2:St:={ a.2 with commits:=a.2.commits+1,io:={ D:=(a.2.io.R.flush c.n a.2.io.D).2,R:=(a.2.io.R.flush c.n a.2.io.D).1 } }
 match s2.opn[i]? with
 | none=>(0,s2)
 | some y=>s2.end_ c i y
theorem LD(h:aP W0 w A c σ vl vo EL EO K S1):
  Calls Tryz.prog 58 #[.pointer (some ⟨A.r,0,none⟩)] w fun e w'=>∃aT,e=.returned (.int .i64 0)/\aP W0 w' A c { σ with io:={ D:=(σ.io.R.flush c.n σ.io.D).2,R:=(σ.io.R.flush c.n σ.io.D).1 } } vl vo EL EO K aT/\aG S1 aT w w':=by
 obtain⟨S5,gW,IG,hc5,Bj⟩:=h.sp.zx;refine(Iz gW hc5).mono ?_;rintro e w' ⟨S6,rfl,DC,tN⟩;obtain⟨S7,Wx,yh⟩:=Bj _ _ _ DC (UK gW.good hc5 gW.ok.n2 gW.fits) (UL gW.good gW.ok.n2 gW.fits) tN;obtain⟨zS,ahl⟩:=h.Dy (σ':={ σ with io:={ D:=(σ.io.R.flush c.n σ.io.D).2,R:=(σ.io.R.flush c.n σ.io.D).1 } }) Wx yh rfl rfl;exact⟨S7,rfl,zS,yh⟩
theorem adL(h:aP W0 w A c σ vl vo EL EO K S1)(hn:EO.length<=1000000)(i:Nat)(e:Te)(hof:σ.of (e.x.id:Int)=some i)(jI:EO[i]? = some e)(lS:e.x.id<=1099511627776)(hla:e.x.last<=1099511627776)
  (hk:192<=σ.io.R.room c.n) (ht:σ.io.R.tail+192<=1099511627775) (hl:EL.length+2<=1000000) (hcm:σ.commits<=1099511627776):
  Calls Tryz.prog 29 #[.pointer (some ⟨A.sb,0,none⟩),.int .i64 (e.x.id:Nat)] w fun er w'=>∃S',er=.returned (.int .i64 0)/\SV W0 A c (St.commit c σ i e.x).2 S' w'/\aG (aO S1 vl vo EO K) S' w w':=by
 have lU:=hid jI;have c9:=h.bC.cell 9 _ rfl;have bU:=h.bC.lt;have hcall:=ND h (e.x.id:Int) (Nat.le_trans hn (by decide));have Ap:=hid hcall;have qh:=hid hof;have hst:=afw h i e jI 4 (by decide) lS hla (by omega) (by omega) (by omega);have hst2:Calls Tryz.prog 57 #[.pointer (some ⟨A.sb,0,none⟩),.pointer (some ⟨e.t,0,none⟩),.agg #[.int .i64 4,.int .i64 0,.int .i64 0,.int .i64 0,.int .i64 0,.int .i64 0,.slice none 0 0,.slice none 0 0,.slice none 0 0,.slice none 0 0,.int .i64 0]] w _:=hst;have HST:=hid hst2;obtain⟨p1,p2,p3⟩:=step_opn σ c i e.x 4 (by omega);have kD:=hid p1;have HP2:=hid p2;have HE1:=hid (St.step_eq σ c i e.x 4 (by omega));have HK:=hid hk;have HT:=hid ht;have HL:=hid hl;have HN:=hid hn;have oD:=hid lS;obtain⟨cm,XY⟩:∃x,σ.commits=x:=⟨_,rfl⟩
 have hc4:(σ.step c i e.x { Rc.zero with kind:=4 }).2.commits=cm:=by rw[HE1.out];exact XY
 have HC4:=hid hc4;rw[XY]at hcm;clear h jI hcall hof hst hst2 p1 p2 p3 hk ht hl hn lS hla XY hc4;go_enter Tryz.func29,Tryz.ntmps29;go_wp2_with fail;refine Ap.out.mono ?_;rintro er y0 ⟨⟨v,rfl,QS⟩,hy⟩;obtain rfl:w=y0:=hy.symm;obtain rfl:=ah7 QS qh.out lU.out;clear QS Ap;go_wp2_with fail;refine HST.out.mono ?_;rintro er y1 ⟨vl1,S2,rfl,hs1,hf1⟩;have hi:i<EO.length:=(List.getElem?_eq_some_iff.1 lU.out).1;have gY:=hid hs1;have Df:=hid hf1;have c8:y1.cell? ⟨A.sb,8,none⟩=some (.int .i64 (cm:Nat)):=by rw[<-HC4.out];exact hs1.bC.cell 8 _ rfl
 have cfz:=hs1.bC.free;have Qq:=hs1.bC.lt;obtain⟨S3,hs3,hf3⟩:=hs1.xq (σ':={ (σ.step c i e.x { Rc.zero with kind:=4 }).2 with commits:=cm+1 }) 8 (by decide) (.int .i64 ((cm:Int)+1)) rfl rfl rfl rfl rfl;have Aw:=hid hs3;have HF3:=hid hf3;clear hs1 hf1 hs3 hf3 HST c9 bU;go_upto_region 10 with (fail);clear c8 cfz Qq;generalize y1.setCell ⟨A.sb,8,none⟩ (.int .i64 ((cm:Int)+1))=y2 at *;have c1:=Aw.out.bC.cell 1 _ rfl;have Sr:=Aw.out.bC.lt;have hfl:=LD Aw.out;have vI:=hid hfl;clear hfl;go_wp2_with fail;refine vI.out.mono ?_;rintro er y3 ⟨S4,rfl,hs4,hf4⟩;have iD:=hid hs4;have Y0:=hid hf4;have hsame:=rX c.n (σ.step c i e.x { Rc.zero with kind:=4 }).2.io.R (σ.step c i e.x { Rc.zero with kind:=4 }).2.io.D;have hen:=ahX hs4 i (⟨e.t,{ e.x with last:=σ.io.R.tail+1 },e.vu,e.EU⟩:Te) (List.getElem?_set_self hi) oD.out (by show σ.io.R.tail+1<=_;have:=HT.out;omega) (by rw[List.length_set];exact HN.out)
  (by show 96<=Rg.room c.n (Rg.flush c.n (σ.step c i e.x { Rc.zero with kind:=4 }).2.io.R (σ.step c i e.x { Rc.zero with kind:=4 }).2.io.D).1;rw[hsame.room,kD.out];have:=HK.out;omega)
  (by show Rg.tail (Rg.flush c.n (σ.step c i e.x { Rc.zero with kind:=4 }).2.io.R (σ.step c i e.x { Rc.zero with kind:=4 }).2.io.D).1+96<=_;rw[hsame.tail,HP2.out];have:=HT.out;omega) (by rw[List.length_append];have:=HL.out;show EL.length+1<=_;omega)
 have qX:=hid hen;clear hs4 hf4 hsame hen c1 Sr hi;go_wp2_with fail;refine qX.out.mono ?_;rintro er y5 ⟨vl5,vo5,EL5,S5,rfl,hs5,hf5⟩;have sK:=hid hs5;have Pn:=hid hf5;clear hs5 hf5;go_wp2_with fail;go_ret;have e1:(St.commit c σ i e.x).2=(St.end_ c ({ (σ.step c i e.x { Rc.zero with kind:=4 }).2 with commits:=cm+1,io:={ D:=((σ.step c i e.x { Rc.zero with kind:=4 }).2.io.R.flush c.n (σ.step c i e.x { Rc.zero with kind:=4 }).2.io.D).2,R:=((σ.step c i e.x { Rc.zero with kind:=4 }).2.io.R.flush c.n (σ.step c i e.x { Rc.zero with kind:=4 }).2.io.D).1 } }:St) i { e.x with last:=σ.io.R.tail+1 }).2:=by
  unfold St.commit;simp only[];rw[if_neg (by rw[HE1.out];simp)];have h1:(σ.step c i e.x { Rc.zero with kind:=4 }).2.opn[i]? = some { e.x with last:=σ.io.R.tail+1 }:=gY.out.UW (e:=(⟨e.t,{ e.x with last:=σ.io.R.tail+1 },e.vu,e.EU⟩:Te)) (List.getElem?_set_self (List.getElem?_eq_some_iff.1 lU.out).1);rw[h1,HC4.out]
 rw[e1];have FF:=Df.out.trans ((iY HF3.out).trans ((iY Y0.out).trans Pn.out))
 first|exact⟨_,rfl,⟨_,_,_,_,_,_,sK.out,rfl⟩,FF⟩|exact⟨rfl,_,⟨_,_,_,_,_,_,sK.out,rfl⟩,FF⟩
end
end
section
open Go.RowKit
section
variable{W0 w w' w2:World}{A:bG}{c:Cf}{σ:St}{S:Nat->Prop}{vl vo gV:Value}{EL:List Le}{EO:List Te}{K S1:Nat->Prop}{X:Nat->Prop}
theorem WX(h:aP W0 w A c σ vl vo EL EO K S1)(hn:EO.length<=1000000)(t p off:Int)(v:Value)(hof:σ.of t=none):
  Calls Tryz.prog 31 #[.pointer (some ⟨A.sb,0,none⟩),.int .i64 t,.int .i64 p,.int .i64 off,v] w fun er w'=>er=.returned (.int .i64 61)/\w'=w:=by
 have qh:=hid hof;have c9:=h.bC.cell 9 _ rfl;have bU:=h.bC.lt;have hcall:=ND h t (Nat.le_trans hn (by decide));have Ap:=hid hcall;clear h hof hcall hn;go_enter Tryz.func31,Tryz.ntmps31;go_wp2_with fail;refine Ap.out.mono ?_;rintro er y0 ⟨⟨v,rfl,QS⟩,hy⟩;obtain rfl:w=y0:=hy.symm;obtain rfl:=of_nil QS qh.out;clear QS Ap;go_wp2_with fail;go_ret
 first|exact⟨rfl,rfl⟩|trivial
end
end
section
open Go.RowKit
theorem run_append_nil_zeros{P:Program}{w:World}{t tn e:TypeId}(T:SliceOf P t e (.int .u8 0) 1 1)(ty:TypeId)(htn:P.underlying tn=some (.int .i64))(k:Nat)(hk:0<k)(h63:k<=1099511627776):
  ∃c' w',(Builtin.append_ #[t,tn] ty #[.slice none 0 0,.int .i64 k]).run P w=.ok (.slice (some ⟨w.heap.size,0,none⟩) k c') w'/\
   w'.ownsRow w.heap.size e 1 (.slice (some ⟨w.heap.size,0,none⟩) k c') k ((List.replicate k (0:UInt8)).map B)/\Below w.heap.size w w':=by
 obtain⟨i,hi,hz0,hz1,hz2⟩:=info_parts T.info;have hge:=grownCap_ge w (0+k) 0 e;have hcm2:grownCap w (0+k) 0 e<=maxLen:=grownCap_le_maxLen w (0+k) 0 e (by unfold maxLen;omega);have hold:(Builtin.firstCells i.size 0 (.slice none 0 0)).run P w.drew=.ok ([]:List Value).toArray w.drew:=by simp[Builtin.firstCells]
 have hrun:=Lib.run_append_grow_zeros (P:=P) (ty:=ty) w t tn e i (.int .u8 0) .i64 .i64 T.und htn hi hz0 none 0 0 [] hold k (by omega) (by omega) (by omega) (by omega) (by rw[hz2];omega) (by rw[hz2];exact growslice_fits (by omega) (by omega));rw[Nat.zero_add]at hrun;refine⟨_,_,hrun,⟨by simp,.inr ⟨w.heap.size,_,_,rfl,Nat.le_refl _,heap_alloc_new w.drew _,by rw[<-Nat.zero_add k];exact hge,by rw[<-Nat.zero_add k];exact hcm2,?_,?_⟩⟩,⟨rfl,rfl,rfl,by simp,fun j hj=>Below.heap_alloc w.drew _ j (by exact hj)⟩⟩
 ·have hzc:(Value.int IntKind.u8 0).cells.size=1:=rfl;simp only[Array.size_append,List.size_toArray,size_zeroCells,hzc,List.length_nil];rw[Nat.zero_add]at hge;omega
 ·simp only[Array.toList_append,uq,List.nil_append];have hl:((List.replicate k (0:UInt8)).map B).length=k*1:=by simp
  rw[<-hl];exact List.take_left
theorem yV{P:Program}{w:World}{ops:Array Oper}{rest:List Oper}{o:Oper}{a:Act}{Q:Exit->Act->World->Prop}
  {t tn e:TypeId} (T:SliceOf P t e (.int .u8 0) 1 1) (htn:P.underlying tn=some (.int .i64)) (s x:Operand) (hgd:o.guard=none)
  (ho:o.op=.call { callee:=.builtin .append,args:=#[s,x],argTypes:=#[t,tn] })
  (hs:a.eval s=.slice none 0 0) {k:Nat} (hx:a.eval x=.int .i64 (k:Int)) (hk:0<k) (h63:k<=1099511627776)
  (h:∀cap w',w'.ownsRow w.heap.size e 1 (.slice (some ⟨w.heap.size,0,none⟩) k cap) k ((List.replicate k (0:UInt8)).map B)->Below w.heap.size w w'->
   wpList P ops Q rest (a.put o.dst (.slice (some ⟨w.heap.size,0,none⟩) k cap)) w'):wpList P ops Q (o::rest) a w:=by
 obtain⟨c',w',hrun,hown',hgr⟩:=run_append_nil_zeros (P:=P) T o.type htn k hk h63;refine wpList_plain hgd fun K hK=>?_;unfold Oper.wp;simp[execOp,ho,resolve,invoke,builtin,hs,hx,Result.andThen];rw[hrun];exact hK _ _ (h c' w' hown' hgr)
theorem abQ(w:World)(n:Nat)(hn:0<n)(hn2:n<=1048576):
  Calls Tryz.prog 160 #[.slice none 0 0,.int .i64 (n:Nat)] w fun e w'=>∃g c,e=.returned (.slice (some ⟨g,0,none⟩) 0 c)/\w'.ownsRow w.heap.size 5 1 (.slice (some ⟨g,0,none⟩) 0 c) 0 []/\Below w.heap.size w w':=by
 have h0:decide ((n:Int)<0)=false:=by simp
 have h1:decide ((n:Int)>0)=true:=by simp;omega
 have h2:decide ((0:Int)<(n:Int))=true:=by simp;omega
 have h3:decide (0<n)=true:=by simp;omega
 go_enter Tryz.func160,Tryz.ntmps160;go_wp2_with (at_builtin;refine yV bytesOf (by kernel_rfl) (.tmp 20) (.tmp 21) rfl rfl rfl rfl hn (by omega) ?_;intro cq wq ho2 hb2;have HX:=hid (And.intro ho2 hb2);clear ho2 hb2);have HY:=hid HX.out;go_ret;obtain⟨h1,h2⟩:=HY.out;have h3':=QH (m:=0) h1 hn (Nat.zero_le _);rw[Nat.zero_mul,List.take_zero]at h3';exact⟨_,_,rfl,h3',h2⟩
def kG(TS:List (Value×List UInt8)):List UInt8:=TS.flatMap (·.2)
theorem LG(TS:List (Value×List UInt8))(j:Nat)(x:Value×List UInt8)(h:TS[j]? = some x):kG (TS.take (j+1))=kG (TS.take j)++x.2:=by
 unfold kG;rw[List.take_add_one,h];simp
theorem ET(TS:List (Value×List UInt8))(j:Nat):(kG (TS.take j)).length<=(kG TS).length:=by
 conv=>rhs;rw[<-List.take_append_drop j TS]
 unfold kG;rw[List.flatMap_append,List.length_append];omega
theorem WY(w:World)(TS:List (Value×List UInt8))(n gt ct:Nat)(hl:TS.length=n)(hn:n<=1048576)(hc:∀(j:Nat) (x:Value×List UInt8),TS[j]? = some x->w.cell? ⟨gt,j,none⟩=some x.1)(hgt:gt<w.heap.size)
  (hr:∀x∈TS,Reads 1 w x.1 x.2.length (x.2.map B)) (hm:0<(kG TS).length) (hm2:(kG TS).length<=1048576):
  Calls Tryz.prog 124 #[.slice (some ⟨gt,0,none⟩) n ct] w fun e w'=>∃g c,e=.returned (.slice (some ⟨g,0,none⟩) (kG TS).length c)/\w'.ownsRow w.heap.size 5 1 (.slice (some ⟨g,0,none⟩) (kG TS).length c) (kG TS).length ((kG TS).map B)/\Below w.heap.size w w':=by
 have HL:=hid hl;have HC:=hid hc;have HR:=hid hr;obtain⟨m,hmm⟩:∃x,(kG TS).length=x:=⟨_,rfl⟩
 have jP:=hid hmm;rw[hmm]at hm hm2⊢;clear hl hc hr hmm;go_enter Tryz.func124,Tryz.ntmps124;go_wp2_with fail;go_loopw [3,11] (fun s i wr=>∃j:Nat,j<=n/\i=.int .i64 j/\s=.int .i64 ((kG (TS.take j)).length:Nat)/\wr=w) (fun _ i _=>n-(intOf i).toNat)
 case atStart=>exact⟨0,Nat.zero_le _,rfl,rfl,rfl⟩
 case round=>
  obtain⟨j,hj,rfl,rfl,hy⟩:=hrel;obtain rfl:w=wr:=hy.symm;have hle:(kG (TS.take j)).length<=m:=by rw[<-jP.out];exact ET TS j
  obtain⟨q,hq⟩:∃x,(kG (TS.take j)).length=x:=⟨_,rfl⟩
  rw[hq]at hle⊢;have HQ:=hid hq;clear hq;by_cases hjn:j<n
  case neg=>
   have b1:decide (j<n)=false:=by simpa using hjn
   have b2:decide ((j:Int)<(n:Int))=false:=by simpa using hjn
   obtain rfl:q=m:=by rw[<-HQ.out,<-jP.out,List.take_of_length_le (by have:=HL.out;omega)]
   clear HQ hle;go_wp2_with fail;refine(abQ w q hm hm2).mono ?_;rintro er y0 ⟨g0,c0,rfl,ho0,hb0⟩;have HO0:=hid ho0;have HB0:=hid hb0;clear ho0 hb0;go_wp2_with fail;go_loopw [6,27] (fun v i wx=>∃(k:Nat)(ao:Option Addr)(p c:Nat),k<=n/\i=.int .i64 k/\v=.slice ao p c/\p=(kG (TS.take k)).length/\wx.ownsRow w.heap.size 5 1 (.slice ao p c) p ((kG (TS.take k)).map B)/\Below w.heap.size w wx) (fun _ i _=>n-(intOf i).toNat)
   case atStart=>exact⟨0,_,0,c0,Nat.zero_le _,rfl,rfl,rfl,HO0.out,HB0.out⟩
   case round=>
    obtain⟨k,ao,p,c,hk,rfl,rfl,hp,hrow,hbl⟩:=hrel;have gZ:=hid hrow;have HB:=hid hbl;have HP:=hid hp;have auE:p<=q:=by rw[hp,<-jP.out];exact ET TS k
    clear hrow hbl hp;by_cases hkn:k<n
    case neg=>
     have b3:decide (k<n)=false:=by simpa using hkn
     have b4:decide ((k:Int)<(n:Int))=false:=by simpa using hkn
     have e5:TS.take k=TS:=List.take_of_length_le (by have:=HL.out;omega);have hrow:=gZ.out;have hp:=HP.out;rw[e5]at hrow hp;rw[jP.out]at hp;subst hp;obtain⟨g,c',e6,_,_⟩:=dV hrow hm;injection e6 with e7 _ e8;subst e7 e8;have HRW:=hid hrow;clear hrow e5;go_wp2_with fail;go_ret;exact⟨_,_,rfl,HRW.out,HB.out⟩
    have b3:decide (k<n)=true:=by simpa using hkn
    have b4:decide ((k:Int)<(n:Int))=true:=by simpa using hkn
    obtain⟨x,hx⟩:∃x,TS[k]? = some x:=⟨_,List.getElem?_eq_getElem (by have:=HL.out;omega)⟩
    have hcx:=(HB.out.cell (p:=⟨gt,k,none⟩) hgt).trans (HC.out k x hx);have hrx:=(HR.out x (List.mem_of_getElem? hx)).below HB.out (Nat.le_refl _);have hsucc:=LG TS k x hx;have BA:(kG (TS.take (k+1))).length<=q:=by rw[<-jP.out];exact ET TS (k+1)
    rw[hsucc,List.length_append,<-HP.out]at BA;have U9:=hid hsucc;have HRX:=hid hrx;obtain⟨xv,xb⟩:=x;obtain⟨xa,xc,rfl⟩:∃a c,xv=.slice a xb.length c:=by obtain⟨a,c,e,_⟩:=hrx;exact⟨a,c,e⟩
    obtain⟨xl,hxl⟩:∃l,xb.length=l:=⟨_,rfl⟩
    simp only[]at hcx BA;have aib:Hid (Reads 1 wr (.slice xa xb.length xc) xb.length (xb.map B)):=hid HRX.out;rw[hxl]at hcx BA aib;have O6:=hid hxl;have aic:=HB.out.size;clear hx hrx hsucc HRX hxl;go_wp2_with (at_builtin;refine dU bytesOf (.tmp 31) (.tmp 32) rfl rfl rfl gZ.out rfl aib.out (eU _) (by omega) (by omega) aic ?_;intro ob cq wq ho2 hg2 hn2;have HX:=hid (And.intro ho2 (And.intro hg2 hn2));clear ho2 hg2 hn2);have HY:=hid HX.out;go_roundw
    ·obtain⟨ho2,hg2,hn2⟩:=HY.out;refine⟨k+1,ob,p+xl,cq,by omega,by go_num,rfl,?_,?_,?_⟩
     ·rw[U9.out,List.length_append,<-HP.out,O6.out]
     ·rw[U9.out,List.map_append];exact ho2
     ·exact below_app HB.out aic (aj.aK hg2 (fun k o h=>h)) (fun q e=>(gZ.out.lt q e).1)
    ·simp[intOf];omega
  have b1:decide (j<n)=true:=by simpa using hjn
  have b2:decide ((j:Int)<(n:Int))=true:=by simpa using hjn
  obtain⟨x,hx⟩:∃x,TS[j]? = some x:=⟨_,List.getElem?_eq_getElem (by have:=HL.out;omega)⟩
  have hcx:=HC.out j x hx;have hrx:=HR.out x (List.mem_of_getElem? hx);have hsucc:=LG TS j x hx;have BA:(kG (TS.take (j+1))).length<=m:=by rw[<-jP.out];exact ET TS (j+1)
  rw[hsucc,List.length_append,HQ.out]at BA;have U9:=hid hsucc;obtain⟨xv,xb⟩:=x;obtain⟨xa,xc,rfl⟩:∃a c,xv=.slice a xb.length c:=by obtain⟨a,c,e,_⟩:=hrx;exact⟨a,c,e⟩
  obtain⟨xl,hxl⟩:∃l,xb.length=l:=⟨_,rfl⟩
  simp only[]at hcx BA;rw[hxl]at hcx BA;have O6:=hid hxl;have hneg:decide (((q:Int)+(xl:Int))<0)=false:=by simp;omega
  clear hx hrx hsucc hxl;go_wp2_with fail;go_roundw
  ·refine⟨j+1,by omega,by go_num,?_,by first|rfl|trivial⟩;rw[U9.out,List.length_append,HQ.out,O6.out];show Value.int _ _=Value.int _ _;congr 1
  ·simp[intOf];omega
end
section
open Go.RowKit
theorem Zw(R:Rg)(pos:Nat)(h2:pos<=R.tail)(hb:R.base<=pos):(R.trim pos).tail=R.tail:=by
 unfold Rg.trim;split
 ·next h=>
  unfold Rg.tail at *;simp only[List.length_drop];have:=Nat.div_mul_le_self pos 118;omega
 ·rfl
theorem afz{R:Rg}{n:Nat}(h:R.ok n)(pos:Nat)(h1:R.start<=pos)(h2:pos<=R.fin):(R.trim pos).ok n:=by
 have hb:=h.base;have ht:=Zw R pos (Nat.le_trans h2 h.ft) (by have:=h.base;have:=Nat.div_mul_le_self R.start 118;omega);have hrm:=h.room;have hd:R.start / 118<=pos / 118:=Nat.div_le_div_right h1;have hst:(R.trim pos).start=pos:=by unfold Rg.trim;split<;>rfl
 have hfi:(R.trim pos).fin=R.fin:=by unfold Rg.trim;split<;>rfl
 have hba:(R.trim pos).base=pos / 118*118:=by
  unfold Rg.trim;split
  ·rfl
  ·next hh=>show R.base=_;omega
 refine⟨h.n2,h.n3,?_,?_,?_,?_,?_⟩
 ·rw[hba,hst]
 ·rw[hst,hfi];exact h2
 ·rw[hfi,ht];exact h.ft
 ·rw[ht];exact h.top
 ·rw[ht,hst];exact Nat.le_trans hrm (Nat.mul_le_mul_right _ (by omega))
section
variable{W0 w:World}{r d n:Nat}{s:Io}{S:Nat->Prop}
theorem abR(h:dY W0 r d n s S w)(pos:Nat)(h1:s.R.start<=pos)(h2:pos<=s.R.fin):
  Calls Tryz.prog 127 #[.pointer (some ⟨r,0,none⟩),.int .i64 (pos:Nat)] w fun e w'=>∃S',e=.returned (.int .i64 0)/\dY W0 r d n { s with R:=s.R.trim pos } S' w'/\aG S S' w w':=by
 obtain⟨vb,S0,i1,i2,i3,i4,i5,i6,i7,rfl⟩:=h;refine(aa7 i1 i4 i2.bel.size pos h1 h2).mono ?_;rintro e w' ⟨Iw,rfl,g1,g2,g3⟩;have hdj:dA S0 (fun k=>k=r):=by
  rintro k hk rfl;exact i6 hk
 have hbel:Below W0.heap.size W0 w':=i2.bel.trans (g2.below (fun k hk=>⟨Nat.lt_of_lt_of_le hk i2.bel.size,by
  rintro rfl;have:=i1.gr;omega⟩))
 refine⟨_,rfl,⟨Iw,S0,g1,i2.grow g2 hdj hbel,i3,afz i4 pos h1 h2,i5,i6,?_,rfl⟩,g2.mono (fun k hk=>.inr (.inl hk)),?_⟩
 ·exact fun q e hs=>(g3 q e).elim (fun h=>i7 q h hs) (fun h=>by have:=(i2.lt q hs).2;omega)
 ·rintro k (hk|rfl|hk)
  ·exact .inl (.inl hk)
  ·exact .inl (.inr (.inl rfl))
  ·exact(g3 k hk).imp (fun h=>.inr (.inr h)) id
end
section
variable{W0 w w':World}{A:bG}{c:Cf}{σ:St}{vl vo:Value}{EL:List Le}{EO:List Te}{K S1:Nat->Prop}
theorem aP.EW(h:aP W0 w A c σ vl vo EL EO K S1):∃S5,dY W0 A.r A.d c.n σ.io S5 w/\(∀k,S5 k->S1 k)/\¬S5 A.sb/\σ.io.D.c=[]/\
  ∀Va S5' w',dY W0 A.r A.d c.n Va S5' w'->Va.D.c=[]->Va.D.l.length=σ.io.D.l.length->aG S5 S5' w w'->∃aT,aP W0 w' A c { σ with io:=Va } vl vo EL EO K aT/\aG S1 aT w w':=by
 obtain⟨S2,h1,h2,h3⟩:=h.sp.1.EK h.sp.io;obtain⟨S5,i1,rfl⟩:=h1;refine⟨S5,i1.rg,fun k hk=>h2 k (.inl hk),i1.ns,i1.c0,fun Va S5' w' hr hc hl hf=>?_⟩;obtain⟨z1,z2⟩:=i1.put hr hc (by rw[hl];exact i1.fit) hf;obtain⟨S',z3,z4⟩:=h3 _ _ _ z1 z2;obtain⟨z5,z6⟩:=h.Dy (σ':={ σ with io:=Va }) (aT:=S') ⟨z3,h.sp.2⟩ z4 rfl rfl;exact⟨S',z5,z4⟩
end
end
section
open Go.RowKit
section
variable{W0 w:World}{A:bG}{c:Cf}{σ:St}{vl vo:Value}{EL:List Le}{EO:List Te}{K S1:Nat->Prop}
theorem aP.afA(h:aP W0 w A c σ vl vo EL EO K S1):∃aT,aP W0 (w.setCell ⟨A.sb,4,none⟩ (.slice none 0 0)) A c { σ with lines:=[] } (.slice none 0 0) vo [] EO K aT/\aG S1 aT w (w.setCell ⟨A.sb,4,none⟩ (.slice none 0 0)):=by
 obtain⟨S9,z1,z2⟩:=h.sp.Bf 4 (by decide) (.slice none 0 0);have k3:=aF w A.sb 4 (.slice none 0 0);have hsb:=h.pG;have hlt:=h.lt;have dn:∀(P:Nat->Prop),(∀k,P k->k<w.heap.size)->(∀k,P k->¬S1 k)->∀k,P k->¬S9 k:=fun P h1 h2 k hk hx=>(z2.new k hx).elim (h2 k hk) (fun h=>by have:=h1 k hk;omega);refine⟨S9,⟨z1,⟨World.ownsRow_nil _ _ _ _,fun e he=>absurd he (by simp),fun e he=>absurd he (by simp)⟩,rfl,h.tx.grow k3 (fun k hk e2=>h.d2 k (e2▸hsb) hk) (fun k hk e2=>h.k1 k hk (e2▸hsb)),h.wP,
  fun k hk=>⟨(h.kin k hk).1,Nat.lt_of_lt_of_le (h.kin k hk).2 k3.size⟩,?_,?_,?_,dn _ (fun k hk=>(h.kin k hk).2) h.k1,?_,h.k3⟩,z2⟩
 ·intro k _ e;cases e
 ·exact fun k h1 h2=>dn (bZ vo EO) (fun k hk=>(hlt k (.inr (.inr (.inl hk)))).2) (fun k a b=>h.d2 k b a) k h2 h1
 ·intro k e;cases e
 ·intro k _ e;cases e
end
end
section
open Go.RowKit
end
end Go.Proofs.YtpajagkhmodbnaaGreat

/- The law StoreLog. Conditions: none. -/
import Derived.Test.YtpajagkhmodbnaaGreatPk38
import Derived.Test.YtpajagkhmodbnaaGreatPk31
import Derived.Test.YtpajagkhmodbnaaGreatPk39
import Derived.Deep.DeepCutAuto
import Derived.Deep.CutBlock
namespace Go.Proofs.YtpajagkhmodbnaaGreat
set_option linter.unusedSimpArgs false
set_option linter.unusedVariables false
open Go.RowKit
theorem cf512l:Cf.of 512=⟨128,130,94⟩:=by kernel_rfl
theorem b512l{b:Nat}(h:b≤12800):b+2048≤((Cf.of 512).n-1)*118:=by rw[cf512l];show _≤(128-1)*118;omega
def nI(n:Nat):Value:=.int .i64 (n:Nat)
theorem intsOfL:SliceOf Tryz.prog 47 3 (.int .i64 0) 1 8:=⟨Tryz.underlying47,by kernel_rfl,rfl,by decide⟩
theorem nI_one(l:List Nat):∀u∈l.map nI,u.oneCell'=true:=by
 intro u hu
 obtain⟨n,_,rfl⟩:=List.mem_map.1 hu
 rfl
structure SLA(w:World)(A:Adr)(i:Nat)(σ:St)(S:Nat→Prop)(W:Nat→List UInt8)(v:Value)(n:Nat)(wq:World):Prop where
 st:Sto w A (Cf.of 512) (130*i) (312*i) σ W S wq
 lk:LkS σ
 up:upM σ i
 len:(ids σ).length=n
 row:wq.ownsRow w.heap.size 3 1 v n ((ids σ).map nI)
 n3:n≤3
 sep:∀q,v.ownBlock=some q→¬S q
section
variable{W0 w w' w2:World}{A:Adr}{c:Cf}{σ:St}{S X:Nat→Prop}{k b m:Nat}{W:Nat→List UInt8}
theorem log_st(h:Sto W0 A c k b σ W S w)(hn:σ.lines.length≤1000000):
  Calls Tryz.prog 33 #[.pointer (some ⟨A.sb,0,none⟩)] w fun e w'=>∃(v:Value)(EL':List Le),e=.returned v∧Reads 12 w' v σ.lines.length (lcells EL')∧LnR w' EL'∧EL'.map (fun e=>(e.lsn,e.r))=σ.lines∧Below w.heap.size w w':=by
 obtain⟨vl,vo,EL,EO,K,S1,h1,rfl⟩:=h.sv
 have hl:EL.length=σ.lines.length:=by rw[h1.lis,List.length_map]
 refine(log_at h1 (by omega)).mono ?_
 rintro e w' ⟨v,EL',K',rfl,a1,a2,a3,a4,a5⟩
 exact⟨v,EL',rfl,a1,⟨fun e he=>(a2 e he).2,fun e he=>⟨(a2 e he).1.1.1,(a2 e he).1.2.1⟩⟩,a3,a5⟩
end
def WSl22(HS n kk cap ga:Nat)(L:List Nat)(j b o:Nat):Prop:=((j=4∨j=9)∧HS≤b)
def PSl22(HS n kk cap ga:Nat)(L:List Nat)(i:Nat)(VS:Nat→Value)(LO HI:Nat→Nat)(v:Value)(lo hi:Nat)(w:World):Prop:=
 match i with
 | 0=>v=.slice (some ⟨lo,0,none⟩) 0 0∧w.ownsRow HS 3 1 v 0 (([]:List Nat).map nI)
 | 1=>v=.slice (some ⟨ga,0,none⟩) n cap
 | 2=>v=.int .i64 ((kk:Nat):Int)
 | 3=>v=.slice (some ⟨ga,0,none⟩) kk cap
 | 4=>∃(a:Option Addr)(c:Nat),v=.slice a kk c∧w.ownsRow HS 3 1 v kk ((L.take kk).map nI)
 | 5=>v=.slice (some ⟨ga,0,none⟩) n cap
 | 6=>v=.int .i64 ((kk:Nat):Int)
 | 7=>v=.int .i64 ((kk+1:Nat):Int)
 | 8=>v=.slice (cutA (some ⟨ga,0,none⟩) (kk+1) cap 1) (n-(kk+1)) (cap-(kk+1))
 | 9=>∃(a:Option Addr)(c:Nat),v=.slice a (kk+(n-(kk+1))) c∧w.ownsRow HS 3 1 v (kk+(n-(kk+1))) ((L.take kk++L.drop (kk+1)).map nI)
 | _=>True
abbrev bSl22:List (List Nat):=[[],[],[],[1,2],[0,1,2,3],[],[],[6],[5,6,7],[0,1,2,3,4,5,6,7,8]]
theorem PSl22_stable(HS n kk cap ga:Nat)(L:List Nat)  : ∀i j,i<10→j<10→j≠i→j∉bSl22.getD i []→(i,j)∉([(0,4),(0,9),(4,9)]:List (Nat×Nat))→∀VS LO HI v lo hi w w',PSl22 HS n kk cap ga L i VS LO HI v lo hi w→GrowC (WSl22 HS n kk cap ga L j) w w'→PSl22 HS n kk cap ga L i VS LO HI v lo hi w':=by
 intro i j hi hj hne hbs hx VS LO HI v lo hj2 w w' h hg
 match i,hi with
 | 0,_=>
  simp only[PSl22]at h⊢
  simp at hx
  exact⟨h.1,own_growx (X:=fun _=>False) h.2 (GrowX.of_growC hg (fun k o hw=>by simp only[WSl22]at hw;omega)) (fun _ _ h=>h)⟩
 | 1,_|2,_|3,_|5,_|6,_|7,_|8,_=>
  simp only[PSl22]at h⊢
  exact h
 | 4,_=>
  simp only[PSl22]at h⊢
  simp at hx
  obtain⟨a,c,e,ho⟩:=h
  exact⟨a,c,e,own_growx (X:=fun _=>False) ho (GrowX.of_growC hg (fun k o hw=>by simp only[WSl22]at hw;omega)) (fun _ _ h=>h)⟩
 | 9,_=>
  simp only[PSl22]at h⊢
  have h4j:j≠4:=fun e=>hbs (by rw[e];decide)
  obtain⟨a,c,e,ho⟩:=h
  exact⟨a,c,e,own_growx (X:=fun _=>False) ho (GrowX.of_growC hg (fun k o hw=>by simp only[WSl22]at hw;omega)) (fun _ _ h=>h)⟩
 | (q+10),hq=>exact absurd hq (by omega)
theorem PSl22_cong(HS n kk cap ga:Nat)(L:List Nat):∀i,i<10→∀VS VS' LO LO' HI HI' v lz hz w,(∀j∈bSl22.getD i [],VS j=VS' j∧LO j=LO' j∧HI j=HI' j)→PSl22 HS n kk cap ga L i VS LO HI v lz hz w→PSl22 HS n kk cap ga L i VS' LO' HI' v lz hz w:=by
 intro i hi VS VS' LO LO' HI HI' v lz hz w he h
 match i,hi with
 | 0,_|1,_|2,_|3,_|4,_|5,_|6,_|7,_|8,_|9,_=>
  simp only[PSl22]at h⊢
  exact h
 | (q+10),hq=>exact absurd hq (by omega)
def WSl25(HS n kk cap ga:Nat)(L:List Nat)(j b o:Nat):Prop:=((j=4∨j=9)∧HS≤b)
def PSl25(HS n kk cap ga:Nat)(L:List Nat)(i:Nat)(VS:Nat→Value)(LO HI:Nat→Nat)(v:Value)(lo hi:Nat)(w:World):Prop:=
 match i with
 | 0=>v=.slice (some ⟨lo,0,none⟩) 0 0∧w.ownsRow HS 3 1 v 0 (([]:List Nat).map nI)
 | 1=>v=.slice (some ⟨ga,0,none⟩) n cap
 | 2=>v=.int .i64 ((kk:Nat):Int)
 | 3=>v=.slice (some ⟨ga,0,none⟩) kk cap
 | 4=>∃(a:Option Addr)(c:Nat),v=.slice a kk c∧w.ownsRow HS 3 1 v kk ((L.take kk).map nI)
 | 5=>v=.slice (some ⟨ga,0,none⟩) n cap
 | 6=>v=.int .i64 ((kk:Nat):Int)
 | 7=>v=.int .i64 ((kk+1:Nat):Int)
 | 8=>v=.slice (cutA (some ⟨ga,0,none⟩) (kk+1) cap 1) (n-(kk+1)) (cap-(kk+1))
 | 9=>∃(a:Option Addr)(c:Nat),v=.slice a (kk+(n-(kk+1))) c∧w.ownsRow HS 3 1 v (kk+(n-(kk+1))) ((L.take kk++L.drop (kk+1)).map nI)
 | _=>True
theorem PSl25_stable(HS n kk cap ga:Nat)(L:List Nat)  : ∀i j,i<10→j<10→j≠i→j∉bSl22.getD i []→(i,j)∉([(0,4),(0,9),(4,9)]:List (Nat×Nat))→∀VS LO HI v lo hi w w',PSl25 HS n kk cap ga L i VS LO HI v lo hi w→GrowC (WSl25 HS n kk cap ga L j) w w'→PSl25 HS n kk cap ga L i VS LO HI v lo hi w':=by
 intro i j hi hj hne hbs hx VS LO HI v lo hj2 w w' h hg
 match i,hi with
 | 0,_=>
  simp only[PSl25]at h⊢
  simp at hx
  exact⟨h.1,own_growx (X:=fun _=>False) h.2 (GrowX.of_growC hg (fun k o hw=>by simp only[WSl25]at hw;omega)) (fun _ _ h=>h)⟩
 | 1,_|2,_|3,_|5,_|6,_|7,_|8,_=>
  simp only[PSl25]at h⊢
  exact h
 | 4,_=>
  simp only[PSl25]at h⊢
  simp at hx
  obtain⟨a,c,e,ho⟩:=h
  exact⟨a,c,e,own_growx (X:=fun _=>False) ho (GrowX.of_growC hg (fun k o hw=>by simp only[WSl25]at hw;omega)) (fun _ _ h=>h)⟩
 | 9,_=>
  simp only[PSl25]at h⊢
  have h4j:j≠4:=fun e=>hbs (by rw[e];decide)
  obtain⟨a,c,e,ho⟩:=h
  exact⟨a,c,e,own_growx (X:=fun _=>False) ho (GrowX.of_growC hg (fun k o hw=>by simp only[WSl25]at hw;omega)) (fun _ _ h=>h)⟩
 | (q+10),hq=>exact absurd hq (by omega)
theorem PSl25_cong(HS n kk cap ga:Nat)(L:List Nat):∀i,i<10→∀VS VS' LO LO' HI HI' v lz hz w,(∀j∈bSl22.getD i [],VS j=VS' j∧LO j=LO' j∧HI j=HI' j)→PSl25 HS n kk cap ga L i VS LO HI v lz hz w→PSl25 HS n kk cap ga L i VS' LO' HI' v lz hz w:=by
 intro i hi VS VS' LO LO' HI HI' v lz hz w he h
 match i,hi with
 | 0,_|1,_|2,_|3,_|4,_|5,_|6,_|7,_|8,_|9,_=>
  simp only[PSl25]at h⊢
  exact h
 | (q+10),hq=>exact absurd hq (by omega)
def WSl19(A:Adr)(ga gp n kk cap t pp of nx dcp:Nat)(dao:Option Addr)(op oof:Int)(j b o:Nat):Prop:=False
def PSl19(A:Adr)(ga gp n kk cap t pp of nx dcp:Nat)(dao:Option Addr)(op oof:Int)(i:Nat)(v:Value)(lo hi:Nat)(w:World):Prop:=
 match i with
 | 0=>v=.pointer (some ⟨A.sb,0,none⟩)
 | 1=>v=.slice (some ⟨ga,0,none⟩) n cap
 | 2=>v=.int .i64 ((kk:Nat):Int)
 | 3=>v=.pointer (some ⟨ga,kk,none⟩)
 | 4=>v=.int .i64 ((t:Nat):Int)
 | 5=>v=.pointer (some ⟨gp,2,none⟩)
 | 6=>v=.int .i64 op
 | 7=>v=.int .i64 ((pp:Nat):Int)
 | 8=>v=.int .i64 ((kk:Nat):Int)
 | 9=>v=.int .i64 ((100*kk:Nat):Int)
 | 10=>v=.pointer (some ⟨gp,3,none⟩)
 | 11=>v=.int .i64 oof
 | 12=>v=.int .i64 ((of:Nat):Int)
 | 13=>v=.int .i64 ((100*kk+of:Nat):Int)
 | 14=>v=.slice dao nx dcp
 | _=>True
theorem PSl19_stable(A:Adr)(ga gp n kk cap t pp of nx dcp:Nat)(dao:Option Addr)(op oof:Int)  : ∀i j,i<15→j<15→j≠i→j∉([[],[],[],[1,2],[1,2,3],[],[5],[5,6],[],[8],[],[10],[10,11],[8,9,10,11,12],[]]:List (List Nat)).getD i []→∀v lo hi w w',PSl19 A ga gp n kk cap t pp of nx dcp dao op oof i v lo hi w→GrowC (WSl19 A ga gp n kk cap t pp of nx dcp dao op oof j) w w'→PSl19 A ga gp n kk cap t pp of nx dcp dao op oof i v lo hi w':=by
 intro i j hi hj hne hbs v lo hj2 w w' h hg
 match i,hi with
 | 0,_|1,_|2,_|3,_|4,_|5,_|6,_|7,_|8,_|9,_|10,_|11,_|12,_|13,_|14,_=>
  simp only[PSl19]at h⊢
  exact h
 | (q+15),hq=>exact absurd hq (by omega)
theorem modr(T:Int)(n:Nat)(h:0<n) : -(n:Int)<Int.tmod T n∧Int.tmod T n<(n:Int):=by
 have h1:=Int.tmod_lt_of_pos T (show(0:Int)<(n:Int) by omega)
 have h2:=Int.lt_tmod_of_pos T (show(0:Int)<(n:Int) by omega)
 exact⟨h2,h1⟩
theorem modk(T:Int)(n:Nat)(h:0<n):∃k:Nat,k<n∧Int.tmod (Int.tmod T n+(n:Int)) n=(k:Int):=by
 obtain⟨h1,h2⟩:=modr T n h
 have h3:0≤Int.tmod T n+(n:Int):=by omega
 rw[Int.tmod_eq_emod_of_nonneg h3]
 have h4:=Int.emod_nonneg (Int.tmod T n+(n:Int)) (show(n:Int)≠0 by omega)
 have h5:=Int.emod_lt_of_pos (Int.tmod T n+(n:Int)) (show(0:Int)<(n:Int) by omega)
 exact⟨((Int.tmod T n+(n:Int)) % n).toNat,by omega,by omega⟩
theorem andk(x:Int)(m:Nat)(hm:m≤255):∃q:Nat,q≤m∧bits BinOp.and IntKind.i64 x m=(q:Int):=by
 have h:(BitVec.ofInt 64 x &&& BitVec.ofInt 64 m).toNat≤m:=by
  rw[BitVec.toNat_and]
  refine Nat.le_trans Nat.and_le_right ?_
  rw[BitVec.toNat_ofInt]
  omega
 refine⟨(BitVec.ofInt 64 x &&& BitVec.ofInt 64 m).toNat,h,?_⟩
 show IntKind.i64.wrap (((BitVec.ofInt 64 x &&& BitVec.ofInt 64 m).toNat:Nat):Int)=_
 generalize (BitVec.ofInt 64 x &&& BitVec.ofInt 64 m).toNat=q at h⊢
 rw[IntKind.wrap_i64]
 omega
theorem Reads.cut40{w:World}{ao:Option Addr}{n c m:Nat}{l:List UInt8}(h:Reads 1 w (.slice ao n c) n (l.map B))(hm:m≤n):Reads 1 w (.slice ao m c) m ((l.take m).map B):=by
 obtain⟨ao',c',e,hl,hc,hcell⟩:=h
 injection e with e1 e2 e3
 subst e1 e3
 refine⟨_,_,rfl,?_,by omega,fun h0=>?_⟩
 ·rw[List.length_map]at hl⊢
  rw[List.length_take];omega
 ·obtain⟨b,o,e,hb,hc2⟩:=hcell (by omega)
  exact⟨b,o,e,hb,fun j u hu=>hc2 j u (by
   rw[List.getElem?_map,List.getElem?_take]at hu
   rw[List.getElem?_map]
   split at hu
   ·exact hu
   ·cases hu)⟩
theorem SLA.below{w:World}{A:Adr}{i n:Nat}{σ:St}{S:Nat→Prop}{W:Nat→List UInt8}{v:Value}{wq wz:World}(h:SLA w A i σ S W v n wq)(hb:Below wq.heap.size wq wz):SLA w A i σ S W v n wz:=
 ⟨h.st.below hb,h.lk,h.up,h.len,own_below h.row hb (fun q e=>(h.row.lt q e).2),h.n3,h.sep⟩
theorem Sto.app{W0 w wq:World}{A:Adr}{c:Cf}{σ:St}{S:Nat→Prop}{k b:Nat}{W:Nat→List UInt8}{v:Value}(h:Sto W0 A c k b σ W S w)(o:Obj)(hg:GrowX (fun q=>v.ownBlock=some q) (w.alloc o) wq)(hz:∀q,v.ownBlock=some q→¬S q∧W0.heap.size≤q):Sto W0 A c k b σ W S wq:=by
 have h1:=h.below ((Below.refl w.heap.size w).alloc (Nat.le_refl _) o)
 exact h1.grow hg (fun q h2 h3=>(hz q h3).1 h2) (h1.bel.trans (hg.below (fun q hq=>⟨by have:=h1.bel.size;omega,fun e=>by have:=(hz q e).2;omega⟩)))
set_option maxRecDepth 100000 in
set_option maxHeartbeats 25600000 in
theorem slog_any {w:World} (l:List Op7) (v:Value) (m:Nat) (hl:l.length=m∧∀x∈l,x.ok w) (hm:m≤9223372036854775807) (hr:Reads 7 w v m (o7cells l)):
  Calls Tryz.prog 6 #[v] w fun e w'=>e=.returned (.bool true)∧Below w.heap.size w w':=by
 have HO:=Lib.hid (lopen_any w w (Below.refl _ _) 512 16 (by decide) (by decide) (by decide) (by decide))
 have HR:=Lib.hid hr
 have HL:=Lib.hid hl.1
 have HI:=Lib.hid hl.2
 obtain⟨ao,cap,rfl⟩:=hr.shape
 clear hr hl
 go_enter Tryz.func6,Tryz.ntmps6
 go_wp2_with fail
 refine HO.out.mono ?_
 rintro e y1 ⟨A,S,rfl,hnf,hsv,hsd,hS,hbl⟩
 have hst:Sto w A (Cf.of 512) 0 0 (St.new 512 16) (fun _=>nz 504) S y1:=⟨hsv,new_fine 512 16 (by decide),by rw[hnf];exact hsd,Cf.of_ok 512 (by decide)⟩
 have hat:SLA w A 0 (St.new 512 16) S (fun _=>nz 504) (.slice none 0 0) 0 y1:=
  ⟨hst,⟨Lk.nil,fun x hx=>(by cases hx),fun y hy=>(by cases hy),List.nodup_nil,fun x hx=>(by cases hx)⟩,fun x hx=>(by cases hx),rfl,World.ownsRow_nil _ _ _ _,Nat.zero_le _,fun q e=>(by cases e)⟩
 have HAT:=Lib.hid hat
 clear hnf hsv hsd hS hbl hst hat HO
 go_wp2_with fail
 go_loopw [5,6,7,8,9,10,11,92,110] (fun z5 z6 z7 z8 z9 z10 z11 z92 z110 wr=>∃(i n:Nat)(σ:St)(S:Nat→Prop)(W:Nat→List UInt8),i≤m∧i≤40∧z6=.int .i64 (i:Nat)∧SLA w A i σ S W z5 n wr) (fun _ z6 _ _ _ _ _ _ _ _=>40-(intOf z6).toNat)
 case atStart=>exact⟨0,0,_,S,_,Nat.zero_le _,Nat.zero_le _,rfl,HAT.out⟩
 case round=>
  obtain⟨i,n,σ,S,W,him,hi40,rfl,hat⟩:=hrel
  have HA:=Lib.hid hat
  clear hat HAT
  by_cases h1:i<m∧i<40
  ·have b1:decide ((i:Int)<(m:Int))=true:=by simpa using h1.1
   have b1n:decide (i<m)=true:=by simpa using h1.1
   have b2:decide ((i:Int)<40)=true:=by simp;omega
   have b2n:decide (i<40)=true:=by simpa using h1.2
   obtain⟨o7,ho7⟩:∃x,l[i]? = some x:=⟨_,List.getElem?_eq_getElem (by rw[HL.out];exact h1.1)⟩
   have HOK:=Lib.hid (HI.out o7 (List.mem_of_getElem? ho7))
   obtain⟨bb,oo,cc,hv2,hbb,hcl⟩:=Op7.at (HR.out.below HA.out.st.bel (Nat.le_refl _)) i h1.1 o7 ho7
   injection hv2 with e1 e2 e3
   subst e1 e3
   have k0:=hcl 0 _ rfl
   have k1:=hcl 1 _ rfl
   have k2:=hcl 2 _ rfl
   have k3:=hcl 3 _ rfl
   have k4:=hcl 4 _ rfl
   have k5:=hcl 5 _ rfl
   have k6:=hcl 6 _ rfl
   simp only[Nat.add_zero]at k0
   obtain⟨dao,dcp,hvd,_⟩:=HOK.out.rd
   rw[hvd]at k6
   have HVD:=Lib.hid hvd
   obtain⟨nd,hnd⟩:∃q,o7.bs.length=q:=⟨_,rfl⟩
   have HND:=Lib.hid hnd
   rw[hnd]at k6
   obtain⟨oa,cq,e5⟩:=own_shape HA.out.row
   subst e5
   clear hcl ho7 hvd e2 hnd
   have hbx:=Box.new wr #[.int .i64 o7.kind,.int .i64 o7.t,.int .i64 o7.p,.int .i64 o7.off,.int .i64 o7.n,.int .i64 o7.a,.slice dao nd dcp] 50 rfl
   have hal:=(Below.refl wr.heap.size wr).alloc (Nat.le_refl _) (.cells #[.int .i64 o7.kind,.int .i64 o7.t,.int .i64 o7.p,.int .i64 o7.off,.int .i64 o7.n,.int .i64 o7.a,.slice dao nd dcp] 50)
   obtain⟨gp,hgp⟩:∃x,wr.heap.size=x:=⟨_,rfl⟩
   have HGP:=Lib.hid hgp
   have HBX:=Lib.hid hbx
   have HSA:=Lib.hid (HA.out.below hal)
   go_upto_region 9 with (fail)
   rw[hgp]at HBX
   clear k0 k1 k2 k3 k4 k5 k6 hbx hal hgp hbb HA
   generalize wr.alloc _=ws at *
   have HB7:Hid (Box ws gp [.int .i64 o7.kind,.int .i64 o7.t,.int .i64 o7.p,.int .i64 o7.off,.int .i64 o7.n,.int .i64 o7.a,.slice dao nd dcp]):=HBX
   have k0:=HB7.out.cell 0 _ rfl
   have k1:=HB7.out.cell 1 _ rfl
   have k2:=HB7.out.cell 2 _ rfl
   have k3:=HB7.out.cell 3 _ rfl
   have k6:=HB7.out.cell 6 _ rfl
   have kgp:=HB7.out.lt
   have hn3:=HSA.out.n3
   obtain⟨bg,hbg⟩:∃x,decide (n=0∨(o7.kind=0∧n<3))=x:=⟨_,rfl⟩
   have HBG:=Lib.hid hbg
   clear hbg HBX
   go_cut [44] (fun z wx=>z=.bool bg∧wx=ws)
   case first=>
    by_cases hn0:n=0
    ·subst hn0
     obtain rfl:bg=true:=by rw[←HBG.out];simp
     go_wp2
     go_meet
     exact⟨rfl,rfl⟩
    ·have d1:decide ((n:Int)=0)=false:=by simpa using hn0
     have d1b:((n:Int)==0)=false:=by simpa using hn0
     by_cases hk0:o7.kind=0
     ·have d2:decide (o7.kind=0)=true:=by simpa using hk0
      have d2b:(o7.kind==0)=true:=by simpa using hk0
      have d3:bg=decide (n<3):=by rw[←HBG.out];simp[hn0,hk0]
      have d4:decide ((n:Int)<3)=decide (n<3):=by by_cases h:n<3<;>simp[h]<;>omega
      have D3:=Lib.hid d3
      clear d3
      go_wp2
      go_meet
      exact⟨by rw[D3.out],rfl⟩
     ·have d2:decide (o7.kind=0)=false:=by simpa using hk0
      have d2b:(o7.kind==0)=false:=by simpa using hk0
      obtain rfl:bg=false:=by rw[←HBG.out];simp[hn0,hk0]
      go_wp2
      go_meet
      exact⟨rfl,rfl⟩
   case rest=>
    obtain⟨rfl,hw⟩:=hcut
    obtain rfl:=hw.symm
    clear hw
    cases bg with
    | true=>
     have hn2:n<3:=by have h:=of_decide_eq_true HBG.out;omega
     have HBE:=Lib.hid (begin_sl HSA.out.st HSA.out.lk HSA.out.up (by omega) (b512l (by omega)))
     clear k0 k1 k2 k3 k6 kgp
     go_wp2_with fail
     refine HBE.out.mono ?_
     rintro e y2 ⟨σ2,S2,t2,rfl,h1,h2,h3,h4,h5⟩
     have hor:=own_growx HSA.out.row h2.grow (fun q e=>HSA.out.sep q e)
     have hsp:∀q,(Value.slice oa n cq).ownBlock=some q→¬S2 q∧q<y2.heap.size:=fun q e=>⟨fun hs=>(h2.new q hs).elim (HSA.out.sep q e) (fun h=>by have:=(HSA.out.row.lt q e).2;omega),(hor.lt q e).2⟩
     have HOR:=Lib.hid hor
     have HSP:=Lib.hid hsp
     have HR2:=Lib.hid (And.intro h1 (And.intro h3 (And.intro h4 h5)))
     have hws:w.heap.size≤y2.heap.size:=h1.bel.size
     clear hor hsp h1 h2 h3 h4 h5 HBE
     go_wp2_with (at_builtin;refine wpList_append_any intsOfL (.tmp 52) (.tmp 54) rfl rfl rfl (HOR.out.alloc _) rfl (Reads.lit (l:=[t2].map nI) rfl rfl (Nat.le_refl _) rfl) (nI_one _) (by omega) (by omega) (by simp;omega) ?_;intro ob9 cq9 wq9 ho9 hg9 hn9;have HO9:Hid (wq9.ownsRow w.heap.size 3 1 (.slice ob9 (n+1) cq9) (n+1) ((ids σ).map nI++[t2].map nI)):=Lib.hid ho9;have HG9:=Lib.hid hg9;have HN9:=Lib.hid hn9;clear ho9 hg9 hn9)
     go_roundw
     ·refine⟨i+1,n+1,σ2,S2,W,by omega,by omega,by go_num,?_⟩
      have hst:=HR2.out.1.app (.cells #[.int .i64 (t2:Nat)] 3) HG9.out (fun q e=>⟨(HSP.out q e).1,(HOR.out.lt q e).1⟩)
      refine⟨hst.le (by omega) (by omega) (b512l (by omega)),HR2.out.2.1,fun x hx=>Nat.le_succ_of_le (HR2.out.2.2.2 x hx),by rw[HR2.out.2.2.1,List.length_append,HSA.out.len];rfl,?_,by omega,fun q e hs=>?_⟩
      ·rw[HR2.out.2.2.1,List.map_append];exact HO9.out
      ·rcases HN9.out q e with h|h
       ·exact(HSP.out q h).1 hs
       ·have:=(HR2.out.1.lt q hs).2
        simp at h
        omega
     ·simp[intOf];omega
    | false=>
     have hnp:0<n:=by have h:=of_decide_eq_false HBG.out;omega
     obtain⟨kk,hkk,hkz⟩:=modk o7.t n hnp
     obtain⟨rr,hrr⟩:∃x,Int.tmod o7.t (n:Int)=x:=⟨_,rfl⟩
     obtain⟨hr1,hr2⟩:=modr o7.t n hnp
     rw[hrr]at hkz hr1 hr2
     have hnz:¬(n:Int)=0:=by omega
     have hnzb:((n:Int)==0)=false:=by simpa using hnz
     obtain⟨ga,cqa,e5,_,hca⟩:=own_slice HSA.out.row hnp
     injection e5 with e6 e7 e8
     subst e6 e8
     obtain⟨t,ht⟩:∃t,(ids σ)[kk]? = some t:=⟨_,List.getElem?_eq_getElem (by rw[HSA.out.len];exact hkk)⟩
     have hck:ws.cell? ⟨ga,kk,none⟩=some (.int .i64 (t:Nat)):=own_at HSA.out.row kk (nI t) (by rw[List.getElem?_map,ht];rfl)
     have hga:=(HSA.out.row.lt ga rfl).2
     have HT:=Lib.hid ht
     clear e7 ht HBG
     by_cases hk3:o7.kind=3
     ·have d1:decide (o7.kind=3)=true:=by simpa using hk3
      have d1b:(o7.kind==3)=true:=by simpa using hk3
      obtain⟨x,hxo,rfl⟩:=ids_at HT.out
      have HCM:=Lib.hid (commit_sl HSA.out.st HSA.out.lk (by omega) hxo (b512l (by omega)))
      go_wp2_with fail
      refine HCM.out.mono ?_
      rintro e y2 ⟨σ2,S2,rfl,h1,h2,h3,h4⟩
      have hcost:Sto w A (Cf.of 512) (130*(i+1)) (312*(i+1)) σ2 W S2 y2:=h1.le (by omega) (by omega) (b512l (by omega))
      have HW2:Hid (∃W2,Sto w A (Cf.of 512) (130*(i+1)) (312*(i+1)) σ2 W2 S2 y2):=Lib.hid ⟨W,hcost⟩
      clear hcost h1
      have HF2:=Lib.hid h2
      have HR2:=Lib.hid (And.intro h3 h4)
      have HROW:=Lib.hid (own_growx HSA.out.row h2.grow (fun q e=>HSA.out.sep q e))
      have HLEN:=Lib.hid HSA.out.len
      clear k0 k1 k2 k3 k6 kgp hck h2 h3 h4 HCM d1 d1b
      go_upto_region 22 with (fail)
      obtain⟨HS,hHS⟩:∃x,y2.heap.size=x:=⟨_,rfl⟩
      have HRL:Hid (∀q,(Value.slice (some ⟨ga,0,none⟩) n cq).ownBlock=some q→q<HS):=Lib.hid (fun q e=>by rw[←hHS];exact(HROW.out.lt q e).2)
      have hB:Below y2.heap.size y2 y2:=Below.refl _ _
      refine wp_region_partsDV (WSl22 HS n kk cq ga (ids σ)) 10 bSl22 [some 100,some 101,some 102,some 103,some 104,some 105,some 106,some 107,some 108,some 109,some 5] [[],[],[],[1,2],[0,3],[],[],[6],[5,7],[4,8]] [1,2,3,5,6,7,8,9] [(0,4),(0,9),(4,9)] (by decide) (by kernel_rfl) (by kernel_rfl) rfl (PSl22 HS n kk cq ga (ids σ)) (PSl22_cong HS n kk cq ga (ids σ)) (PSl22_stable HS n kk cq ga (ids σ)) ?pSl22 ?_
      case pSl22=>
       intro i hi o ho vs lo hx_ w' hg hp hdd
       match i,hi with
       | 0,_=>
        obtain rfl:=Option.some.inj ho
        clear ho
        simp only[actsD,Act.put,actL]
        have hsz:=hg.size
        have hw8:HS≤w'.heap.size:=by have:=hg.size;have h8:y2.drew.heap.size=y2.heap.size:=rfl;omega
        have ho:=own_lit (w1:=w') (base:=HS) (g:=w'.heap.size) (T:=3) (n:=0) (arr:=#[]) (l:=([]:List Nat).map nI) rfl hw8 rfl rfl (by omega)
        go_wp2
        exact⟨_,rfl,GrowC.of_grow ((Grow.refl _).alloc _),rfl,ho⟩
       | 1,_|2,_|5,_|6,_=>
        obtain rfl:=Option.some.inj ho
        clear ho
        simp only[actsD,Act.put,actL]
        have hsz:=hg.size
        go_wp2
        exact⟨_,rfl,GrowC.refl _,rfl⟩
       | 3,_=>
        obtain rfl:=Option.some.inj ho
        clear ho
        simp only[actsD,Act.put,actL]
        obtain⟨_,_,_,h1⟩:=hp 1 (by simp)
        simp only[PSl22]at h1
        obtain⟨_,_,_,h2⟩:=hp 2 (by simp)
        simp only[PSl22]at h2
        have hsz:=hg.size
        rw[h1,h2]
        go_wp2
        exact⟨_,rfl,GrowC.refl _,rfl⟩
       | 4,_=>
        obtain rfl:=Option.some.inj ho
        clear ho
        simp only[actsD,Act.put,actL]
        obtain⟨_,_,_,h0⟩:=hp 0 (by simp)
        simp only[PSl22]at h0
        obtain⟨_,_,_,h3⟩:=hp 3 (by simp)
        simp only[PSl22]at h3
        have hsz:=hg.size
        rw[h3]
        obtain⟨e0,ho0⟩:=h0
        rw[e0]at ho0⊢
        have HO0:=Lib.hid ho0
        have hw8:HS≤w'.heap.size:=by have:=hg.size;have h8:y2.drew.heap.size=y2.heap.size:=rfl;omega
        have hrd:=(Reads.of_own (own_growx (X:=fun q=>HS≤q) HROW.out (GrowX.of_growC hg (fun k o hw=>by obtain⟨j,_,_,_,hw⟩:=hw;simp only[WSl22]at hw;omega)) (fun q e=>by have h1:=HRL.out q e;omega))).cutA 0 kk (Nat.zero_le _) (by omega)
        have HRD:Hid (Reads 1 w' (.slice (some ⟨ga,0,none⟩) kk cq) kk (((ids σ).take kk).map nI)):=Lib.hid (by unfold cutA at hrd;simpa[List.map_take,Addr.add]using hrd)
        clear hrd ho0
        go_wp2_with (at_builtin;refine wpList_append_anyC intsOfL (.tmp 100) (.tmp 103) rfl rfl (base:=HS) rfl HO0.out rfl HRD.out (nI_one _) (by omega) (by omega) hw8 ?_;intro ob cp wq ho2 hg2 hn2)
        rw[Nat.zero_add]at ho2
        exact⟨_,rfl,hg2.mono (fun b o e=>show(4=4∨4=9)∧HS≤b from⟨.inl rfl,(HO0.out.lt b e).1⟩),ob,cp,rfl,ho2⟩
       | 7,_=>
        obtain rfl:=Option.some.inj ho
        clear ho
        simp only[actsD,Act.put,actL]
        obtain⟨_,_,_,h6⟩:=hp 6 (by simp)
        simp only[PSl22]at h6
        have hsz:=hg.size
        rw[h6]
        go_wp2
        refine⟨_,rfl,GrowC.refl _,?_⟩
        simp only[PSl22]
        first|omega|(congr 1<;>omega)|skip
       | 8,_=>
        obtain rfl:=Option.some.inj ho
        clear ho
        simp only[actsD,Act.put,actL]
        obtain⟨_,_,_,h5⟩:=hp 5 (by simp)
        simp only[PSl22]at h5
        obtain⟨_,_,_,h7⟩:=hp 7 (by simp)
        simp only[PSl22]at h7
        have hsz:=hg.size
        rw[h5,h7]
        refine wpList_cut_lo intsOfL (.tmp 105) (.tmp 107) rfl rfl rfl rfl (by omega) ?_
        go_wp2
        exact⟨_,rfl,GrowC.refl _,rfl⟩
       | 9,_=>
        obtain rfl:=Option.some.inj ho
        clear ho
        simp only[actsD,Act.put,actL]
        obtain⟨_,_,_,h4⟩:=hp 4 (by simp)
        simp only[PSl22]at h4
        obtain⟨_,_,_,h8⟩:=hp 8 (by simp)
        simp only[PSl22]at h8
        have hsz:=hg.size
        rw[h8]
        obtain⟨a4,c4,e4,ho4⟩:=h4
        rw[e4]at ho4⊢
        have HO4:=Lib.hid ho4
        have hw8:HS≤w'.heap.size:=by have:=hg.size;have h8:y2.drew.heap.size=y2.heap.size:=rfl;omega
        have hrd:=(Reads.of_own (own_growx (X:=fun q=>HS≤q) HROW.out (GrowX.of_growC hg (fun k o hw=>by obtain⟨j,_,_,_,hw⟩:=hw;simp only[WSl22]at hw;omega)) (fun q e=>by have h1:=HRL.out q e;omega))).cutA (kk+1) n (by omega) (Nat.le_refl _)
        have HRD:Hid (Reads 1 w' (.slice (cutA (some ⟨ga,0,none⟩) (kk+1) cq 1) (n-(kk+1)) (cq-(kk+1))) (n-(kk+1)) (((ids σ).drop (kk+1)).map nI)):=Lib.hid (by rw[Nat.mul_one,Nat.mul_one,←List.map_drop,←List.map_take,List.take_of_length_le (Nat.le_of_eq (by rw[List.length_drop,HLEN.out]))]at hrd;exact hrd)
        clear hrd ho4
        go_wp2_with (at_builtin;refine wpList_append_anyC intsOfL (.tmp 104) (.tmp 108) rfl rfl (base:=HS) rfl HO4.out rfl HRD.out (nI_one _) (by omega) (by omega) hw8 ?_;intro ob cp wq ho2 hg2 hn2)
        exact⟨_,rfl,hg2.mono (fun b o e=>show(9=4∨9=9)∧HS≤b from⟨.inr rfl,(HO4.out.lt b e).1⟩),ob,cp,rfl,by rw[List.map_append];exact ho2⟩
       | (q+10),hq=>exact absurd hq (by omega)
      intro vS lo hi z2 hg hp hd
      obtain⟨_,_,_,h1⟩:=hp 1 (by decide)
      replace h1:=h1 (by decide)
      obtain⟨_,_,_,h2⟩:=hp 2 (by decide)
      replace h2:=h2 (by decide)
      obtain⟨_,_,_,h3⟩:=hp 3 (by decide)
      replace h3:=h3 (by decide)
      obtain⟨_,_,_,h5⟩:=hp 5 (by decide)
      replace h5:=h5 (by decide)
      obtain⟨_,_,_,h6⟩:=hp 6 (by decide)
      replace h6:=h6 (by decide)
      obtain⟨_,_,_,h7⟩:=hp 7 (by decide)
      replace h7:=h7 (by decide)
      obtain⟨_,_,_,h8⟩:=hp 8 (by decide)
      replace h8:=h8 (by decide)
      obtain⟨_,_,_,h9⟩:=hp 9 (by decide)
      replace h9:=h9 (by decide)
      simp only[PSl22]at h1 h2 h3 h5 h6 h7 h8 h9
      clear hp hd
      have hsz:=hg.size
      replace hB:=hB.trans (hg.below (fun k hk=>⟨by omega,fun o=>by rintro⟨j,_,hw⟩;simp only[WSl22]at hw;omega⟩))
      have hr:List.range 10=[0,1,2,3,4,5,6,7,8,9]:=rfl
      rw[hr]
      clear hr
      simp only[List.drop_succ_cons,List.drop_zero,List.drop_nil,actsD,Act.put,actL,h1,h2,h3,h5,h6,h7,h8]
      clear h1 h2 h3 h5 h6 h7 h8
      have H9:=Lib.hid h9
      have HB9:=Lib.hid hB
      have HHS:=Lib.hid hHS
      clear h9 hB hg hsz hHS
      obtain⟨a9,c9,e9,ho9⟩:=H9.out
      simp only[e9]
      rw[e9]at ho9
      have HO9:=Lib.hid ho9
      clear ho9
      go_wp2_with fail
      go_roundw
      ·obtain⟨W2,hst⟩:=HW2.out
       have hid2:(ids σ2)=(ids σ).take kk++(ids σ).drop (kk+1):=by rw[ids_erase HR2.out.1,List.eraseIdx_eq_take_drop_succ]
       refine⟨i+1,kk+(n-(kk+1)),σ2,S2,W2,by omega,by omega,by go_num,⟨hst.below HB9.out,HR2.out.2,fun x hx=>Nat.le_succ_of_le ((HSA.out.up.erase HR2.out.1) x hx),?_,?_,by omega,fun q e hs=>?_⟩⟩
       ·rw[hid2,List.length_append,List.length_take,List.length_drop,HLEN.out];omega
       ·rw[hid2]
        exact own_base HO9.out (by have h1:=hst.bel.size;have h2:=HHS.out;omega)
       ·have h1:=(HO9.out.lt q e).1
        have h2:=(hst.lt q hs).2
        have h3:=HHS.out
        omega
      ·simp[intOf];omega
     ·have d1:decide (o7.kind=3)=false:=by simpa using hk3
      have d1b:(o7.kind==3)=false:=by simpa using hk3
      by_cases hk4:o7.kind=4
      ·have d2:decide (o7.kind=4)=true:=by simpa using hk4
       have d2b:(o7.kind==4)=true:=by simpa using hk4
       obtain⟨x,hxo,rfl⟩:=ids_at HT.out
       have hxl:=HSA.out.up x (List.mem_of_getElem? hxo)
       have HCM:=Lib.hid (rollback_sl HSA.out.st HSA.out.lk (by omega) hxo (b512l (by omega)))
       go_wp2_with fail
       refine HCM.out.mono ?_
       rintro e y2 ⟨σ2,S2,W2,rfl,h1,h2,h3,h4⟩
       have hcost:Sto w A (Cf.of 512) (130*(i+1)) (312*(i+1)) σ2 W2 S2 y2:=h1.le (by omega) (by omega) (b512l (by omega))
       have HW2:Hid (∃W2,Sto w A (Cf.of 512) (130*(i+1)) (312*(i+1)) σ2 W2 S2 y2):=Lib.hid ⟨W2,hcost⟩
       clear hcost h1 hxl
       have HF2:=Lib.hid h2
       have HR2:=Lib.hid (And.intro h3 h4)
       have HROW:=Lib.hid (own_growx HSA.out.row h2.grow (fun q e=>HSA.out.sep q e))
       have HLEN:=Lib.hid HSA.out.len
       clear k0 k1 k2 k3 k6 kgp hck h2 h3 h4 HCM d1 d1b
       go_upto_region 25 with (fail)
       obtain⟨HS,hHS⟩:∃x,y2.heap.size=x:=⟨_,rfl⟩
       have HRL:Hid (∀q,(Value.slice (some ⟨ga,0,none⟩) n cq).ownBlock=some q→q<HS):=Lib.hid (fun q e=>by rw[←hHS];exact(HROW.out.lt q e).2)
       have hB:Below y2.heap.size y2 y2:=Below.refl _ _
       refine wp_region_partsDV (WSl25 HS n kk cq ga (ids σ)) 10 [[],[],[],[1,2],[0,1,2,3],[],[],[6],[5,6,7],[0,1,2,3,4,5,6,7,8]] [some 118,some 119,some 120,some 121,some 122,some 123,some 124,some 125,some 126,some 127,some 5] [[],[],[],[1,2],[0,3],[],[],[6],[5,7],[4,8]] [1,2,3,5,6,7,8,9] [(0,4),(0,9),(4,9)] (by decide) (by kernel_rfl) (by kernel_rfl) rfl (PSl25 HS n kk cq ga (ids σ)) (PSl25_cong HS n kk cq ga (ids σ)) (PSl25_stable HS n kk cq ga (ids σ)) ?pSl25 ?_
       case pSl25=>
        intro i hi o ho vs lo hx_ w' hg hp hdd
        match i,hi with
        | 0,_=>
         obtain rfl:=Option.some.inj ho
         clear ho
         simp only[actsD,Act.put,actL]
         have hsz:=hg.size
         have hw8:HS≤w'.heap.size:=by have:=hg.size;have h8:y2.drew.heap.size=y2.heap.size:=rfl;omega
         have ho:=own_lit (w1:=w') (base:=HS) (g:=w'.heap.size) (T:=3) (n:=0) (arr:=#[]) (l:=([]:List Nat).map nI) rfl hw8 rfl rfl (by omega)
         go_wp2
         exact⟨_,rfl,GrowC.of_grow ((Grow.refl _).alloc _),rfl,ho⟩
        | 1,_|2,_|5,_|6,_=>
         obtain rfl:=Option.some.inj ho
         clear ho
         simp only[actsD,Act.put,actL]
         have hsz:=hg.size
         go_wp2
         exact⟨_,rfl,GrowC.refl _,rfl⟩
        | 3,_=>
         obtain rfl:=Option.some.inj ho
         clear ho
         simp only[actsD,Act.put,actL]
         obtain⟨_,_,_,h1⟩:=hp 1 (by simp)
         simp only[PSl25]at h1
         obtain⟨_,_,_,h2⟩:=hp 2 (by simp)
         simp only[PSl25]at h2
         have hsz:=hg.size
         rw[h1,h2]
         go_wp2
         exact⟨_,rfl,GrowC.refl _,rfl⟩
        | 4,_=>
         obtain rfl:=Option.some.inj ho
         clear ho
         simp only[actsD,Act.put,actL]
         obtain⟨_,_,_,h0⟩:=hp 0 (by simp)
         simp only[PSl25]at h0
         obtain⟨_,_,_,h3⟩:=hp 3 (by simp)
         simp only[PSl25]at h3
         have hsz:=hg.size
         rw[h3]
         obtain⟨e0,ho0⟩:=h0
         rw[e0]at ho0⊢
         have HO0:=Lib.hid ho0
         have hw8:HS≤w'.heap.size:=by have:=hg.size;have h8:y2.drew.heap.size=y2.heap.size:=rfl;omega
         have hrd:=(Reads.of_own (own_growx (X:=fun q=>HS≤q) HROW.out (GrowX.of_growC hg (fun k o hw=>by obtain⟨j,_,_,_,hw⟩:=hw;simp only[WSl25]at hw;omega)) (fun q e=>by have h1:=HRL.out q e;omega))).cutA 0 kk (Nat.zero_le _) (by omega)
         have HRD:Hid (Reads 1 w' (.slice (some ⟨ga,0,none⟩) kk cq) kk (((ids σ).take kk).map nI)):=Lib.hid (by unfold cutA at hrd;simpa[List.map_take,Addr.add]using hrd)
         clear hrd ho0
         go_wp2_with (at_builtin;refine wpList_append_anyC intsOfL (.tmp 118) (.tmp 121) rfl rfl (base:=HS) rfl HO0.out rfl HRD.out (nI_one _) (by omega) (by omega) hw8 ?_;intro ob cp wq ho2 hg2 hn2)
         rw[Nat.zero_add]at ho2
         exact⟨_,rfl,hg2.mono (fun b o e=>show(4=4∨4=9)∧HS≤b from⟨.inl rfl,(HO0.out.lt b e).1⟩),ob,cp,rfl,ho2⟩
        | 7,_=>
         obtain rfl:=Option.some.inj ho
         clear ho
         simp only[actsD,Act.put,actL]
         obtain⟨_,_,_,h6⟩:=hp 6 (by simp)
         simp only[PSl25]at h6
         have hsz:=hg.size
         rw[h6]
         go_wp2
         refine⟨_,rfl,GrowC.refl _,?_⟩
         simp only[PSl25]
         first|omega|(congr 1<;>omega)|skip
        | 8,_=>
         obtain rfl:=Option.some.inj ho
         clear ho
         simp only[actsD,Act.put,actL]
         obtain⟨_,_,_,h5⟩:=hp 5 (by simp)
         simp only[PSl25]at h5
         obtain⟨_,_,_,h7⟩:=hp 7 (by simp)
         simp only[PSl25]at h7
         have hsz:=hg.size
         rw[h5,h7]
         refine wpList_cut_lo intsOfL (.tmp 123) (.tmp 125) rfl rfl rfl rfl (by omega) ?_
         go_wp2
         exact⟨_,rfl,GrowC.refl _,rfl⟩
        | 9,_=>
         obtain rfl:=Option.some.inj ho
         clear ho
         simp only[actsD,Act.put,actL]
         obtain⟨_,_,_,h4⟩:=hp 4 (by simp)
         simp only[PSl25]at h4
         obtain⟨_,_,_,h8⟩:=hp 8 (by simp)
         simp only[PSl25]at h8
         have hsz:=hg.size
         rw[h8]
         obtain⟨a4,c4,e4,ho4⟩:=h4
         rw[e4]at ho4⊢
         have HO4:=Lib.hid ho4
         have hw8:HS≤w'.heap.size:=by have:=hg.size;have h8:y2.drew.heap.size=y2.heap.size:=rfl;omega
         have hrd:=(Reads.of_own (own_growx (X:=fun q=>HS≤q) HROW.out (GrowX.of_growC hg (fun k o hw=>by obtain⟨j,_,_,_,hw⟩:=hw;simp only[WSl25]at hw;omega)) (fun q e=>by have h1:=HRL.out q e;omega))).cutA (kk+1) n (by omega) (Nat.le_refl _)
         have HRD:Hid (Reads 1 w' (.slice (cutA (some ⟨ga,0,none⟩) (kk+1) cq 1) (n-(kk+1)) (cq-(kk+1))) (n-(kk+1)) (((ids σ).drop (kk+1)).map nI)):=Lib.hid (by rw[Nat.mul_one,Nat.mul_one,←List.map_drop,←List.map_take,List.take_of_length_le (Nat.le_of_eq (by rw[List.length_drop,HLEN.out]))]at hrd;exact hrd)
         clear hrd ho4
         go_wp2_with (at_builtin;refine wpList_append_anyC intsOfL (.tmp 122) (.tmp 126) rfl rfl (base:=HS) rfl HO4.out rfl HRD.out (nI_one _) (by omega) (by omega) hw8 ?_;intro ob cp wq ho2 hg2 hn2)
         exact⟨_,rfl,hg2.mono (fun b o e=>show(9=4∨9=9)∧HS≤b from⟨.inr rfl,(HO4.out.lt b e).1⟩),ob,cp,rfl,by rw[List.map_append];exact ho2⟩
        | (q+10),hq=>exact absurd hq (by omega)
       intro vS lo hi z2 hg hp hd
       obtain⟨_,_,_,h1⟩:=hp 1 (by decide)
       replace h1:=h1 (by decide)
       obtain⟨_,_,_,h2⟩:=hp 2 (by decide)
       replace h2:=h2 (by decide)
       obtain⟨_,_,_,h3⟩:=hp 3 (by decide)
       replace h3:=h3 (by decide)
       obtain⟨_,_,_,h5⟩:=hp 5 (by decide)
       replace h5:=h5 (by decide)
       obtain⟨_,_,_,h6⟩:=hp 6 (by decide)
       replace h6:=h6 (by decide)
       obtain⟨_,_,_,h7⟩:=hp 7 (by decide)
       replace h7:=h7 (by decide)
       obtain⟨_,_,_,h8⟩:=hp 8 (by decide)
       replace h8:=h8 (by decide)
       obtain⟨_,_,_,h9⟩:=hp 9 (by decide)
       replace h9:=h9 (by decide)
       simp only[PSl25]at h1 h2 h3 h5 h6 h7 h8 h9
       clear hp hd
       have hsz:=hg.size
       replace hB:=hB.trans (hg.below (fun k hk=>⟨by omega,fun o=>by rintro⟨j,_,hw⟩;simp only[WSl25]at hw;omega⟩))
       have hr:List.range 10=[0,1,2,3,4,5,6,7,8,9]:=rfl
       rw[hr]
       clear hr
       simp only[List.drop_succ_cons,List.drop_zero,List.drop_nil,actsD,Act.put,actL,h1,h2,h3,h5,h6,h7,h8]
       clear h1 h2 h3 h5 h6 h7 h8
       have H9:=Lib.hid h9
       have HB9:=Lib.hid hB
       have HHS:=Lib.hid hHS
       clear h9 hB hg hsz hHS
       obtain⟨a9,c9,e9,ho9⟩:=H9.out
       simp only[e9]
       rw[e9]at ho9
       have HO9:=Lib.hid ho9
       clear ho9
       go_wp2_with fail
       go_roundw
       ·obtain⟨W2,hst⟩:=HW2.out
        have hid2:(ids σ2)=(ids σ).take kk++(ids σ).drop (kk+1):=by rw[ids_erase HR2.out.1,List.eraseIdx_eq_take_drop_succ]
        refine⟨i+1,kk+(n-(kk+1)),σ2,S2,W2,by omega,by omega,by go_num,⟨hst.below HB9.out,HR2.out.2,fun x hx=>Nat.le_succ_of_le ((HSA.out.up.erase HR2.out.1) x hx),?_,?_,by omega,fun q e hs=>?_⟩⟩
        ·rw[hid2,List.length_append,List.length_take,List.length_drop,HLEN.out];omega
        ·rw[hid2]
         exact own_base HO9.out (by have h1:=hst.bel.size;have h2:=HHS.out;omega)
        ·have h1:=(HO9.out.lt q e).1
         have h2:=(hst.lt q hs).2
         have h3:=HHS.out
         omega
       ·simp[intOf];omega
      ·have d2:decide (o7.kind=4)=false:=by simpa using hk4
       have d2b:(o7.kind==4)=false:=by simpa using hk4
       have hndc:nd≤dcp:=by
        obtain⟨_,_,e1,_,e3,_⟩:=HOK.out.rd
        rw[HVD.out]at e1
        injection e1 with _ _ e4
        have:=HND.out
        omega
       obtain⟨nx,hnx⟩:∃x,min nd 40=x:=⟨_,rfl⟩
       have HNX:=Lib.hid hnx
       clear hnx
       go_upto_if 73 with (fail)
       go_cut [11] (fun z wx=>z=.slice dao nx dcp∧wx=ws)
       case first=>
        by_cases h40:40<nd
        ·have b6:decide ((nd:Int)>40)=true:=by simp;omega
         have b6n:decide (40<nd)=true:=by simpa using h40
         have hdc40:40≤dcp:=by omega
         have hdc0:¬dcp=0:=by omega
         obtain rfl:nx=40:=by rw[←HNX.out];omega
         go_wp2
         go_meet
         exact⟨rfl,rfl⟩
        ·have b6:decide ((nd:Int)>40)=false:=by simp;omega
         have b6n:decide (40<nd)=false:=by simpa using h40
         obtain rfl:nx=nd:=by rw[←HNX.out];omega
         go_wp2
         go_meet
         exact⟨rfl,rfl⟩
       case rest=>
        obtain⟨rfl,hw⟩:=hcut
        obtain rfl:=hw.symm
        clear hw
        obtain⟨pp,hpp3,hpp⟩:=andk o7.p 3 (by decide)
        obtain⟨of,hof31,hof⟩:=andk o7.off 31 (by decide)
        have hbl:(o7.bs.take nx).length=nx:=by rw[List.length_take,HND.out];have:=HNX.out;omega
        have hrx:Reads 1 w (.slice dao nx dcp) nx ((o7.bs.take nx).map B):=by
         have h5:=HOK.out.rd
         rw[HVD.out,HND.out]at h5
         exact Reads.cut40 h5 (by have:=HNX.out;omega)
        have hnx40:nx≤40:=by have:=HNX.out;omega
        have hwr:=write_sl HSA.out.st HSA.out.lk HSA.out.up (by omega) HT.out pp (100*kk+of) (o7.bs.take nx) (.slice dao nx dcp) (by rw[hbl];exact hrx) (by rw[cf512l];show pp<94;omega) (by rw[hbl];omega) (b512l (by rw[hbl];omega))
        rw[hbl]at hwr
        have HW:=Lib.hid (fun(wx:World) (hb:Below ws.heap.size ws wx)=>write_sl (HSA.out.st.below hb) HSA.out.lk HSA.out.up (by omega) HT.out pp (100*kk+of) (o7.bs.take nx) (.slice dao nx dcp) (by rw[hbl];exact hrx) (by rw[cf512l];show pp<94;omega) (by rw[hbl];omega) (b512l (by rw[hbl];omega)))
        clear hwr hrx
        have HBLN:=Lib.hid hbl
        clear hbl
        go_upto_region 19 with (fail)
        have hB:Below ws.heap.size ws ws:=Below.refl _ _
        refine wp_region_partsDC (WSl19 A ga gp n kk cq t pp of nx dcp dao o7.p o7.off) 15 [[],[],[],[1,2],[1,2,3],[],[5],[5,6],[],[8],[],[10],[10,11],[8,9,10,11,12],[]] [some 76,some 77,some 78,some 79,some 80,some 81,some 82,some 83,some 84,some 85,some 86,some 87,some 88,some 89,some 90,some 91] (by kernel_rfl) (by kernel_rfl) rfl (PSl19 A ga gp n kk cq t pp of nx dcp dao o7.p o7.off) (PSl19_stable A ga gp n kk cq t pp of nx dcp dao o7.p o7.off) ?pSl19 ?_
        case pSl19=>
         intro i hi o ho vs lo hx_ w' hg hp
         match i,hi with
         | 0,_|1,_|2,_|5,_|8,_|10,_|14,_=>
          obtain rfl:=Option.some.inj ho
          clear ho
          simp only[actsD,Act.put,actL]
          have hsz:=hg.size
          go_wp2
          exact⟨_,rfl,GrowC.refl _,rfl⟩
         | 3,_=>
          obtain rfl:=Option.some.inj ho
          clear ho
          simp only[actsD,Act.put,actL]
          obtain⟨_,_,_,h1⟩:=hp 1 (by simp)
          simp only[PSl19]at h1
          obtain⟨_,_,_,h2⟩:=hp 2 (by simp)
          simp only[PSl19]at h2
          have hsz:=hg.size
          rw[h1,h2]
          go_wp2
          exact⟨_,rfl,GrowC.refl _,rfl⟩
         | 4,_=>
          obtain rfl:=Option.some.inj ho
          clear ho
          simp only[actsD,Act.put,actL]
          obtain⟨_,_,_,h3⟩:=hp 3 (by simp)
          simp only[PSl19]at h3
          have hsz:=hg.size
          rw[h3]
          have e0:=(hg.cell _ _ hga (by rintro⟨j,_,hne,hb,hw⟩;exact hw)).trans hck
          go_wp2
          exact⟨_,rfl,GrowC.refl _,rfl⟩
         | 6,_=>
          obtain rfl:=Option.some.inj ho
          clear ho
          simp only[actsD,Act.put,actL]
          obtain⟨_,_,_,h5⟩:=hp 5 (by simp)
          simp only[PSl19]at h5
          have hsz:=hg.size
          rw[h5]
          have e0:=(hg.cell _ _ kgp (by rintro⟨j,_,hne,hb,hw⟩;exact hw)).trans k2
          go_wp2
          exact⟨_,rfl,GrowC.refl _,rfl⟩
         | 7,_=>
          obtain rfl:=Option.some.inj ho
          clear ho
          simp only[actsD,Act.put,actL]
          obtain⟨_,_,_,h6⟩:=hp 6 (by simp)
          simp only[PSl19]at h6
          have hsz:=hg.size
          rw[h6]
          go_wp2
          exact⟨_,rfl,GrowC.refl _,by simp only[PSl19]<;>show Value.int .i64 _=Value.int .i64 _<;>first|rfl|rw[hpp]|(congr 1<;>omega)⟩
         | 9,_=>
          obtain rfl:=Option.some.inj ho
          clear ho
          simp only[actsD,Act.put,actL]
          obtain⟨_,_,_,h8⟩:=hp 8 (by simp)
          simp only[PSl19]at h8
          have hsz:=hg.size
          rw[h8]
          go_wp2
          refine⟨_,rfl,GrowC.refl _,?_⟩
          simp only[PSl19]
          first|omega|(congr 1<;>omega)|skip
         | 11,_=>
          obtain rfl:=Option.some.inj ho
          clear ho
          simp only[actsD,Act.put,actL]
          obtain⟨_,_,_,h10⟩:=hp 10 (by simp)
          simp only[PSl19]at h10
          have hsz:=hg.size
          rw[h10]
          have e0:=(hg.cell _ _ kgp (by rintro⟨j,_,hne,hb,hw⟩;exact hw)).trans k3
          go_wp2
          exact⟨_,rfl,GrowC.refl _,rfl⟩
         | 12,_=>
          obtain rfl:=Option.some.inj ho
          clear ho
          simp only[actsD,Act.put,actL]
          obtain⟨_,_,_,h11⟩:=hp 11 (by simp)
          simp only[PSl19]at h11
          have hsz:=hg.size
          rw[h11]
          go_wp2
          exact⟨_,rfl,GrowC.refl _,by simp only[PSl19]<;>show Value.int .i64 _=Value.int .i64 _<;>first|rfl|rw[hof]|(congr 1<;>omega)⟩
         | 13,_=>
          obtain rfl:=Option.some.inj ho
          clear ho
          simp only[actsD,Act.put,actL]
          obtain⟨_,_,_,h9⟩:=hp 9 (by simp)
          simp only[PSl19]at h9
          obtain⟨_,_,_,h12⟩:=hp 12 (by simp)
          simp only[PSl19]at h12
          have hsz:=hg.size
          rw[h9,h12]
          go_wp2
          refine⟨_,rfl,GrowC.refl _,?_⟩
          simp only[PSl19]
          first|omega|(congr 1<;>omega)|skip
         | (q+15),hq=>exact absurd hq (by omega)
        intro vS lo hi z19 hg hp hd
        obtain⟨_,_,_,h0⟩:=hp 0 (by decide)
        obtain⟨_,_,_,h1⟩:=hp 1 (by decide)
        obtain⟨_,_,_,h2⟩:=hp 2 (by decide)
        obtain⟨_,_,_,h3⟩:=hp 3 (by decide)
        obtain⟨_,_,_,h4⟩:=hp 4 (by decide)
        obtain⟨_,_,_,h5⟩:=hp 5 (by decide)
        obtain⟨_,_,_,h6⟩:=hp 6 (by decide)
        obtain⟨_,_,_,h7⟩:=hp 7 (by decide)
        obtain⟨_,_,_,h8⟩:=hp 8 (by decide)
        obtain⟨_,_,_,h9⟩:=hp 9 (by decide)
        obtain⟨_,_,_,h10⟩:=hp 10 (by decide)
        obtain⟨_,_,_,h11⟩:=hp 11 (by decide)
        obtain⟨_,_,_,h12⟩:=hp 12 (by decide)
        obtain⟨_,_,_,h13⟩:=hp 13 (by decide)
        obtain⟨_,_,_,h14⟩:=hp 14 (by decide)
        simp only[PSl19]at h0 h1 h2 h3 h4 h5 h6 h7 h8 h9 h10 h11 h12 h13 h14
        clear hp hd
        have hsz:=hg.size
        replace hB:=hB.trans (hg.below (fun k hk=>⟨by omega,fun o=>by rintro⟨j,_,hw⟩;exact False.elim hw⟩))
        have hr:List.range 15=[0,1,2,3,4,5,6,7,8,9,10,11,12,13,14]:=rfl
        rw[hr]
        clear hr
        simp only[List.drop_succ_cons,List.drop_zero,List.drop_nil,actsD,Act.put,actL,h0,h1,h2,h3,h4,h5,h6,h7,h8,h9,h10,h11,h12,h13,h14]
        clear h0 h1 h2 h3 h4 h5 h6 h7 h8 h9 h10 h11 h12 h13 h14
        have HZ:=Lib.hid hB
        have HWW:=Lib.hid (HW.out _ HZ.out)
        clear hB HW
        go_wp2_with fail
        refine HWW.out.mono ?_
        rintro e y5 ⟨er,σ5,S5,W5,rfl,h5,h6,h7,h8,h9⟩
        have HR5:=Lib.hid (And.intro h5 (And.intro h7 (And.intro h8 h9)))
        have hfo:=Foot.step_below HZ.out h6
        have HF5:=Lib.hid hfo
        clear h5 h6 h7 h8 h9 hfo HWW
        go_wp2_with fail
        go_roundw
        ·refine⟨i+1,n,σ5,S5,W5,by omega,by omega,by go_num,⟨?_,HR5.out.2.1,HR5.out.2.2.2,by rw[HR5.out.2.2.1];exact HSA.out.len,?_,HSA.out.n3,fun q e hs=>?_⟩⟩
         ·have hx1:=HR5.out.1
          rw[HBLN.out]at hx1
          exact hx1.le (by omega) (by omega) (b512l (by omega))
         ·rw[HR5.out.2.2.1]
          exact own_growx HSA.out.row HF5.out.grow (fun q e=>HSA.out.sep q e)
         ·exact(HF5.out.new q hs).elim (HSA.out.sep q e) (fun h=>by have:=(HSA.out.row.lt q e).2;omega)
        ·simp[intOf];omega
  ·have hfin:∀b1:Bool,True:=fun _=>trivial
   have hlines:σ.lines.length≤1000000:=by
    have h1:=HA.out.st.fine.lines
    have h2:=HA.out.st.fine.cost
    have h3:((Cf.of 512).n-1)*118=14986:=by rw[cf512l];rfl
    have h4:=HA.out.st.fine.top
    omega
   have HLG:=Lib.hid (log_st HA.out.st hlines)
   have HLK:=Lib.hid (fun(v:Value) (EL:List Le) (wx:World) (hr:Reads 12 wx v σ.lines.length (lcells EL)) (hl:LnR wx EL) (hm:EL.map (fun e=>(e.lsn,e.r))=σ.lines)=>linked_any EL v σ.lines.length _ (by rw[←hm,List.length_map]) hlines hr hl (by rw[hm];exact HA.out.lk.lk))
   have HBEL:=Lib.hid HA.out.st.bel
   clear hlines hfin
   by_cases hin:i<m
   ·have hi4:i=40:=by omega
    subst hi4
    have b1:decide (((40:Nat):Int)<(m:Int))=true:=by simp;omega
    have b1n:decide (40<m)=true:=by simpa using hin
    have b2:decide (((40:Nat):Int)<40)=false:=by decide
    go_wp2_with fail
    refine HLG.out.mono ?_
    rintro e y2 ⟨v2,EL,rfl,a1,a2,a3,a4⟩
    have HLL:=Lib.hid (HLK.out v2 EL y2 a1 a2 a3)
    have HB2:=Lib.hid a4
    clear a1 a2 a3 a4 HLG HLK
    go_wp2_with fail
    refine HLL.out.mono ?_
    rintro e y3 ⟨rfl,hb3⟩
    have HB3:=Lib.hid hb3
    clear hb3 HLL
    go_wp2_with fail
    refine(awake7_any _).mono ?_
    rintro e y4 ⟨rfl,hb4⟩
    have HB4:=Lib.hid hb4
    clear hb4
    go_wp2_with fail
    go_ret
    have s1:=HBEL.out.size
    have s2:=HB2.out.size
    have s3:=HB3.out.size
    exact⟨rfl,HBEL.out.trans ((HB2.out.mono s1).trans ((HB3.out.mono (by omega)).trans (HB4.out.mono (by omega))))⟩
   ·obtain rfl:i=m:=by omega
    have b1:decide ((i:Int)<(i:Int))=false:=by simp
    go_wp2_with fail
    refine HLG.out.mono ?_
    rintro e y2 ⟨v2,EL,rfl,a1,a2,a3,a4⟩
    have HLL:=Lib.hid (HLK.out v2 EL y2 a1 a2 a3)
    have HB2:=Lib.hid a4
    clear a1 a2 a3 a4 HLG HLK
    go_wp2_with fail
    refine HLL.out.mono ?_
    rintro e y3 ⟨rfl,hb3⟩
    have HB3:=Lib.hid hb3
    clear hb3 HLL
    go_wp2_with fail
    refine(awake7_any _).mono ?_
    rintro e y4 ⟨rfl,hb4⟩
    have HB4:=Lib.hid hb4
    clear hb4
    go_wp2_with fail
    go_ret
    have s1:=HBEL.out.size
    have s2:=HB2.out.size
    have s3:=HB3.out.size
    exact⟨rfl,HBEL.out.trans ((HB2.out.mono s1).trans ((HB3.out.mono (by omega)).trans (HB4.out.mono (by omega))))⟩
end Go.Proofs.YtpajagkhmodbnaaGreat

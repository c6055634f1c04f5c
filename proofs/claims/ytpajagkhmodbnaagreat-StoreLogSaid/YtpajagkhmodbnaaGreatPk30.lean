/- Pk: texts of the store seat laid together by program: SvLog. Conditions: each theorem names its own. -/
import Derived.Test.YtpajagkhmodbnaaGreatPk24
namespace Go.Proofs.YtpajagkhmodbnaaGreat
set_option linter.unusedSimpArgs false
set_option linter.unusedVariables false
section
open Go.RowKit
theorem cloneN_nil(w:World)(c:Nat):Calls Tryz.prog 66 #[.slice none 0 c] w fun e w'=>e=.returned (.slice none 0 0)∧w'=w:=by
 have hnil:=fun w':World=>eql_nil (P:=Tryz.prog) w' 48 5 none 0 c Tryz.underlying48
 go_enter Tryz.func66,Tryz.ntmps66
 go_wp2_with fail
 go_ret
 exact⟨rfl,rfl⟩
theorem cloneN_some(w:World)(a:Addr)(c:Nat):Calls Tryz.prog 66 #[.slice (some a) 0 c] w fun e w'=>e=.returned (.slice (some ⟨w.heap.size,0,none⟩) 0 0)∧Below w.heap.size w w'∧w.heap.size<w'.heap.size:=by
 have hnil:=fun w':World=>eql_some (P:=Tryz.prog) w' 48 5 a 0 c Tryz.underlying48
 go_enter Tryz.func66,Tryz.ntmps66
 go_wp2_with fail
 go_ret
 exact⟨rfl,(Below.refl _ _).alloc (Nat.le_refl _) _,by simp⟩
theorem lcells_at(E:List Le)(i:Nat)(e:Le)(h:E[i]? = some e)(j:Nat)(v:Value)(hv:(lcell e)[j]? = some v):(lcells E)[i*12+j]? = some v:=by
 induction E generalizing i with
 | nil=>cases h
 | cons a r ih=>
  have hj:j<12:=by have:=(List.getElem?_eq_some_iff.1 hv).1;simpa[lcell,recL]using this
  have hl:(lcell a).length=12:=rfl
  unfold lcells
  rw[List.flatMap_cons]
  cases i with
  | zero=>
   obtain rfl:=Option.some.inj h
   rw[List.getElem?_append_left (by omega),Nat.zero_mul,Nat.zero_add]
   exact hv
  | succ i=>
   rw[List.getElem?_append_right (by omega),hl,show(i+1)*12+j-12=i*12+j by omega]
   exact ih i h
theorem cloneE_any(l:List UInt8)(n:Nat)(hl:l.length=n)(hn2:n≤1099511627776)(v:Value)(w:World)(hv:Reads 1 w v n (l.map B)):
  Calls Tryz.prog 66 #[v] w fun e w'=>∃ao c,e=.returned (.slice ao n c)∧n≤c∧(∀m,n≤m→SecAt w' (fun q=>w.heap.size≤q∧q<w'.heap.size) l (.slice ao n m))∧Below w.heap.size w w':=by
 by_cases h0:n=0
 ·subst h0
  have hl0:l=[]:=List.eq_nil_of_length_eq_zero hl
  subst hl0
  obtain⟨ao,cp,rfl,_⟩:=hv
  rcases ao with _|a
  ·refine(cloneN_nil w cp).mono ?_
   rintro e w' ⟨rfl,rfl⟩
   exact⟨none,0,rfl,Nat.le_refl _,fun m _=>⟨⟨none,m,rfl,rfl,Nat.zero_le _,fun h=>absurd h (Nat.lt_irrefl _)⟩,fun q e=>(by cases e)⟩,Below.refl _ _⟩
  ·refine(cloneN_some w a cp).mono ?_
   rintro e w' ⟨rfl,hb,hlt⟩
   exact⟨_,0,rfl,Nat.le_refl _,fun m _=>⟨⟨_,m,rfl,rfl,Nat.zero_le _,fun h=>absurd h (Nat.lt_irrefl _)⟩,fun q e=>by
    have e2:w.heap.size=q:=(by simpa[Value.ownBlock]using e)
    omega⟩,hb⟩
 ·refine(clone_any l n hl (by omega) hn2 v w hv).mono ?_
  rintro e w' ⟨g,c,rfl,hr,hg,hg2,hb⟩
  obtain⟨ao,c2,e2,e3,e4,e5⟩:=hr
  injection e2 with e21 e22 e23
  subst e21 e23
  refine⟨_,c,rfl,e4,fun m hm=>⟨?_,fun q e=>?_⟩,hb⟩
  ·rw[hl]
   exact⟨_,m,rfl,e3,hm,e5⟩
  ·have e2:g=q:=(by simpa[Value.ownBlock]using e)
   omega
theorem cloneT_nil(w:World):Calls Tryz.prog 72 #[.slice none 0 0] w fun e w'=>e=.returned (.slice none 0 0)∧w'=w:=by
 have hnil:=fun w':World=>eql_nil (P:=Tryz.prog) w' 76 120 none 0 0 Tryz.underlying76
 go_enter Tryz.func72,Tryz.ntmps72
 go_wp2_with fail
 go_ret
 exact⟨rfl,rfl⟩
theorem cloneD_nil(w:World):Calls Tryz.prog 74 #[.slice none 0 0] w fun e w'=>e=.returned (.slice none 0 0)∧w'=w:=by
 have hnil:=fun w':World=>eql_nil (P:=Tryz.prog) w' 83 123 none 0 0 Tryz.underlying83
 go_enter Tryz.func74,Tryz.ntmps74
 go_wp2_with fail
 go_ret
 exact⟨rfl,rfl⟩
theorem clipT_nil(w:World):Calls Tryz.prog 71 #[.slice none 0 0] w fun e w'=>e=.returned (.slice none 0 0)∧w'=w:=by
 go_enter Tryz.func71,Tryz.ntmps71
 go_wp2_with fail
 go_ret
 exact⟨rfl,rfl⟩
theorem clipD_nil(w:World):Calls Tryz.prog 73 #[.slice none 0 0] w fun e w'=>e=.returned (.slice none 0 0)∧w'=w:=by
 go_enter Tryz.func73,Tryz.ntmps73
 go_wp2_with fail
 go_ret
 exact⟨rfl,rfl⟩
theorem clipL_any(ao:Option Addr)(n cap:Nat)(w:World)(h:n≤cap):Calls Tryz.prog 75 #[.slice ao n cap] w fun e w'=>e=.returned (.slice ao n n)∧w=w':=by
 have hb:decide (n≤cap)=true:=by simpa using h
 go_enter Tryz.func75,Tryz.ntmps75
 go_wp2_with fail
 go_ret
 exact⟨rfl,rfl⟩
theorem LnV.below0{W0 wr w':World}{v:Value}{E:List Le}{K:Nat→Prop}(h:LnV W0 wr v E K)(hb:Below wr.heap.size wr w'):LnV W0 w' v E K:=
 h.grow (X:=fun _=>False) (grow_below hb) (fun _ _ h=>h) (fun _ _ h=>h)
def WSLg6(g6 nb na G:Nat)(rr:Rc)(ab aa:Option Addr)(cb ca:Nat)(j b o:Nat):Prop:=(j=9∧b=g6∧o=6)∨(j=11∧b=g6∧o=7)
def PSLg6(g6 nb na G:Nat)(rr:Rc)(ab aa:Option Addr)(cb ca:Nat)(i:Nat)(VS:Nat→Value)(LO HI:Nat→Nat)(v:Value)(lo hi:Nat)(w:World):Prop:=
 match i with
 | 0=>v=.pointer (some ⟨g6,6,none⟩)
 | 1=>v=.slice ab nb cb
 | 2=>∃ao c,v=.slice ao nb c∧nb≤c∧∀m,nb≤m→SecAt w (fun q=>G≤q∧q<w.heap.size) rr.before (.slice ao nb m)
 | 3=>∃ao,v=.slice ao nb nb∧SecAt w (fun q=>G≤q∧q<w.heap.size) rr.before (.slice ao nb nb)
 | 4=>v=.pointer (some ⟨g6,7,none⟩)
 | 5=>v=.slice aa na ca
 | 6=>∃ao c,v=.slice ao na c∧na≤c∧∀m,na≤m→SecAt w (fun q=>G≤q∧q<w.heap.size) rr.after (.slice ao na m)
 | 7=>∃ao,v=.slice ao na na∧SecAt w (fun q=>G≤q∧q<w.heap.size) rr.after (.slice ao na na)
 | 8=>v=.pointer (some ⟨g6,6,none⟩)
 | 9=>g6<w.heap.size∧w.cell? ⟨g6,6,none⟩=some (VS 3)
 | 10=>v=.pointer (some ⟨g6,7,none⟩)
 | 11=>g6<w.heap.size∧w.cell? ⟨g6,7,none⟩=some (VS 7)
 | _=>True
abbrev bSLg6:List (List Nat):=[[],[0],[0,1],[0,1,2],[],[4],[0,1,2,3,4,5],[0,1,2,3,4,5,6],[0,1,2,3,4,5],[0,1,2,3,4,5,6,7,8],[0,1,2,3,4,5,6,7,8,9],[0,1,2,3,4,5,6,7,8,9,10]]
theorem PSLg6_stable(g6 nb na G:Nat)(rr:Rc)(ab aa:Option Addr)(cb ca:Nat)(hgg:g6<G):∀i j,i<12→j<12→j≠i→j∉bSLg6.getD i []→(i,j)∉([]:List (Nat×Nat))→∀VS LO HI v lo hi w w',PSLg6 g6 nb na G rr ab aa cb ca i VS LO HI v lo hi w→GrowC (WSLg6 g6 nb na G rr ab aa cb ca j) w w'→PSLg6 g6 nb na G rr ab aa cb ca i VS LO HI v lo hi w':=by
 intro i j hi hj hne hbs hx VS LO HI v lo hj2 w w' h hg
 match i,hi with
 | 0,_|1,_|4,_|5,_|8,_|10,_=>
  simp only[PSLg6]at h⊢
  exact h
 | 2,_|6,_=>
  simp only[PSLg6]at h⊢
  obtain⟨ao,c,h1,h2,h3⟩:=h
  exact⟨ao,c,h1,h2,fun m hm=>((h3 m hm).grow (GrowX.of_growC hg (Y:=fun k=>k=g6) (fun k o hk=>by rcases hk with h|h<;>exact h.2.1)) (fun k hk e=>by omega)).mono (fun q hq=>⟨hq.1,Nat.lt_of_lt_of_le hq.2 hg.size⟩)⟩
 | 3,_|7,_=>
  simp only[PSLg6]at h⊢
  obtain⟨ao,h1,h3⟩:=h
  exact⟨ao,h1,(h3.grow (GrowX.of_growC hg (Y:=fun k=>k=g6) (fun k o hk=>by rcases hk with h|h<;>exact h.2.1)) (fun k hk e=>by omega)).mono (fun q hq=>⟨hq.1,Nat.lt_of_lt_of_le hq.2 hg.size⟩)⟩
 | 9,_|11,_=>
  simp only[PSLg6]at h⊢
  obtain⟨h0,h1⟩:=h
  exact⟨Nat.lt_of_lt_of_le h0 hg.size,(hg.cell _ _ h0 (by simp only[WSLg6];omega)).trans h1⟩
 | (q+12),hq=>exact absurd hq (by omega)
theorem PSLg6_cong(g6 nb na G:Nat)(rr:Rc)(ab aa:Option Addr)(cb ca:Nat):∀i,i<12→∀VS VS' LO LO' HI HI' v lz hz w,(∀j∈bSLg6.getD i [],VS j=VS' j∧LO j=LO' j∧HI j=HI' j)→PSLg6 g6 nb na G rr ab aa cb ca i VS LO HI v lz hz w→PSLg6 g6 nb na G rr ab aa cb ca i VS' LO' HI' v lz hz w:=by
 intro i hi VS VS' LO LO' HI HI' v lz hz w he h
 match i,hi with
 | 0,_|1,_|2,_|3,_|4,_|5,_|6,_|7,_|8,_|10,_=>
  simp only[PSLg6]at h⊢
  exact h
 | 9,_=>
  simp only[PSLg6]at h⊢
  obtain⟨e3a,e3b,e3c⟩:=he 3 (by decide)
  simp only[←e3a,←e3b,←e3c]
  exact h
 | 11,_=>
  simp only[PSLg6]at h⊢
  obtain⟨e7a,e7b,e7c⟩:=he 7 (by decide)
  simp only[←e7a,←e7b,←e7c]
  exact h
 | (q+12),hq=>exact absurd hq (by omega)
def WSLg7(g6 nb na:Nat)(rr:Rc)(a3 a7:Option Addr)(j b o:Nat):Prop:=(j=9∧b=g6∧o=8)∨(j=11∧b=g6∧o=9)
def PSLg7(g6 nb na:Nat)(rr:Rc)(a3 a7:Option Addr)(i:Nat)(v:Value)(lo hi:Nat)(w:World):Prop:=
 match i with
 | 0=>v=.pointer (some ⟨g6,8,none⟩)
 | 1=>v=.slice none 0 0
 | 2=>v=.slice none 0 0
 | 3=>v=.slice none 0 0
 | 4=>v=.pointer (some ⟨g6,9,none⟩)
 | 5=>v=.slice none 0 0
 | 6=>v=.slice none 0 0
 | 7=>v=.slice none 0 0
 | 8=>v=.pointer (some ⟨g6,8,none⟩)
 | 9=>g6<w.heap.size∧w.cell? ⟨g6,8,none⟩=some (.slice none 0 0)
 | 10=>v=.pointer (some ⟨g6,9,none⟩)
 | 11=>g6<w.heap.size∧w.cell? ⟨g6,9,none⟩=some (.slice none 0 0)
 | _=>True
theorem PSLg7_stable(g6 nb na:Nat)(rr:Rc)(a3 a7:Option Addr)  : ∀i j,i<12→j<12→j≠i→j∉bSLg6.getD i []→∀v lo hi w w',PSLg7 g6 nb na rr a3 a7 i v lo hi w→GrowC (WSLg7 g6 nb na rr a3 a7 j) w w'→PSLg7 g6 nb na rr a3 a7 i v lo hi w':=by
 intro i j hi hj hne hbs v lo hj2 w w' h hg
 match i,hi with
 | 0,_|1,_|2,_|3,_|4,_|5,_|6,_|7,_|8,_|10,_=>
  simp only[PSLg7]at h⊢
  exact h
 | 9,_|11,_=>
  simp only[PSLg7]at h⊢
  obtain⟨h0,h1⟩:=h
  exact⟨Nat.lt_of_lt_of_le h0 hg.size,(hg.cell _ _ h0 (by simp only[WSLg7];omega)).trans h1⟩
 | (q+12),hq=>exact absurd hq (by omega)
section
variable{W0 w w' w2:World}{A:Adr}{c:Cf}{σ:St}{S:Nat→Prop}{vl vo vo':Value}{EL:List Le}{EO:List Te}{K S1:Nat→Prop}{X:Nat→Prop}
set_option maxRecDepth 100000 in
set_option maxHeartbeats 6400000 in
theorem log_at(h:SvAt W0 w A c σ vl vo EL EO K S1)(hn:EL.length≤1000000):
  Calls Tryz.prog 33 #[.pointer (some ⟨A.sb,0,none⟩)] w fun e w'=>∃(v:Value)(EL':List Le)(K':Nat→Prop),e=.returned v∧Reads 12 w' v σ.lines.length (lcells EL')∧(∀e∈EL',(SecAt w' K' e.r.before e.vb∧SecAt w' K' e.r.after e.va)∧e.r.small∧e.lsn≤1099511627776)∧EL'.map (fun e=>(e.lsn,e.r))=σ.lines∧(∀q,K' q→w.heap.size≤q∧q<w'.heap.size)∧Below w.heap.size w w':=by
 have HS:=Lib.hid h
 have HLI:=Lib.hid h.lis
 have hrow:=h.ln.row
 obtain⟨al,cl,hvl⟩:=own_shape hrow
 have c4:w.cell? ⟨A.sb,4,none⟩=some (.slice al EL.length cl):=by have:=h.sbx.cell 4 _ rfl;rw[hvl]at this;exact this
 have clt:=h.sbx.lt
 have HVL:=Lib.hid hvl
 obtain⟨n,hnn⟩:∃n,EL.length=n:=⟨_,rfl⟩
 rw[hnn]at c4 hn
 have HNN:=Lib.hid hnn
 clear h hrow hvl hnn
 go_enter Tryz.func33,Tryz.ntmps33
 go_wp2_with fail
 go_loopw [3,5,6,12] (fun z3 z5 z6 i wr=>∃(k:Nat)(EL':List Le)(K':Nat→Prop),k≤n∧i=.int .i64 (k:Nat)∧LnV w wr z3 EL' K'∧EL'.map (fun e=>(e.lsn,e.r))=(EL.take k).map (fun e=>(e.lsn,e.r))∧(∀q,K' q→w.heap.size≤q∧q<wr.heap.size)∧Disj K' (ownS z3)∧Below w.heap.size w wr) (fun _ _ _ i _=>n-(intOf i).toNat)
 case atStart=>exact⟨0,[],fun _=>False,Nat.zero_le _,rfl,⟨⟨rfl,.inl ⟨rfl,rfl⟩⟩,fun e h=>(by cases h),fun e h=>(by cases h)⟩,rfl,fun q h=>h.elim,fun k h=>h.elim,Below.refl _ _⟩
 case round=>
  obtain⟨k,EL',K',hk,rfl,hln,hmap,hK,hdj,hbl⟩:=hrel
  have HLN:=Lib.hid hln
  have HMAP:=Lib.hid hmap
  have HK:=Lib.hid hK
  have HDJ:=Lib.hid hdj
  have HB:=Lib.hid hbl
  by_cases hkn:k<n
  ·obtain⟨e,he⟩:∃e,EL[k]? = some e:=⟨_,List.getElem?_eq_getElem (by rw[HNN.out];exact hkn)⟩
   have hrow:=(HS.out.below hbl).ln.row
   obtain⟨g,cu2,e1,_,hcu⟩:=own_slice hrow (by rw[HNN.out];omega)
   have e2:=HVL.out
   rw[e1]at e2
   injection e2 with e3 e4 e5
   subst e3
   subst e5
   rw[HNN.out]at e1 hrow
   rw[e1]at hrow
   have hcl:∀j u,(lcell e)[j]? = some u→wr.cell? ⟨g,k*12+j,none⟩=some u:=fun j u hu=>by
    have h1:=own_cellsK hrow (k*12+j) u (lcells_at EL k e he j u hu)
    rw[Addr.add_lit,Nat.zero_add]at h1
    exact h1
   have HCL:=Lib.hid hcl
   have hsec:=(HS.out.below hbl).ln.tb e (List.mem_of_getElem? he)
   obtain⟨ab,cb,hvb,hbl1,hbc,_⟩:=hsec.1.1
   obtain⟨aa,ca,hva,hal1,hac,_⟩:=hsec.2.1
   obtain⟨nb,hnb⟩:∃x,e.r.before.length=x:=⟨_,rfl⟩
   obtain⟨na,hna⟩:∃x,e.r.after.length=x:=⟨_,rfl⟩
   have hsm:=(HS.out.ln.sm e (List.mem_of_getElem? he))
   have HNB:=Lib.hid hnb
   have HNA:=Lib.hid hna
   rw[hnb]at hvb hbc
   rw[hna]at hva hac
   have HE:=Lib.hid he
   have HSM:=Lib.hid hsm
   have HSEC:=Lib.hid hsec
   have HVB:=Lib.hid hvb
   have HVA:=Lib.hid hva
   clear hln hmap hK hdj hbl hrow hcl e1 e4 hcu he hsec hbl1 hal1 hsm hnb hna
   have z0:=HCL.out 0 _ rfl
   rw[Nat.add_zero]at z0
   have z1:=HCL.out 1 _ rfl
   have z2:=HCL.out 2 _ rfl
   have z3:=HCL.out 3 _ rfl
   have z4:=HCL.out 4 _ rfl
   have z5:=HCL.out 5 _ rfl
   have z6:=HCL.out 6 _ rfl
   have z7:=HCL.out 7 _ rfl
   have z8:=HCL.out 8 _ rfl
   have z9:=HCL.out 9 _ rfl
   have z10:=HCL.out 10 _ rfl
   have z11:=HCL.out 11 _ rfl
   rw[hvb]at z7
   rw[hva]at z8
   clear hvb hva
   obtain⟨Gr,hGr⟩:∃x,wr.heap.size=x:=⟨_,rfl⟩
   have HGr:=Lib.hid hGr
   go_upto_region 6 with (fail)
   have bx0:=Box.new wr #[.int .i64 (e.lsn:Nat),.int .i64 (e.r.kind:Nat),.int .i64 (e.r.txn:Nat),.int .i64 (e.r.prev:Nat),.int .i64 (e.r.next:Nat),.int .i64 (e.r.page:Nat),.int .i64 (e.r.off:Nat),.slice ab nb cb,.slice aa na ca,.slice none 0 0,.slice none 0 0,.int .i64 (e.r.count:Nat)] 87 rfl
   have bx:=bx0.alloc (.cells #[.int .i64 (e.r.kind:Nat),.int .i64 (e.r.txn:Nat),.int .i64 (e.r.prev:Nat),.int .i64 (e.r.next:Nat),.int .i64 (e.r.page:Nat),.int .i64 (e.r.off:Nat),.slice ab nb cb,.slice aa na ca,.slice none 0 0,.slice none 0 0,.int .i64 (e.r.count:Nat)] 85)
   have br:=Box.new (wr.alloc (.cells #[.int .i64 (e.lsn:Nat),.int .i64 (e.r.kind:Nat),.int .i64 (e.r.txn:Nat),.int .i64 (e.r.prev:Nat),.int .i64 (e.r.next:Nat),.int .i64 (e.r.page:Nat),.int .i64 (e.r.off:Nat),.slice ab nb cb,.slice aa na ca,.slice none 0 0,.slice none 0 0,.int .i64 (e.r.count:Nat)] 87)) #[.int .i64 (e.r.kind:Nat),.int .i64 (e.r.txn:Nat),.int .i64 (e.r.prev:Nat),.int .i64 (e.r.next:Nat),.int .i64 (e.r.page:Nat),.int .i64 (e.r.off:Nat),.slice ab nb cb,.slice aa na ca,.slice none 0 0,.slice none 0 0,.int .i64 (e.r.count:Nat)] 85 rfl
   have hb1:=((Below.refl wr.heap.size wr).alloc (Nat.le_refl _) (.cells #[.int .i64 (e.lsn:Nat),.int .i64 (e.r.kind:Nat),.int .i64 (e.r.txn:Nat),.int .i64 (e.r.prev:Nat),.int .i64 (e.r.next:Nat),.int .i64 (e.r.page:Nat),.int .i64 (e.r.off:Nat),.slice ab nb cb,.slice aa na ca,.slice none 0 0,.slice none 0 0,.int .i64 (e.r.count:Nat)] 87))
   have hb2:=hb1.alloc (by simp) (.cells #[.int .i64 (e.r.kind:Nat),.int .i64 (e.r.txn:Nat),.int .i64 (e.r.prev:Nat),.int .i64 (e.r.next:Nat),.int .i64 (e.r.page:Nat),.int .i64 (e.r.off:Nat),.slice ab nb cb,.slice aa na ca,.slice none 0 0,.slice none 0 0,.int .i64 (e.r.count:Nat)] 85)
   have hg5:(wr.alloc (.cells #[.int .i64 (e.lsn:Nat),.int .i64 (e.r.kind:Nat),.int .i64 (e.r.txn:Nat),.int .i64 (e.r.prev:Nat),.int .i64 (e.r.next:Nat),.int .i64 (e.r.page:Nat),.int .i64 (e.r.off:Nat),.slice ab nb cb,.slice aa na ca,.slice none 0 0,.slice none 0 0,.int .i64 (e.r.count:Nat)] 87)).heap.size=Gr+1:=by rw[←hGr];simp
   rw[hg5]at br
   rw[hGr]at bx
   rw[hGr]at hb2
   have HB2:=Lib.hid hb2
   clear bx0 hb1 hb2 hg5 z0 z1 z2 z3 z4 z5 z6 z7 z8 z9 z10 z11
   generalize (wr.alloc (.cells #[.int .i64 (e.lsn:Nat),.int .i64 (e.r.kind:Nat),.int .i64 (e.r.txn:Nat),.int .i64 (e.r.prev:Nat),.int .i64 (e.r.next:Nat),.int .i64 (e.r.page:Nat),.int .i64 (e.r.off:Nat),.slice ab nb cb,.slice aa na ca,.slice none 0 0,.slice none 0 0,.int .i64 (e.r.count:Nat)] 87)).alloc (.cells #[.int .i64 (e.r.kind:Nat),.int .i64 (e.r.txn:Nat),.int .i64 (e.r.prev:Nat),.int .i64 (e.r.next:Nat),.int .i64 (e.r.page:Nat),.int .i64 (e.r.off:Nat),.slice ab nb cb,.slice aa na ca,.slice none 0 0,.slice none 0 0,.int .i64 (e.r.count:Nat)] 85)=y6 at *
   obtain⟨g6,hg6⟩:∃x,Gr+1=x:=⟨_,rfl⟩
   rw[hg6]at br⊢
   have hB:=HB2.out
   have HGG:Hid (g6<y6.heap.size):=Lib.hid br.lt
   have hgg:=br.lt
   have hko:∀q,K q→q<Gr:=fun q hq=>by have:=(HS.out.kin q hq).2;have:=HB.out.size;have:=HGr.out;omega
   have HKO:=Lib.hid hko
   have HRB:Hid (SecAt y6 (fun q=>q<Gr) e.r.before (.slice ab nb cb)):=Lib.hid (by
    have h1:=(HSEC.out.1.mono hko).grow (X:=fun _=>False) (grow_below (HGr.out▸HB2.out)) (fun _ _ h=>h)
    rw[HVB.out]at h1
    exact h1)
   have HRA:Hid (SecAt y6 (fun q=>q<Gr) e.r.after (.slice aa na ca)):=Lib.hid (by
    have h1:=(HSEC.out.2.mono hko).grow (X:=fun _=>False) (grow_below (HGr.out▸HB2.out)) (fun _ _ h=>h)
    rw[HVA.out]at h1
    exact h1)
   have hnbs:nb≤1099511627776:=by have:=HSM.out.1.b;have:=HNB.out;omega
   have hnas:na≤1099511627776:=by have:=HSM.out.1.a;have:=HNA.out;omega
   clear hko
   obtain⟨rr,hrr⟩:∃x,e.r=x:=⟨_,rfl⟩
   rw[hrr]at br HRB HRA HNB HNA⊢
   refine wp_region_partsDV (WSLg6 g6 nb na (y6.heap.size) rr ab aa cb ca) 12 bSLg6 [some 18,some 19,some 20,some 21,some 22,some 23,some 24,some 25,some 26,none,some 27,none] [[],[0],[1],[2],[],[4],[5],[6],[],[3,8],[9],[7,9,10]] [0,1,2,3,4,5,6,7,8,9,10,11] [] (by decide) (by kernel_rfl) (by kernel_rfl) rfl (PSLg6 g6 nb na (y6.heap.size) rr ab aa cb ca) (PSLg6_cong g6 nb na (y6.heap.size) rr ab aa cb ca) (PSLg6_stable g6 nb na (y6.heap.size) rr ab aa cb ca HGG.out) ?pSLg6 ?_
   case pSLg6=>
    intro i hi o ho vs lo hx_ w' hg hp hdd
    match i,hi with
    | 0,_|4,_|8,_=>
     obtain rfl:=Option.some.inj ho
     clear ho
     simp only[actsD,Act.put,actL]
     have hsz:=hg.size
     go_wp2
     exact⟨_,rfl,GrowC.refl _,rfl⟩
    | 1,_=>
     obtain rfl:=Option.some.inj ho
     clear ho
     simp only[actsD,Act.put,actL]
     obtain⟨_,_,_,h0⟩:=hp 0 (by simp)
     simp only[PSLg6]at h0
     have hsz:=hg.size
     rw[h0]
     have e0:=(hg.cell (g6) 6 br.lt (by rintro⟨j,_,hne,hb,hw⟩;simp only[WSLg6]at hw;rcases hw with ⟨rfl,e1,e2⟩|⟨rfl,e1,e2⟩<;>first|omega|(exact hb (by decide)))).trans (br.cell 6 _ rfl)
     go_wp2
     exact⟨_,rfl,GrowC.refl _,rfl⟩
    | 2,_=>
     obtain rfl:=Option.some.inj ho
     clear ho
     simp only[actsD,Act.put,actL]
     obtain⟨_,_,_,h1⟩:=hp 1 (by simp)
     simp only[PSLg6]at h1
     have hsz:=hg.size
     rw[h1]
     have hrd:=(HRB.out.grow (GrowX.of_growC hg (Y:=fun k=>k=g6) (fun k o hk=>by obtain⟨j,_,_,_,hw⟩:=hk;simp only[WSLg6]at hw;rcases hw with h|h<;>exact h.2.1)) (fun q hq e=>by omega)).1
     rw[HNB.out]at hrd
     go_wp2_with fail
     refine(cloneE_any rr.before nb HNB.out (by omega) _ w' hrd).mono ?_
     rintro er wh ⟨ao,c,rfl,hc1,hc2,hbl⟩
     go_wp2
     exact⟨_,rfl,GrowC.of_grow ⟨hbl.os,hbl.tape,hbl.output,hbl.size,hbl.block⟩,ao,c,rfl,hc1,fun m hm=>(hc2 m hm).mono (fun q hq=>⟨by have:=hg.size;omega,hq.2⟩)⟩
    | 3,_=>
     obtain rfl:=Option.some.inj ho
     clear ho
     simp only[actsD,Act.put,actL]
     obtain⟨_,_,_,h2⟩:=hp 2 (by simp)
     simp only[PSLg6]at h2
     have hsz:=hg.size
     obtain⟨ao,c,h2a,h2b,h2c⟩:=h2
     rw[h2a]
     go_wp2_with fail
     refine(clipB_any ao nb c w' h2b).mono ?_
     rintro er wh ⟨rfl,rfl⟩
     go_wp2
     exact⟨_,rfl,GrowC.refl _,ao,rfl,h2c _ (Nat.le_refl _)⟩
    | 5,_=>
     obtain rfl:=Option.some.inj ho
     clear ho
     simp only[actsD,Act.put,actL]
     obtain⟨_,_,_,h4⟩:=hp 4 (by simp)
     simp only[PSLg6]at h4
     have hsz:=hg.size
     rw[h4]
     have e0:=(hg.cell (g6) 7 br.lt (by rintro⟨j,_,hne,hb,hw⟩;simp only[WSLg6]at hw;rcases hw with ⟨rfl,e1,e2⟩|⟨rfl,e1,e2⟩<;>first|omega|(exact hb (by decide)))).trans (br.cell 7 _ rfl)
     go_wp2
     exact⟨_,rfl,GrowC.refl _,rfl⟩
    | 6,_=>
     obtain rfl:=Option.some.inj ho
     clear ho
     simp only[actsD,Act.put,actL]
     obtain⟨_,_,_,h5⟩:=hp 5 (by simp)
     simp only[PSLg6]at h5
     have hsz:=hg.size
     rw[h5]
     have hrd:=(HRA.out.grow (GrowX.of_growC hg (Y:=fun k=>k=g6) (fun k o hk=>by obtain⟨j,_,_,_,hw⟩:=hk;simp only[WSLg6]at hw;rcases hw with h|h<;>exact h.2.1)) (fun q hq e=>by omega)).1
     rw[HNA.out]at hrd
     go_wp2_with fail
     refine(cloneE_any rr.after na HNA.out (by omega) _ w' hrd).mono ?_
     rintro er wh ⟨ao,c,rfl,hc1,hc2,hbl⟩
     go_wp2
     exact⟨_,rfl,GrowC.of_grow ⟨hbl.os,hbl.tape,hbl.output,hbl.size,hbl.block⟩,ao,c,rfl,hc1,fun m hm=>(hc2 m hm).mono (fun q hq=>⟨by have:=hg.size;omega,hq.2⟩)⟩
    | 7,_=>
     obtain rfl:=Option.some.inj ho
     clear ho
     simp only[actsD,Act.put,actL]
     obtain⟨_,_,_,h6⟩:=hp 6 (by simp)
     simp only[PSLg6]at h6
     have hsz:=hg.size
     obtain⟨ao,c,h6a,h6b,h6c⟩:=h6
     rw[h6a]
     go_wp2_with fail
     refine(clipB_any ao na c w' h6b).mono ?_
     rintro er wh ⟨rfl,rfl⟩
     go_wp2
     exact⟨_,rfl,GrowC.refl _,ao,rfl,h6c _ (Nat.le_refl _)⟩
    | 9,_=>
     obtain rfl:=Option.some.inj ho
     clear ho
     simp only[actsD,Act.put,actL]
     obtain⟨_,_,_,h3⟩:=hp 3 (by simp)
     simp only[PSLg6]at h3
     obtain⟨_,_,_,h8⟩:=hp 8 (by simp)
     simp only[PSLg6]at h8
     have hsz:=hg.size
     rw[h8]
     obtain⟨ao,h3a,_⟩:=h3
     rw[h3a]
     have o0:=(hg.cell (g6) 6 br.lt (by rintro⟨j,_,hne,hb,hw⟩;simp only[WSLg6]at hw;rcases hw with ⟨rfl,e1,e2⟩|⟨rfl,e1,e2⟩<;>first|omega|(exact hb (by decide)))).trans (br.cell 6 _ rfl)
     have fz:∀o,w'.frozen? ⟨g6,o,none⟩=false:=fun o=>(hg.frozen _ o br.lt).trans (br.free o)
     have hlt:g6<w'.heap.size:=by have:=br.lt;omega
     go_wp2
     exact⟨.bool true,rfl,((GrowC.refl _).setCell (by unfold WSLg6;omega) hlt _),by simpa[World.setCell]using hlt,by rw[h3a];exact World.cell?_setCell_same _ _ _ o0⟩
    | 10,_=>
     obtain rfl:=Option.some.inj ho
     clear ho
     simp only[actsD,Act.put,actL]
     obtain⟨_,_,_,h9⟩:=hp 9 (by simp)
     simp only[PSLg6]at h9
     have hsz:=hg.size
     go_wp2
     exact⟨_,rfl,GrowC.refl _,rfl⟩
    | 11,_=>
     obtain rfl:=Option.some.inj ho
     clear ho
     simp only[actsD,Act.put,actL]
     obtain⟨_,_,_,h7⟩:=hp 7 (by simp)
     simp only[PSLg6]at h7
     obtain⟨_,_,_,h9⟩:=hp 9 (by simp)
     simp only[PSLg6]at h9
     obtain⟨_,_,_,h10⟩:=hp 10 (by simp)
     simp only[PSLg6]at h10
     have hsz:=hg.size
     rw[h10]
     obtain⟨ao,h7a,_⟩:=h7
     rw[h7a]
     have o0:=(hg.cell (g6) 7 br.lt (by rintro⟨j,_,hne,hb,hw⟩;simp only[WSLg6]at hw;rcases hw with ⟨rfl,e1,e2⟩|⟨rfl,e1,e2⟩<;>first|omega|(exact hb (by decide)))).trans (br.cell 7 _ rfl)
     have fz:∀o,w'.frozen? ⟨g6,o,none⟩=false:=fun o=>(hg.frozen _ o br.lt).trans (br.free o)
     have hlt:g6<w'.heap.size:=by have:=br.lt;omega
     go_wp2
     exact⟨.bool true,rfl,((GrowC.refl _).setCell (by unfold WSLg6;omega) hlt _),by simpa[World.setCell]using hlt,by rw[h7a];exact World.cell?_setCell_same _ _ _ o0⟩
    | (q+12),hq=>exact absurd hq (by omega)
   intro vS lo hi z6 hg hp hd
   obtain⟨_,_,_,h0⟩:=hp 0 (by decide)
   replace h0:=h0 (by decide)
   obtain⟨_,_,_,h1⟩:=hp 1 (by decide)
   replace h1:=h1 (by decide)
   obtain⟨_,_,_,h2⟩:=hp 2 (by decide)
   replace h2:=h2 (by decide)
   obtain⟨_,_,_,h3⟩:=hp 3 (by decide)
   replace h3:=h3 (by decide)
   obtain⟨_,_,_,h4⟩:=hp 4 (by decide)
   replace h4:=h4 (by decide)
   obtain⟨_,_,_,h5⟩:=hp 5 (by decide)
   replace h5:=h5 (by decide)
   obtain⟨_,_,_,h6⟩:=hp 6 (by decide)
   replace h6:=h6 (by decide)
   obtain⟨_,_,_,h7⟩:=hp 7 (by decide)
   replace h7:=h7 (by decide)
   obtain⟨_,_,_,h8⟩:=hp 8 (by decide)
   replace h8:=h8 (by decide)
   obtain⟨_,_,_,h9⟩:=hp 9 (by decide)
   replace h9:=h9 (by decide)
   obtain⟨_,_,_,h10⟩:=hp 10 (by decide)
   replace h10:=h10 (by decide)
   obtain⟨_,_,_,h11⟩:=hp 11 (by decide)
   replace h11:=h11 (by decide)
   simp only[PSLg6]at h0 h1 h2 h3 h4 h5 h6 h7 h8 h9 h10 h11
   clear hp hd
   have hsz:=hg.size
   replace br:Box z6 (g6) [.int .i64 (rr.kind:Nat),.int .i64 (rr.txn:Nat),.int .i64 (rr.prev:Nat),.int .i64 (rr.next:Nat),.int .i64 (rr.page:Nat),.int .i64 (rr.off:Nat),vS 3,vS 7,.slice none 0 0,.slice none 0 0,.int .i64 (rr.count:Nat)]:=br.upd hg (by
    intro i v hi
    match i,hi with
    | 0,hi|1,hi|2,hi|3,hi|4,hi|5,hi|8,hi|9,hi|10,hi=>exact .inr ⟨(by rintro⟨j,_,hw⟩;simp only[WSLg6]at hw;omega),hi⟩
    | 6,hi=>exact .inl (by obtain rfl:=Option.some.inj hi;exact h9.2)
    | 7,hi=>exact .inl (by obtain rfl:=Option.some.inj hi;exact h11.2)
    | (q+11),hi=>cases hi)
   replace hB:=hB.trans (hg.below (fun k hk=>⟨by omega,fun o=>by rintro⟨j,_,hw⟩;simp only[WSLg6]at hw;omega⟩))
   have hr:List.range 12=[0,1,2,3,4,5,6,7,8,9,10,11]:=rfl
   rw[hr]
   clear hr
   simp only[List.drop_succ_cons,List.drop_zero,List.drop_nil,actsD,Act.put,actL,h0,h1,h4,h5,h8,h10]
   clear h0 h1 h4 h5 h8 h10
   obtain⟨a3,e3,s3⟩:=h3
   obtain⟨a7,e7,s7⟩:=h7
   rw[e3,e7]at br
   have HB6:=Lib.hid hB
   have hz6:Gr≤z6.heap.size:=by have:=br.lt;omega
   have HS3:=Lib.hid s3
   have HS7:=Lib.hid s7
   have HGZ:Hid (y6.heap.size≤z6.heap.size):=Lib.hid hsz
   have bx6:=bx.growx (GrowX.of_growC hg (Y:=fun k=>k=g6) (fun k o hk=>by obtain⟨j,_,hw⟩:=hk;simp only[WSLg6]at hw;rcases hw with h|h<;>exact h.2.1)) (fun e=>by omega)
   clear hB hg h9 h11 s3 s7 e3 e7 hgg bx
   go_upto_region 7 with (fail)
   have hB:=Below.refl Gr z6
   have hgg:=br.lt
   refine wp_region_partsDC (WSLg7 g6 nb na rr a3 a7) 12 [[],[0],[0,1],[0,1,2],[],[4],[0,1,2,3,4,5],[0,1,2,3,4,5,6],[0,1,2,3,4,5],[0,1,2,3,4,5,6,7,8],[0,1,2,3,4,5,6,7,8,9],[0,1,2,3,4,5,6,7,8,9,10]] [some 28,some 29,some 30,some 31,some 32,some 33,some 34,some 35,some 36,none,some 37,none] (by kernel_rfl) (by kernel_rfl) rfl (PSLg7 g6 nb na rr a3 a7) (PSLg7_stable g6 nb na rr a3 a7) ?pSLg7 ?_
   case pSLg7=>
    intro i hi o ho vs lo hx_ w' hg hp
    match i,hi with
    | 0,_|4,_|8,_=>
     obtain rfl:=Option.some.inj ho
     clear ho
     simp only[actsD,Act.put,actL]
     have hsz:=hg.size
     go_wp2
     exact⟨_,rfl,GrowC.refl _,rfl⟩
    | 1,_=>
     obtain rfl:=Option.some.inj ho
     clear ho
     simp only[actsD,Act.put,actL]
     obtain⟨_,_,_,h0⟩:=hp 0 (by simp)
     simp only[PSLg7]at h0
     have hsz:=hg.size
     rw[h0]
     have e0:=(hg.cell (g6) 8 br.lt (by rintro⟨j,_,hne,hb,hw⟩;simp only[WSLg7]at hw;rcases hw with ⟨rfl,e1,e2⟩|⟨rfl,e1,e2⟩<;>first|omega|(exact hb (by decide)))).trans (br.cell 8 _ rfl)
     go_wp2
     exact⟨_,rfl,GrowC.refl _,rfl⟩
    | 2,_=>
     obtain rfl:=Option.some.inj ho
     clear ho
     simp only[actsD,Act.put,actL]
     obtain⟨_,_,_,h1⟩:=hp 1 (by simp)
     simp only[PSLg7]at h1
     have hsz:=hg.size
     rw[h1]
     go_wp2_with fail
     refine(cloneT_nil w').mono ?_
     rintro er wh ⟨rfl,rfl⟩
     go_wp2
     exact⟨_,rfl,GrowC.refl _,rfl⟩
    | 3,_=>
     obtain rfl:=Option.some.inj ho
     clear ho
     simp only[actsD,Act.put,actL]
     obtain⟨_,_,_,h2⟩:=hp 2 (by simp)
     simp only[PSLg7]at h2
     have hsz:=hg.size
     rw[h2]
     go_wp2_with fail
     refine(clipT_nil w').mono ?_
     rintro er wh ⟨rfl,rfl⟩
     go_wp2
     exact⟨_,rfl,GrowC.refl _,rfl⟩
    | 5,_=>
     obtain rfl:=Option.some.inj ho
     clear ho
     simp only[actsD,Act.put,actL]
     obtain⟨_,_,_,h4⟩:=hp 4 (by simp)
     simp only[PSLg7]at h4
     have hsz:=hg.size
     rw[h4]
     have e0:=(hg.cell (g6) 9 br.lt (by rintro⟨j,_,hne,hb,hw⟩;simp only[WSLg7]at hw;rcases hw with ⟨rfl,e1,e2⟩|⟨rfl,e1,e2⟩<;>first|omega|(exact hb (by decide)))).trans (br.cell 9 _ rfl)
     go_wp2
     exact⟨_,rfl,GrowC.refl _,rfl⟩
    | 6,_=>
     obtain rfl:=Option.some.inj ho
     clear ho
     simp only[actsD,Act.put,actL]
     obtain⟨_,_,_,h5⟩:=hp 5 (by simp)
     simp only[PSLg7]at h5
     have hsz:=hg.size
     rw[h5]
     go_wp2_with fail
     refine(cloneD_nil w').mono ?_
     rintro er wh ⟨rfl,rfl⟩
     go_wp2
     exact⟨_,rfl,GrowC.refl _,rfl⟩
    | 7,_=>
     obtain rfl:=Option.some.inj ho
     clear ho
     simp only[actsD,Act.put,actL]
     obtain⟨_,_,_,h6⟩:=hp 6 (by simp)
     simp only[PSLg7]at h6
     have hsz:=hg.size
     rw[h6]
     go_wp2_with fail
     refine(clipD_nil w').mono ?_
     rintro er wh ⟨rfl,rfl⟩
     go_wp2
     exact⟨_,rfl,GrowC.refl _,rfl⟩
    | 9,_=>
     obtain rfl:=Option.some.inj ho
     clear ho
     simp only[actsD,Act.put,actL]
     obtain⟨_,_,_,h3⟩:=hp 3 (by simp)
     simp only[PSLg7]at h3
     obtain⟨_,_,_,h8⟩:=hp 8 (by simp)
     simp only[PSLg7]at h8
     have hsz:=hg.size
     rw[h3,h8]
     have o0:=(hg.cell (g6) 8 br.lt (by rintro⟨j,_,hne,hb,hw⟩;simp only[WSLg7]at hw;omega)).trans (br.cell 8 _ rfl)
     have fz:∀o,w'.frozen? ⟨g6,o,none⟩=false:=fun o=>(hg.frozen _ o br.lt).trans (br.free o)
     have hlt:g6<w'.heap.size:=by have:=br.lt;omega
     go_wp2
     exact⟨.bool true,rfl,((GrowC.refl _).setCell (by unfold WSLg7;omega) hlt _),by simpa[World.setCell]using hlt,World.cell?_setCell_same _ _ _ o0⟩
    | 10,_=>
     obtain rfl:=Option.some.inj ho
     clear ho
     simp only[actsD,Act.put,actL]
     obtain⟨_,_,_,h9⟩:=hp 9 (by simp)
     simp only[PSLg7]at h9
     have hsz:=hg.size
     go_wp2
     exact⟨_,rfl,GrowC.refl _,rfl⟩
    | 11,_=>
     obtain rfl:=Option.some.inj ho
     clear ho
     simp only[actsD,Act.put,actL]
     obtain⟨_,_,_,h7⟩:=hp 7 (by simp)
     simp only[PSLg7]at h7
     obtain⟨_,_,_,h9⟩:=hp 9 (by simp)
     simp only[PSLg7]at h9
     obtain⟨_,_,_,h10⟩:=hp 10 (by simp)
     simp only[PSLg7]at h10
     have hsz:=hg.size
     rw[h7,h10]
     have o0:=(hg.cell (g6) 9 br.lt (by rintro⟨j,_,hne,hb,hw⟩;simp only[WSLg7]at hw;omega)).trans (br.cell 9 _ rfl)
     have fz:∀o,w'.frozen? ⟨g6,o,none⟩=false:=fun o=>(hg.frozen _ o br.lt).trans (br.free o)
     have hlt:g6<w'.heap.size:=by have:=br.lt;omega
     go_wp2
     exact⟨.bool true,rfl,((GrowC.refl _).setCell (by unfold WSLg7;omega) hlt _),by simpa[World.setCell]using hlt,World.cell?_setCell_same _ _ _ o0⟩
    | (q+12),hq=>exact absurd hq (by omega)
   intro vS lo hi z7 hg hp hd
   obtain⟨_,_,_,h0⟩:=hp 0 (by decide)
   obtain⟨_,_,_,h1⟩:=hp 1 (by decide)
   obtain⟨_,_,_,h2⟩:=hp 2 (by decide)
   obtain⟨_,_,_,h3⟩:=hp 3 (by decide)
   obtain⟨_,_,_,h4⟩:=hp 4 (by decide)
   obtain⟨_,_,_,h5⟩:=hp 5 (by decide)
   obtain⟨_,_,_,h6⟩:=hp 6 (by decide)
   obtain⟨_,_,_,h7⟩:=hp 7 (by decide)
   obtain⟨_,_,_,h8⟩:=hp 8 (by decide)
   obtain⟨_,_,_,h9⟩:=hp 9 (by decide)
   obtain⟨_,_,_,h10⟩:=hp 10 (by decide)
   obtain⟨_,_,_,h11⟩:=hp 11 (by decide)
   simp only[PSLg7]at h0 h1 h2 h3 h4 h5 h6 h7 h8 h9 h10 h11
   clear hp hd
   have hsz:=hg.size
   replace br:Box z7 (g6) [.int .i64 (rr.kind:Nat),.int .i64 (rr.txn:Nat),.int .i64 (rr.prev:Nat),.int .i64 (rr.next:Nat),.int .i64 (rr.page:Nat),.int .i64 (rr.off:Nat),.slice a3 nb nb,.slice a7 na na,.slice none 0 0,.slice none 0 0,.int .i64 (rr.count:Nat)]:=br.upd hg (by
    intro i v hi
    match i,hi with
    | 0,hi|1,hi|2,hi|3,hi|4,hi|5,hi|6,hi|7,hi|10,hi=>exact .inr ⟨(by rintro⟨j,_,hw⟩;simp only[WSLg7]at hw;omega),hi⟩
    | 8,hi=>exact .inl (by obtain rfl:=Option.some.inj hi;exact h9.2)
    | 9,hi=>exact .inl (by obtain rfl:=Option.some.inj hi;exact h11.2)
    | (q+11),hi=>cases hi)
   replace hB:=hB.trans (hg.below (fun k hk=>⟨by omega,fun o=>by rintro⟨j,_,hw⟩;simp only[WSLg7]at hw;omega⟩))
   have hr:List.range 12=[0,1,2,3,4,5,6,7,8,9,10,11]:=rfl
   rw[hr]
   clear hr
   simp only[List.drop_succ_cons,List.drop_zero,List.drop_nil,actsD,Act.put,actL,h0,h1,h2,h3,h4,h5,h6,h7,h8,h10]
   clear h0 h1 h2 h3 h4 h5 h6 h7 h8 h9 h10 h11
   clear hB
   have HG7:=Lib.hid (GrowX.of_growC hg (Y:=fun k=>k=g6) (fun k o hk=>by obtain⟨j,_,hw⟩:=hk;simp only[WSLg7]at hw;rcases hw with h|h<;>exact h.2.1))
   have HB7:Hid (Below Gr wr z7):=Lib.hid (HB6.out.trans (HG7.out.below (fun k hk=>⟨by omega,fun e=>by omega⟩)))
   have bx7:=bx6.growx HG7.out (fun e=>by omega)
   have x0:=bx7.cell 0 _ rfl
   have xl:=bx7.lt
   have yc0:=br.cell 0 _ rfl
   have yc1:=br.cell 1 _ rfl
   have yc2:=br.cell 2 _ rfl
   have yc3:=br.cell 3 _ rfl
   have yc4:=br.cell 4 _ rfl
   have yc5:=br.cell 5 _ rfl
   have yc6:=br.cell 6 _ rfl
   have yc7:=br.cell 7 _ rfl
   have yc8:=br.cell 8 _ rfl
   have yc9:=br.cell 9 _ rfl
   have yc10:=br.cell 10 _ rfl
   have ycl:=br.lt
   have HS37:=Lib.hid (HS3.out.grow HG7.out (fun q hq e=>by have:=br.lt;have:=HGG.out;omega))
   have HS77:=Lib.hid (HS7.out.grow HG7.out (fun q hq e=>by have:=br.lt;have:=HGG.out;omega))
   have HZ7:Hid (z6.heap.size≤z7.heap.size):=Lib.hid HG7.out.size
   have hlen:=HMAP.out
   have hln:EL'.length=k:=by
    have h1:=congrArg List.length hlen
    rw[List.length_map,List.length_map,List.length_take,HNN.out]at h1
    omega
   have hrow7:=(HLN.out.below0 (HGr.out▸HB7.out)).row
   clear hlen HS3 HS7 bx6 hsz
   obtain⟨lsn,hls⟩:∃x,e.lsn=x:=⟨_,rfl⟩
   rw[hls]at x0
   have HLS:=Lib.hid hls
   have hwz:w.heap.size≤z7.heap.size:=by have:=HB.out.size;have:=HB7.out.size;have:=HGr.out;omega
   rw[hln]at hrow7
   have HROW:=Lib.hid hrow7
   have HLNN:=Lib.hid hln
   clear hrow7 hln hls
   go_wp2_with (at_builtin;refine wpList_append_any linesOf (.tmp 38) (.tmp 43) rfl rfl rfl (HROW.out.alloc _) rfl (Reads.lit rfl rfl (Nat.le_refl _) rfl) (by intro u hu;simp at hu;rcases hu with rfl|rfl|rfl|rfl|rfl|rfl|rfl|rfl|rfl|rfl|rfl|rfl<;>rfl) (by omega) (by omega) (by simp;omega) ?_;intro ob cq wq ho2 hg2 hn2)
   have HO2:=Lib.hid ho2
   have HG2:=Lib.hid hg2
   have HN2:=Lib.hid hn2
   clear ho2 hg2 hn2
   go_wp2_with fail
   go_roundw
   ·have hal:=(Below.refl z7.heap.size z7).alloc (Nat.le_refl _) (.cells #[.int .i64 (lsn:Nat),.int .i64 (rr.kind:Nat),.int .i64 (rr.txn:Nat),.int .i64 (rr.prev:Nat),.int .i64 (rr.next:Nat),.int .i64 (rr.page:Nat),.int .i64 (rr.off:Nat),.slice a3 nb nb,.slice a7 na na,.slice none 0 0,.slice none 0 0,.int .i64 (rr.count:Nat)] 87)
    have hul:∀q,u3.ownBlock=some q→w.heap.size≤q∧q<Gr:=fun q hq=>by have:=HLN.out.row.lt q hq;have:=HGr.out;omega
    have hz:=HGG.out
    have hz2:=HGZ.out
    have hz3:=HZ7.out
    have hz4:Gr≤y6.heap.size:=by have:=HB2.out.size;have:=HGr.out;omega
    have hq1:z7.heap.size≤wq.heap.size:=by have h1:=HG2.out.size;simp at h1;omega
    have hKo:∀q,K' q→w.heap.size≤q∧q<Gr:=fun q hq=>by have:=HK.out q hq;have:=HGr.out;omega
    have oldS:∀(l:List UInt8)(v:Value),SecAt wr K' l v→SecAt wq (fun q=>K' q∨(Gr≤q∧q<z7.heap.size)) l v:=fun l v hs=>
     ((((hs.grow (X:=fun _=>False) (grow_below (HGr.out▸HB7.out)) (fun _ _ h=>h)).grow (X:=fun _=>False) (grow_below hal) (fun _ _ h=>h)).grow HG2.out (fun q hq e=>HDJ.out q hq e)).mono (fun q hq=>.inl hq))
    have newS:∀(l:List UInt8)(v:Value),SecAt z7 (fun q=>y6.heap.size≤q∧q<z6.heap.size) l v→SecAt wq (fun q=>K' q∨(Gr≤q∧q<z7.heap.size)) l v:=fun l v hs=>
     (((hs.grow (X:=fun _=>False) (grow_below hal) (fun _ _ h=>h)).grow HG2.out (fun q hq e=>by have:=hul q e;omega)).mono (fun q hq=>.inr ⟨by omega,by omega⟩))
    refine⟨k+1,EL'++[⟨lsn,rr,.slice a3 nb nb,.slice a7 na na⟩],fun q=>K' q∨(Gr≤q∧q<z7.heap.size),by omega,by go_num,⟨?_,?_,?_⟩,?_,?_,?_,?_⟩
    ·rw[List.length_append,HLNN.out,lcells_append]
     exact HO2.out
    ·intro x hx
     rcases List.mem_append.1 hx with hx|hx
     ·exact⟨oldS _ _ (HLN.out.tb x hx).1,oldS _ _ (HLN.out.tb x hx).2⟩
     ·rw[List.mem_singleton.1 hx]
      exact⟨newS _ _ HS37.out,newS _ _ HS77.out⟩
    ·intro x hx
     rcases List.mem_append.1 hx with hx|hx
     ·exact HLN.out.sm x hx
     ·rw[List.mem_singleton.1 hx,←HLS.out,←hrr]
      exact HSM.out
    ·rw[List.map_append,HMAP.out,List.take_add_one,HE.out,List.map_append,←HLS.out,←hrr]
     rfl
    ·rintro q (hq|hq)
     ·have:=hKo q hq;omega
     ·have:=HB.out.size;have:=HGr.out;omega
    ·rintro q (hq|hq) hs
     ·rcases HN2.out q hs with h|h
      ·exact HDJ.out q hq h
      ·have:=hKo q hq;simp at h;omega
     ·rcases HN2.out q hs with h|h
      ·have:=hul q h;omega
      ·simp at h;omega
    ·have h1:Below w.heap.size w z7:=HB.out.trans (HB7.out.mono (by have:=HB.out.size;have:=HGr.out;omega))
     have h2:=h1.trans (hal.mono hwz)
     exact h2.trans (HG2.out.below (fun q hq=>⟨by simp;omega,fun e=>by have:=hul q e;omega⟩))
   ·simp[intOf];omega
  ·obtain rfl:k=n:=by omega
   have hlk:EL'.length=k:=by
    have h1:=congrArg List.length hmap
    rw[List.length_map,List.length_map,List.length_take,HNN.out]at h1
    omega
   have hrow:=hln.row
   rw[hlk]at hrow
   obtain⟨ob,cq,rfl⟩:=own_shape hrow
   have hrd:=Reads.of_own hrow
   have hcq:k≤cq:=by
    obtain⟨_,_,e1,_,e3,_⟩:=hrd
    injection e1 with _ _ e4
    omega
   have hml:EL'.map (fun e=>(e.lsn,e.r))=σ.lines:=by rw[hmap,←HNN.out,List.take_length,HLI.out]
   have HLN:=Lib.hid hln
   have HML:=Lib.hid hml
   have HRD:=Lib.hid (reads_cap hrd (Nat.le_refl k))
   have HLK:=Lib.hid hlk
   have HK:=Lib.hid hK
   have HB:=Lib.hid hbl
   clear hln hmap hK hdj hbl hrow hrd hml hlk
   go_wp2_with fail
   refine(clipL_any ob k cq wr hcq).mono ?_
   rintro er y ⟨rfl,rfl⟩
   go_wp2_with fail
   go_ret
   refine⟨_,EL',K',rfl,?_,fun x hx=>⟨HLN.out.tb x hx,HLN.out.sm x hx⟩,HML.out,HK.out,HB.out⟩
   have h1:σ.lines.length=k:=by rw[←HML.out,List.length_map,HLK.out]
   rw[h1]
   exact HRD.out
end
end
end Go.Proofs.YtpajagkhmodbnaaGreat

/- Pk: texts of the store seat laid together by program: SvCopy SvApply SvOf SvRes SvRoom SvTx SvBegin SvBusy SvWKit SvWrite SvRead SvStep SvDel. Conditions: each theorem names its own. -/
import Derived.Test.YtpajagkhmodbnaaGreatPk21
import Derived.Test.YtpajagkhmodbnaaGreatPk15
import Derived.Test.YtpajagkhmodbnaaGreatPk22
import Derived.Deep.QuietTactic
import Derived.BigQuiet
namespace Go.Proofs.YtpajagkhmodbnaaGreat
set_option linter.unusedSimpArgs false
set_option linter.unusedVariables false
section
open Go.RowKit
theorem overB_length(b:List UInt8)(off:Nat)(x:List UInt8)(h:off≤b.length):(overB b off x).length=b.length:=by
 unfold overB
 simp only[List.length_append,List.length_take,List.length_drop]
 omega
theorem wpList_copy_in{w:World}{ops:Array Oper}{rest:List Oper}{o:Oper}{a:Act}{Q:Exit→Act→World→Prop}(hgd:o.guard=none)(d s:Operand)
  (ho:o.op=.call { callee:=.builtin .copy,args:=#[d,s],argTypes:=#[48,48] })
  {base:Nat} {v:Value} {n off:Nat} {xs ys:List UInt8} (hown:w.ownsRow base 5 1 v n (xs.map B)) (ho2:off≤n)
  (dp:Option Addr) (dc:Nat) (hd:a.eval d=.slice dp (n-off) dc) (hdp:off<n→∀g,v.ownBlock=some g→dp=some ⟨g,off,none⟩)
  {sp:Option Addr} {sn sc:Nat} (hs:a.eval s=.slice sp sn sc) (hv:Reads 1 w (.slice sp sn sc) sn (ys.map B))
  (h:∀w' k,w'.ownsRow base 5 1 v n ((overB xs off ys).map B)→GrowX (fun b=>v.ownBlock=some b) w w'→wpList Tryz.prog ops Q rest (a.put o.dst (goInt k)) w'):wpList Tryz.prog ops Q (o::rest) a w:=by
 have hxl:xs.length=n:=by have:=hown.1;rw[List.length_map]at this;omega
 obtain⟨ao2,c2,hse,hyl,hsc,hyr⟩:=hv
 injection hse with e1 e2 e3
 subst e1 e3
 have hyl2:ys.length=sn:=by rw[List.length_map]at hyl;omega
 by_cases h0:sn=0∨n-off=0
 ·refine wpList_copy_nothing hgd d s 48 48 ho 5 Tryz.underlying48 (by kernel_rfl) dp sp (n-off) dc sn sc hd hs (by rcases h0 with h0|h0<;>simp[h0]) (h w 0 ?_ (GrowX.refl w))
  have e:overB xs off ys=xs:=by
   unfold overB
   rcases h0 with h0|h0
   ·rw[show ys=[] from List.eq_nil_of_length_eq_zero (by omega)];simp
   ·rw[show xs.length-off=0 by omega,List.take_of_length_le (by omega),List.drop_eq_nil_of_le (by omega)];simp
  rw[e];exact hown
 ·have hsn:0<sn:=by omega
  have hno:off<n:=by omega
  obtain⟨b,of,rfl,hbl,hcell⟩:=hyr hsn
  rcases hown.2 with ⟨_,hn0⟩|⟨g,cap,cur,rfl,hb,hg,hnc,hcm,hcs,ht⟩
  ·omega
  ·have hdp2:=hdp hno g rfl
   subst hdp2
   obtain⟨mn,hmn2,hm3,hm4⟩:∃m,Nat.min sn (n-off)=m∧(m=sn∧sn≤n-off∨m=n-off∧n-off≤sn)∧m≤n-off:=by
    rcases Nat.le_total sn (n-off)with h|h
    ·exact⟨sn,Nat.min_eq_left h,.inl ⟨rfl,h⟩,h⟩
    ·exact⟨n-off,Nat.min_eq_right h,.inr ⟨rfl,h⟩,Nat.le_refl _⟩
   have hml:((ys.map B).take (n-off)).length=mn:=by rw[←hmn2,List.length_take,List.length_map,hyl2];exact Nat.min_comm _ _
   have hcl:cur.toList.length=cap*1:=by rw[Array.length_toList];exact hcs
   refine wpList_copy_own hgd d s 48 48 ho 5 Tryz.underlying48 (by kernel_rfl) g off (n-off) dc ⟨b,of,none⟩ sn sc hd hs cur 5 hg ((ys.map B).take (n-off)) (hml.trans hmn2.symm) (fun j u hu=>by rw[Addr.add_lit];refine hcell j u ?_;rw[List.getElem?_take]at hu;split at hu;exact hu;cases hu) (by rw[hml,←Array.length_toList,hcl];omega) (fun u hu=>Bs_one ys u (List.mem_of_mem_take hu)) ?_
   refine h _ _ ⟨?_,.inr ⟨g,cap,_,rfl,hb,setRow_heap w g _ _ _ _ hg,hnc,hcm,?_,?_⟩⟩ ⟨rfl,rfl,rfl,by simp[World.setRow],fun k hk hx=>setRow_other w g k _ (fun e=>hx (by subst e;rfl))⟩
   ·rw[List.length_map,overB_length _ _ _ (by omega)];omega
   ·simp only[List.size_toArray,List.length_append,hml,List.length_take,List.length_drop,hcl]
    rw[Nat.min_eq_left (by omega)]
    omega
   ·have e3:cur.toList.take n=xs.map B:=by rw[←ht,Nat.mul_one]
    have e4:(cur.toList.take off)=(xs.map B).take off:=by rw[←e3,List.take_take];congr 1;omega
    show List.take (n*1) (List.take off cur.toList++((ys.map B).take (n-off)++cur.toList.drop (off+((ys.map B).take (n-off)).length)))=_
    have l1:((xs.map B).take off).length=off:=by rw[List.length_take,List.length_map];omega
    have t1:List.take n ((xs.map B).take off)=(xs.map B).take off:=List.take_of_length_le (by rw[l1];omega)
    have t2:List.take (n-off) ((ys.map B).take (n-off))=(ys.map B).take (n-off):=by rw[List.take_take,Nat.min_self]
    have t3:List.take (n-off-mn) (cur.toList.drop (off+mn))=(xs.map B).drop (off+sn):=by
     rw[List.take_drop,show off+mn+(n-off-mn)=n by omega,e3]
     rcases hm3 with ⟨e,_⟩|⟨e,_⟩
     ·rw[e]
     ·rw[List.drop_eq_nil_of_le (by rw[List.length_map];omega),List.drop_eq_nil_of_le (by rw[List.length_map];omega)]
    rw[Nat.mul_one,e4,List.take_append,t1,l1,List.take_append,t2,hml,t3]
    unfold overB
    rw[List.map_append,List.map_append,List.map_take,List.map_take,List.map_drop,hxl,hyl2,List.append_assoc]
end
section
open Go.RowKit
theorem own_slice{w:World}{base e K n:Nat}{v:Value}{xs:List Value}(h:w.ownsRow base e K v n xs)(hn:0<n):∃g c,v=.slice (some ⟨g,0,none⟩) n c∧base≤g∧n≤c:=by
 rcases h.2 with ⟨rfl,h0⟩|⟨g,cap,cur,rfl,hb,_,hnc,_⟩
 ·omega
 ·exact⟨g,cap,rfl,hb,hnc⟩
section
variable{W0 w w':World}{A:Adr}{c:Cf}{σ:St}{S:Nat→Prop}{vl vo:Value}{EL:List Le}{EO:List Te}{K S1:Nat→Prop}{X:Nat→Prop}
theorem sget_ok(h:SvAt W0 w A c σ vl vo EL EO K S1)(q:Nat)(hq:q<c.pg)(hwr:σ.p.wr+1≤1000000000):
  Calls Tryz.prog 64 #[.pointer (some ⟨A.g,0,none⟩),.int .i64 (q:Nat)] w fun e w'=>∃g k S1',e=.returned (.tuple #[.slice (some ⟨g,0,none⟩) 512 k,.int .i64 0])∧
   w'.ownsRow w.heap.size 5 1 (.slice (some ⟨g,0,none⟩) 512 k) 512 ((σ.get c q).2.1.map B)∧w.heap.size≤g∧512≤k∧¬S1' g∧
   SvAt W0 w' A c (σ.get c q).2.2 vl vo EL EO K S1'∧Foot S1 S1' w w':=by
 have h0:=(σ.get_ok c q hq).1
 refine(sget_at h q hq hwr).mono ?_
 rintro e w' ⟨v,S1',h1,h2,h3,h4,h5,h6⟩
 rw[h0]at h1
 obtain⟨g,k,rfl,hb,hk⟩:=own_slice (h2 h0).1 (by omega)
 exact⟨g,k,S1',h1,(h2 h0).1,hb,hk,h4 g rfl,h5,h6⟩
theorem sput_ok(h:SvAt W0 w A c σ vl vo EL EO K S1)(q:Nat)(hq:q<c.pg)(b:List UInt8)(hb:b.length=512)(l:Nat)(hl:1≤l)(v:Value)(hv:Reads 1 w v 512 (b.map B))(hsl:∀k,v.ownBlock=some k→¬S1 k)(hwr:σ.p.wr+1≤1000000000):
  Calls Tryz.prog 69 #[.pointer (some ⟨A.g,0,none⟩),.int .i64 (q:Nat),v,.int .i64 (l:Nat)] w fun e w'=>∃S1',e=.returned (.int .i64 0)∧SvAt W0 w' A c (σ.put c q b l).2 vl vo EL EO K S1'∧Foot S1 S1' w w':=by
 refine(sput_at h q hq b hb l hl v hv hsl hwr).mono ?_
 rintro e w' ⟨S1',h1,h2,h3⟩
 rw[(σ.put_ok c q hq b hb l hl).1]at h1
 exact⟨S1',h1,h2,h3⟩
theorem SvAt.own{g:Nat}(h:SvAt W0 w A c σ vl vo EL EO K S1)(hg:GrowX (fun b=>b=g) w w')(hn:¬sfoot S1 vl vo EO K g)(hw:W0.heap.size≤g):SvAt W0 w' A c σ vl vo EL EO K S1:=
 h.grow hg (fun k h1 h2=>hn (h2▸h1)) (h.bel.trans (hg.below (fun k hk=>⟨Nat.lt_of_lt_of_le hk h.bel.size,by omega⟩)))
theorem St.apply_eq(σ:St)(c:Cf)(r:Rc)(l:Nat)(hp:r.page<c.pg):(σ.apply c r l)=((σ.get c r.page).2.2.put c r.page (overB (overB (σ.get c r.page).2.1 0 (be8 l)) (8+r.off) r.after) l):=by
 unfold St.apply
 simp only[]
 rw[if_pos (σ.get_ok c r.page hp).1]
theorem SvAt.stay{w2:World}(h:SvAt W0 w A c σ vl vo EL EO K S1)(hg:GrowX (fun _=>False) w w2):SvAt W0 w2 A c σ vl vo EL EO K S1:=h.below (hg.below (fun k hk=>⟨hk,fun h=>h⟩))
end
def WSAp1(W0 ws:World)(A:Adr)(c:Cf)(σ:St)(vl vo:Value)(EL:List Le)(EO:List Te)(K S1:Nat→Prop)(r:Rc)(ab aa:Option Addr)(nb cb na ca t1 G:Nat)(j b:Nat):Prop:=(j=6∧S1 b)
def PSAp1(W0 ws:World)(A:Adr)(c:Cf)(σ:St)(vl vo:Value)(EL:List Le)(EO:List Te)(K S1:Nat→Prop)(r:Rc)(ab aa:Option Addr)(nb cb na ca t1 G:Nat)(i:Nat)(VS:Nat→Value)(LO HI:Nat→Nat)(v:Value)(lo hi:Nat)(w:World):Prop:=
 match i with
 | 0=>v=.pointer (some ⟨A.sb,0,none⟩)
 | 1=>v=.pointer (some ⟨A.sb,0,none⟩)
 | 2=>v=.pointer (some ⟨A.sb,3,none⟩)
 | 3=>v=.pointer (some ⟨A.g,0,none⟩)
 | 4=>v=.pointer (some ⟨t1,4,none⟩)
 | 5=>v=.int .i64 (r.page:Nat)
 | 6=>∃g k S1',v=.tuple #[.slice (some ⟨g,0,none⟩) 512 k,.int .i64 0]∧w.ownsRow G 5 1 (.slice (some ⟨g,0,none⟩) 512 k) 512 ((σ.get c r.page).2.1.map B)∧G≤g∧512≤k∧¬S1' g∧SvAt W0 w A c (σ.get c r.page).2.2 vl vo EL EO K S1'∧Foot S1 S1' ws w
 | 7=>v=VS 6
 | 8=>∃g k,VS 6=.tuple #[.slice (some ⟨g,0,none⟩) 512 k,.int .i64 0]∧v=.slice (some ⟨g,0,none⟩) 512 k
 | 9=>v=.int .i64 0
 | 10=>v=VS 8
 | 11=>v=.int .i64 0
 | _=>True
abbrev bSAp1:List (List Nat):=[[],[0],[0,1],[0,1,2],[],[4],[0,1,2,3,4,5],[0,1,2,3,4,5,6],[0,1,2,3,4,5,6,7],[0,1,2,3,4,5,6,7],[0,1,2,3,4,5,6,7,8],[0,1,2,3,4,5,6,7,8,9,10]]
theorem PSAp1_stable(W0 ws:World)(A:Adr)(c:Cf)(σ:St)(vl vo:Value)(EL:List Le)(EO:List Te)(K S1:Nat→Prop)(r:Rc)(ab aa:Option Addr)(nb cb na ca t1 G:Nat)  : ∀i j,i<12→j<12→j≠i→j∉bSAp1.getD i []→(i,j)∉([]:List (Nat×Nat))→∀VS LO HI v lo hi w w',PSAp1 W0 ws A c σ vl vo EL EO K S1 r ab aa nb cb na ca t1 G i VS LO HI v lo hi w→GrowX (WSAp1 W0 ws A c σ vl vo EL EO K S1 r ab aa nb cb na ca t1 G j) w w'→PSAp1 W0 ws A c σ vl vo EL EO K S1 r ab aa nb cb na ca t1 G i VS LO HI v lo hi w':=by
 intro i j hi hj hne hbs hx VS LO HI v lo hj2 w w' h hg
 match i,hi with
 | 0,_|1,_|2,_|3,_|4,_|5,_|7,_|8,_|9,_|10,_|11,_=>
  simp only[PSAp1]at h⊢
  exact h
 | 6,_=>
  simp only[PSAp1]at h⊢
  obtain⟨g,k,S2,h1,h2,h3,h4,h5,h6,h7⟩:=h
  have hgx:GrowX (fun _=>False) w w':=hg.mono (fun b hb=>hne hb.1)
  exact⟨g,k,S2,h1,own_growx h2 hgx (fun _ _ h=>h),h3,h4,h5,h6.stay hgx,h7.trans (Foot.below hgx)⟩
 | (q+12),hq=>exact absurd hq (by omega)
theorem PSAp1_cong(W0 ws:World)(A:Adr)(c:Cf)(σ:St)(vl vo:Value)(EL:List Le)(EO:List Te)(K S1:Nat→Prop)(r:Rc)(ab aa:Option Addr)(nb cb na ca t1 G:Nat):∀i,i<12→∀VS VS' LO LO' HI HI' v lz hz w,(∀j∈bSAp1.getD i [],VS j=VS' j∧LO j=LO' j∧HI j=HI' j)→PSAp1 W0 ws A c σ vl vo EL EO K S1 r ab aa nb cb na ca t1 G i VS LO HI v lz hz w→PSAp1 W0 ws A c σ vl vo EL EO K S1 r ab aa nb cb na ca t1 G i VS' LO' HI' v lz hz w:=by
 intro i hi VS VS' LO LO' HI HI' v lz hz w he h
 match i,hi with
 | 0,_|1,_|2,_|3,_|4,_|5,_|6,_|9,_|11,_=>
  simp only[PSAp1]at h⊢
  exact h
 | 7,_|8,_=>
  simp only[PSAp1]at h⊢
  obtain⟨e6a,e6b,e6c⟩:=he 6 (by decide)
  simp only[←e6a,←e6b,←e6c]
  exact h
 | 10,_=>
  simp only[PSAp1]at h⊢
  obtain⟨e8a,e8b,e8c⟩:=he 8 (by decide)
  simp only[←e8a,←e8b,←e8c]
  exact h
 | (q+12),hq=>exact absurd hq (by omega)
def WSAp4(r:Rc)(ab aa:Option Addr)(nb cb na ca t1 g k:Nat)(j b o:Nat):Prop:=False
def PSAp4(r:Rc)(ab aa:Option Addr)(nb cb na ca t1 g k:Nat)(i:Nat)(v:Value)(lo hi:Nat)(w:World):Prop:=
 match i with
 | 0=>v=.slice (some ⟨g,0,none⟩) 512 k
 | 1=>v=.pointer (some ⟨t1,5,none⟩)
 | 2=>v=.int .i64 (r.off:Nat)
 | 3=>v=.int .i64 ((8+r.off:Nat):Int)
 | 4=>v=.slice (cutA (some ⟨g,0,none⟩) (8+r.off) k 1) (512-(8+r.off)) (k-(8+r.off))
 | 5=>v=.pointer (some ⟨t1,7,none⟩)
 | 6=>v=.slice aa na ca
 | _=>True
theorem PSAp4_stable(r:Rc)(ab aa:Option Addr)(nb cb na ca t1 g k:Nat)  : ∀i j,i<7→j<7→j≠i→j∉([[],[],[1],[1,2],[0,1,2,3],[],[5]]:List (List Nat)).getD i []→∀v lo hi w w',PSAp4 r ab aa nb cb na ca t1 g k i v lo hi w→GrowC (WSAp4 r ab aa nb cb na ca t1 g k j) w w'→PSAp4 r ab aa nb cb na ca t1 g k i v lo hi w':=by
 intro i j hi hj hne hbs v lo hj2 w w' h hg
 match i,hi with
 | 0,_|1,_|2,_|3,_|4,_|5,_|6,_=>
  simp only[PSAp4]at h⊢
  exact h
 | (q+7),hq=>exact absurd hq (by omega)
def WSAp5(A:Adr)(σ:St)(vl vo:Value)(r:Rc)(ab aa:Option Addr)(nb cb na ca t1 g k l:Nat)(j b o:Nat):Prop:=False
def PSAp5(A:Adr)(σ:St)(vl vo:Value)(r:Rc)(ab aa:Option Addr)(nb cb na ca t1 g k l:Nat)(i:Nat)(v:Value)(lo hi:Nat)(w:World):Prop:=
 match i with
 | 0=>v=.pointer (some ⟨A.sb,0,none⟩)
 | 1=>v=.pointer (some ⟨A.sb,0,none⟩)
 | 2=>v=.pointer (some ⟨A.sb,3,none⟩)
 | 3=>v=.pointer (some ⟨A.g,0,none⟩)
 | 4=>v=.pointer (some ⟨t1,4,none⟩)
 | 5=>v=.int .i64 (r.page:Nat)
 | 6=>v=.slice (some ⟨g,0,none⟩) 512 k
 | 7=>v=.int .i64 ((l:Nat):Int)
 | _=>True
theorem PSAp5_stable(A:Adr)(σ:St)(vl vo:Value)(r:Rc)(ab aa:Option Addr)(nb cb na ca t1 g k l:Nat)  : ∀i j,i<8→j<8→j≠i→j∉([[],[0],[0,1],[0,1,2],[],[4],[],[]]:List (List Nat)).getD i []→∀v lo hi w w',PSAp5 A σ vl vo r ab aa nb cb na ca t1 g k l i v lo hi w→GrowC (WSAp5 A σ vl vo r ab aa nb cb na ca t1 g k l j) w w'→PSAp5 A σ vl vo r ab aa nb cb na ca t1 g k l i v lo hi w':=by
 intro i j hi hj hne hbs v lo hj2 w w' h hg
 match i,hi with
 | 0,_|1,_|2,_|3,_|4,_|5,_|6,_|7,_=>
  simp only[PSAp5]at h⊢
  exact h
 | (q+8),hq=>exact absurd hq (by omega)
section
variable{W0 w w':World}{A:Adr}{c:Cf}{σ:St}{S:Nat→Prop}{vl vo:Value}{EL:List Le}{EO:List Te}{K S1:Nat→Prop}{X:Nat→Prop}
set_option maxRecDepth 100000 in
set_option maxHeartbeats 6400000 in
theorem apply_at(h:SvAt W0 w A c σ vl vo EL EO K S1)(r:Rc)(ab aa:Option Addr)(nb cb na ca:Nat)(hna:r.after.length=na)(hra:Reads 1 w (.slice aa na ca) na (r.after.map B))(hrs:∀q,(Value.slice aa na ca).ownBlock=some q→¬S1 q∧q<w.heap.size)(hp:r.page<c.pg)(ho:r.off+na≤504)(l:Nat)(hl:1≤l)(hl2:l≤4611686018427387904)(hwr:σ.p.wr+2≤1000000000):
  Calls Tryz.prog 103 #[.pointer (some ⟨A.sb,0,none⟩),.agg (recC r ab aa nb cb na ca),.int .i64 (l:Nat)] w fun e w'=>∃S1',e=.returned (.int .i64 0)∧SvAt W0 w' A c (σ.apply c r l).2 vl vo EL EO K S1'∧Foot S1 S1' w w':=by
 have hal:Below w.heap.size w (w.alloc (.cells (recC r ab aa nb cb na ca) 85)):=(Below.refl _ _).alloc (Nat.le_refl _) _
 have hsv1:=h.below hal
 have hbx:=Box.new w (recC r ab aa nb cb na ca) 85 rfl
 have hra1:Reads 1 (w.alloc (.cells (recC r ab aa nb cb na ca) 85)) (.slice aa na ca) na (r.after.map B):=hra.below hal (Nat.le_refl _)
 obtain⟨t1,ht1⟩:∃x,w.heap.size=x:=⟨_,rfl⟩
 have HAL0:=Lib.hid hal
 have hn1:¬S1 t1:=fun hk=>by have:=(h.lt t1 (.inl hk)).2;omega
 have HN1:=Lib.hid hn1
 have HRS:=Lib.hid hrs
 have HP:=Lib.hid hp
 have HO:=Lib.hid ho
 have HL:=Lib.hid hl
 have HL2:=Lib.hid hl2
 have HWR:=Lib.hid hwr
 have HNA:=Lib.hid hna
 have HT1:=Lib.hid ht1
 have HEX:=Lib.hid h.sbS
 clear hra h hal hna hrs hp ho hl hl2 hwr hn1
 go_enter Tryz.func103,Tryz.ntmps103
 go_upto_region 1 with (fail)
 rw[ht1]at hbx
 try rw[ht1]
 generalize w.alloc (.cells (recC r ab aa nb cb na ca) 85)=w1 at *
 have hsw1:w1.heap.size=t1+1∨True:=.inr trivial
 have bt:Box w1 t1 [.int .i64 (r.kind:Nat),.int .i64 (r.txn:Nat),.int .i64 (r.prev:Nat),.int .i64 (r.next:Nat),.int .i64 (r.page:Nat),.int .i64 (r.off:Nat),.slice ab nb cb,.slice aa na ca,.slice none 0 0,.slice none 0 0,.int .i64 (r.count:Nat)]:=hbx
 have HT1L:=Lib.hid bt.lt
 have bs:Box w1 A.sb [.pointer (some ⟨A.d,0,none⟩),.pointer (some ⟨A.r,0,none⟩),.pointer (some ⟨A.f,0,none⟩),.pointer (some ⟨A.g,0,none⟩),vl,vo,.int .i64 (σ.master:Nat),.int .i64 (σ.next:Nat),.int .i64 (σ.commits:Nat),.bool false,.int .i64 (σ.redone:Nat),.int .i64 (σ.undone:Nat)]:=hsv1.sbx
 have HS1:=Lib.hid hsv1
 have HR1:=Lib.hid hra1
 have hB:Below 0 w1 w1:=Below.refl _ _
 clear hbx hsv1 hra1 hsw1
 refine wp_region_partsDVK (WSAp1 W0 w1 A c σ vl vo EL EO K S1 r ab aa nb cb na ca t1 (w1.heap.size)) 12 bSAp1 [some 10,some 11,some 12,some 13,some 14,some 15,some 16,some 9,some 17,some 18,some 7,some 8] [[],[0],[1],[2],[],[4],[3,5],[6],[6,7],[6,7],[8],[9]] [0,1,2,3,4,5,6,7,8,9,10,11] [] (by decide) (by kernel_rfl) (by kernel_rfl) rfl (PSAp1 W0 w1 A c σ vl vo EL EO K S1 r ab aa nb cb na ca t1 (w1.heap.size)) (PSAp1_cong W0 w1 A c σ vl vo EL EO K S1 r ab aa nb cb na ca t1 (w1.heap.size)) (PSAp1_stable W0 w1 A c σ vl vo EL EO K S1 r ab aa nb cb na ca t1 (w1.heap.size)) ?pSAp1 ?_
 case pSAp1=>
  intro i hi o ho vs lo hx_ w' hg hp hdd
  match i,hi with
  | 0,_|4,_=>
   obtain rfl:=Option.some.inj ho
   clear ho
   simp only[actsD,Act.put,actL]
   have hsz:=hg.size
   go_wp2
   exact⟨_,rfl,GrowX.refl _,rfl⟩
  | 1,_=>
   obtain rfl:=Option.some.inj ho
   clear ho
   simp only[actsD,Act.put,actL]
   obtain⟨_,_,_,h0⟩:=hp 0 (by simp)
   simp only[PSAp1]at h0
   have hsz:=hg.size
   rw[h0]
   go_wp2
   exact⟨_,rfl,GrowX.refl _,rfl⟩
  | 2,_=>
   obtain rfl:=Option.some.inj ho
   clear ho
   simp only[actsD,Act.put,actL]
   obtain⟨_,_,_,h1⟩:=hp 1 (by simp)
   simp only[PSAp1]at h1
   have hsz:=hg.size
   rw[h1]
   go_wp2
   exact⟨_,rfl,GrowX.refl _,rfl⟩
  | 3,_=>
   obtain rfl:=Option.some.inj ho
   clear ho
   simp only[actsD,Act.put,actL]
   obtain⟨_,_,_,h2⟩:=hp 2 (by simp)
   simp only[PSAp1]at h2
   have hsz:=hg.size
   rw[h2]
   have e0:=(bs.growx hg (by rintro⟨j,_,hne,hb,hw⟩;simp only[WSAp1]at hw;obtain⟨rfl,hw⟩:=hw;first|exact hb (by decide)|exact hne rfl)).cell 3 _ rfl
   go_wp2
   exact⟨_,rfl,GrowX.refl _,rfl⟩
  | 5,_=>
   obtain rfl:=Option.some.inj ho
   clear ho
   simp only[actsD,Act.put,actL]
   obtain⟨_,_,_,h4⟩:=hp 4 (by simp)
   simp only[PSAp1]at h4
   have hsz:=hg.size
   rw[h4]
   have e0:=(bt.growx hg (by rintro⟨j,_,hne,hb,hw⟩;simp only[WSAp1]at hw;obtain⟨rfl,hw⟩:=hw;first|exact hb (by decide)|exact hne rfl)).cell 4 _ rfl
   go_wp2
   exact⟨_,rfl,GrowX.refl _,rfl⟩
  | 6,_=>
   obtain rfl:=Option.some.inj ho
   clear ho
   simp only[actsD,Act.put,actL]
   obtain⟨_,_,_,h3⟩:=hp 3 (by simp)
   simp only[PSAp1]at h3
   obtain⟨_,_,_,h5⟩:=hp 5 (by simp)
   simp only[PSAp1]at h5
   have hsz:=hg.size
   rw[h3,h5]
   have hgx:GrowX (fun _=>False) w1 w':=hg.mono (fun b ⟨j,_,hne,_,hw⟩=>hne hw.1)
   have hsv:=HS1.out.stay hgx
   have hcall:=sget_ok hsv r.page HP.out (by have:=HWR.out;omega)
   have HCA:=Lib.hid hcall
   clear hcall hsv
   go_wp2_with fail
   refine HCA.out.mono ?_
   rintro e y ⟨g,k,S2,rfl,h2,h3,h4,h5,h6,h7⟩
   go_wp2
   exact⟨_,rfl,h7.grow.mono (fun b h=>⟨rfl,h⟩),g,k,S2,rfl,own_base h2 hgx.size,Nat.le_trans hgx.size h3,h4,h5,h6,(Foot.below hgx).trans h7⟩
  | 7,_=>
   obtain rfl:=Option.some.inj ho
   clear ho
   simp only[actsD,Act.put,actL]
   obtain⟨_,_,_,h6⟩:=hp 6 (by simp)
   simp only[PSAp1]at h6
   have hsz:=hg.size
   go_wp2
   exact⟨_,rfl,GrowX.refl _,rfl⟩
  | 8,_=>
   obtain rfl:=Option.some.inj ho
   clear ho
   simp only[actsD,Act.put,actL]
   obtain⟨_,_,_,h6⟩:=hp 6 (by simp)
   simp only[PSAp1]at h6
   obtain⟨_,_,_,h7⟩:=hp 7 (by simp)
   simp only[PSAp1]at h7
   have hsz:=hg.size
   obtain⟨g,k,S2,e6,_⟩:=h6
   rw[h7,e6]
   go_wp2
   exact⟨_,rfl,GrowX.refl _,g,k,e6,rfl⟩
  | 9,_=>
   obtain rfl:=Option.some.inj ho
   clear ho
   simp only[actsD,Act.put,actL]
   obtain⟨_,_,_,h6⟩:=hp 6 (by simp)
   simp only[PSAp1]at h6
   obtain⟨_,_,_,h7⟩:=hp 7 (by simp)
   simp only[PSAp1]at h7
   have hsz:=hg.size
   obtain⟨g,k,S2,e6,_⟩:=h6
   rw[h7,e6]
   go_wp2
   exact⟨_,rfl,GrowX.refl _,rfl⟩
  | 10,_=>
   obtain rfl:=Option.some.inj ho
   clear ho
   simp only[actsD,Act.put,actL]
   obtain⟨_,_,_,h8⟩:=hp 8 (by simp)
   simp only[PSAp1]at h8
   have hsz:=hg.size
   go_wp2
   exact⟨_,rfl,GrowX.refl _,rfl⟩
  | 11,_=>
   obtain rfl:=Option.some.inj ho
   clear ho
   simp only[actsD,Act.put,actL]
   obtain⟨_,_,_,h9⟩:=hp 9 (by simp)
   simp only[PSAp1]at h9
   have hsz:=hg.size
   rw[h9]
   go_wp2
   exact⟨_,rfl,GrowX.refl _,rfl⟩
  | (q+12),hq=>exact absurd hq (by omega)
 intro vS lo hi w2 hg hp hd
 obtain⟨_,_,_,h0⟩:=hp 0 (by decide)
 replace h0:=h0 (by decide)
 obtain⟨_,_,_,h1⟩:=hp 1 (by decide)
 replace h1:=h1 (by decide)
 obtain⟨_,_,_,h2⟩:=hp 2 (by decide)
 replace h2:=h2 (by decide)
 obtain⟨_,_,_,h3⟩:=hp 3 (by decide)
 replace h3:=h3 (by decide)
 obtain⟨_,_,_,h4⟩:=hp 4 (by decide)
 replace h4:=h4 (by decide)
 obtain⟨_,_,_,h5⟩:=hp 5 (by decide)
 replace h5:=h5 (by decide)
 obtain⟨_,_,_,h6⟩:=hp 6 (by decide)
 replace h6:=h6 (by decide)
 obtain⟨_,_,_,h7⟩:=hp 7 (by decide)
 replace h7:=h7 (by decide)
 obtain⟨_,_,_,h8⟩:=hp 8 (by decide)
 replace h8:=h8 (by decide)
 obtain⟨_,_,_,h9⟩:=hp 9 (by decide)
 replace h9:=h9 (by decide)
 obtain⟨_,_,_,h10⟩:=hp 10 (by decide)
 replace h10:=h10 (by decide)
 obtain⟨_,_,_,h11⟩:=hp 11 (by decide)
 replace h11:=h11 (by decide)
 simp only[PSAp1]at h0 h1 h2 h3 h4 h5 h6 h7 h8 h9 h10 h11
 clear hp hd
 have hsz:=hg.size
 replace bt:=bt.growx hg (by rintro⟨j,_,hw⟩;simp only[WSAp1]at hw;first|exact HN1.out hw.2|omega)
 replace hB:=hB.trans (hg.below (fun k hk=>⟨by omega,by rintro⟨j,_,hw⟩;simp only[WSAp1]at hw;first|exact HN1.out hw.2|omega⟩))
 have hr:List.range 12=[0,1,2,3,4,5,6,7,8,9,10,11]:=rfl
 rw[hr]
 clear hr
 simp only[List.drop_succ_cons,List.drop_zero,List.drop_nil,actsD,Act.put,actL,h0,h1,h2,h3,h4,h5,h9,h11]
 clear h0 h1 h2 h3 h4 h5 h9 h11
 obtain⟨g,k,S2,h6a,h6b,h6c,h6d,h6e,h6f,h6g⟩:=h6
 have e8:vS 8=.slice (some ⟨g,0,none⟩) 512 k:=by
  obtain⟨g',k',e1,e2⟩:=h8
  rw[h6a]at e1
  injection e1 with e1
  injection e1 with e1
  injection e1 with e1
  injection e1 with e1 e3 e4
  injection e1 with e1
  injection e1 with e1
  rw[e2,e1,e4]
 rw[h10,e8,h7,h6a]
 have HS2:=Lib.hid h6f
 have HF2:=Lib.hid h6g
 have HROW:=Lib.hid h6b
 have HGG:=Lib.hid h6c
 have HKK:=Lib.hid h6d
 have HNG:=Lib.hid h6e
 have HBT2:=Lib.hid bt
 clear h6a h6b h6c h6d h6e h6f h6g h7 h8 h10 e8 hB hg hsz bt
 go_wp2_with fail
 refine(eight_any _ l HL2.out).mono ?_
 rintro e y3 ⟨g8,rfl,hb8,hg8,hbl8⟩
 have HBL8:=Lib.hid hbl8
 have HB8:=Lib.hid hb8
 have HROW3:=Lib.hid (own_growx HROW.out (grow_below hbl8) (fun _ _ h=>h))
 have HRD8:Hid (Reads 1 y3 (.slice (some ⟨g8,0,none⟩) 8 8) 8 ((be8 l).map B)):=Lib.hid (Reads.of_own (hb8.own (base:=0) (be8_len l) (Nat.zero_le _) (by decide)))
 clear hb8 hg8 hbl8
 go_wp2_with (with_reducible refine wpList_copy_in rfl (.tmp 21) (.tmp 23) rfl HROW3.out (Nat.zero_le 512) (some ⟨g,0,none⟩) k ?p1 ?p2 ?p3 HRD8.out ?p4)
 case p1=>rfl
 case p2=>
  intro _ g' e
  have e2:g=g':=(by simpa[Value.ownBlock]using e)
  rw[e2]
 case p3=>rfl
 intro y4 kk hown4 hgx4
 have HY4:=Lib.hid (And.intro hown4 hgx4)
 clear hown4 hgx4
 go_upto_region 4 with (fail)
 obtain⟨hown4,hgx4⟩:=HY4.out
 have hge:∀q,(Value.slice (some ⟨g,0,none⟩) 512 k).ownBlock=some q→q=g:=fun q e=>by have e2:g=q:=(by simpa[Value.ownBlock]using e);exact e2.symm
 have bt:Box y4 t1 [.int .i64 (r.kind:Nat),.int .i64 (r.txn:Nat),.int .i64 (r.prev:Nat),.int .i64 (r.next:Nat),.int .i64 (r.page:Nat),.int .i64 (r.off:Nat),.slice ab nb cb,.slice aa na ca,.slice none 0 0,.slice none 0 0,.int .i64 (r.count:Nat)]:=(HBT2.out.below HBL8.out (Nat.le_refl _)).growx hgx4 (fun e=>by have:=hge _ e;have:=HGG.out;have:=HT1L.out;omega)
 have HBT4:=Lib.hid bt
 have HOWN4:=Lib.hid hown4
 have HGX4:=Lib.hid hgx4
 have HGE:=Lib.hid hge
 have hRA:Reads 1 y4 (.slice aa na ca) na (r.after.map B):=((HR1.out.growx HF2.out.grow (fun q e=>(HRS.out q e).1)).below HBL8.out (Nat.le_refl _)).growx hgx4 (fun q e1 e2=>by have:=hge _ e2;have:=HGG.out;have:=(HRS.out q e1).2;have:=HAL0.out.size;omega)
 have HRA:=Lib.hid hRA
 have hoff:8+r.off≤512:=by have:=HO.out;omega
 have hB:Below 0 y4 y4:=Below.refl _ _
 clear hown4 hgx4 hge hRA
 refine wp_region_partsDC (WSAp4 r ab aa nb cb na ca t1 g k) 7 [[],[],[1],[1,2],[0,1,2,3],[],[5]] [some 25,some 26,some 27,some 28,some 29,some 30,some 31,some 32] (by kernel_rfl) (by kernel_rfl) rfl (PSAp4 r ab aa nb cb na ca t1 g k) (PSAp4_stable r ab aa nb cb na ca t1 g k) ?pSAp4 ?_
 case pSAp4=>
  intro i hi o ho vs lo hx_ w' hg hp
  match i,hi with
  | 0,_|1,_|5,_=>
   obtain rfl:=Option.some.inj ho
   clear ho
   simp only[actsD,Act.put,actL]
   have hsz:=hg.size
   go_wp2
   exact⟨_,rfl,GrowC.refl _,rfl⟩
  | 2,_=>
   obtain rfl:=Option.some.inj ho
   clear ho
   simp only[actsD,Act.put,actL]
   obtain⟨_,_,_,h1⟩:=hp 1 (by simp)
   simp only[PSAp4]at h1
   have hsz:=hg.size
   rw[h1]
   have e0:=(hg.cell (t1) 5 bt.lt (by rintro⟨j,_,hne,hb,hw⟩;exact False.elim hw)).trans (bt.cell 5 _ rfl)
   go_wp2
   exact⟨_,rfl,GrowC.refl _,rfl⟩
  | 3,_=>
   obtain rfl:=Option.some.inj ho
   clear ho
   simp only[actsD,Act.put,actL]
   obtain⟨_,_,_,h2⟩:=hp 2 (by simp)
   simp only[PSAp4]at h2
   have hsz:=hg.size
   rw[h2]
   go_wp2
   refine⟨_,rfl,GrowC.refl _,?_⟩
   simp only[PSAp4]
   first|omega|(congr 1<;>omega)|skip
  | 4,_=>
   obtain rfl:=Option.some.inj ho
   clear ho
   simp only[actsD,Act.put,actL]
   obtain⟨_,_,_,h0⟩:=hp 0 (by simp)
   simp only[PSAp4]at h0
   obtain⟨_,_,_,h3⟩:=hp 3 (by simp)
   simp only[PSAp4]at h3
   have hsz:=hg.size
   rw[h0,h3]
   refine wpList_cut_lo bytesOf (.tmp 25) (.tmp 28) rfl rfl rfl rfl (by omega) ?_
   go_wp2
   exact⟨_,rfl,GrowC.refl _,rfl⟩
  | 6,_=>
   obtain rfl:=Option.some.inj ho
   clear ho
   simp only[actsD,Act.put,actL]
   obtain⟨_,_,_,h5⟩:=hp 5 (by simp)
   simp only[PSAp4]at h5
   have hsz:=hg.size
   rw[h5]
   have e0:=(hg.cell (t1) 7 bt.lt (by rintro⟨j,_,hne,hb,hw⟩;exact False.elim hw)).trans (bt.cell 7 _ rfl)
   go_wp2
   exact⟨_,rfl,GrowC.refl _,rfl⟩
  | (q+7),hq=>exact absurd hq (by omega)
 intro vS lo hi z5 hg hp hd
 obtain⟨_,_,_,h0⟩:=hp 0 (by decide)
 obtain⟨_,_,_,h1⟩:=hp 1 (by decide)
 obtain⟨_,_,_,h2⟩:=hp 2 (by decide)
 obtain⟨_,_,_,h3⟩:=hp 3 (by decide)
 obtain⟨_,_,_,h4⟩:=hp 4 (by decide)
 obtain⟨_,_,_,h5⟩:=hp 5 (by decide)
 obtain⟨_,_,_,h6⟩:=hp 6 (by decide)
 simp only[PSAp4]at h0 h1 h2 h3 h4 h5 h6
 clear hp hd
 have hsz:=hg.size
 replace bt:=bt.grow hg (by intro i _;rintro⟨j,_,hw⟩;exact False.elim hw)
 replace hB:=hB.trans (hg.below (fun k hk=>⟨by omega,fun o=>by rintro⟨j,_,hw⟩;exact False.elim hw⟩))
 have hr:List.range 7=[0,1,2,3,4,5,6]:=rfl
 rw[hr]
 clear hr
 simp only[List.drop_succ_cons,List.drop_zero,List.drop_nil,actsD,Act.put,actL,h0,h1,h2,h3,h4,h5,h6]
 clear h0 h1 h2 h3 h4 h5 h6
 have HB5:=Lib.hid hB
 have HRA5:=Lib.hid (HRA.out.growx (GrowX.of_growC hg (Y:=fun _=>False) (fun k o ⟨j,_,h⟩=>h)) (fun _ _ h=>h))
 have HG5:Hid (GrowX (fun _=>False) y4 z5):=Lib.hid (GrowX.of_growC hg (fun k o ⟨j,_,h⟩=>h))
 have HOWN5:=Lib.hid (own_growx HOWN4.out HG5.out (fun _ _ h=>h))
 clear hB hg hsz bt
 go_wp2_with (with_reducible refine wpList_copy_in rfl (.tmp 29) (.tmp 31) rfl HOWN5.out hoff (cutA (some ⟨g,0,none⟩) (8+r.off) k 1) (k-(8+r.off)) ?q1 ?cp ?q3 HRA5.out ?q4)
 case q1=>rfl
 case q3=>rfl
 case cp=>
  intro hlt g' e
  have e2:=HGE.out _ e
  subst e2
  have hkk:=HKK.out
  unfold cutA
  rw[if_neg (by omega)]
  simp only[Option.map_some,Addr.add_lit]
  congr 2
  omega
 intro y6 kk hown6 hgx6
 have HY6:=Lib.hid (And.intro hown6 hgx6)
 clear hown6 hgx6
 go_upto_region 5 with (fail)
 obtain⟨hown6,hgx6⟩:=HY6.out
 have HOWN6:=Lib.hid hown6
 have hgg:GrowX (fun b=>b=g) y3 y6:=(HGX4.out.trans ((HG5.out.mono (fun _ h=>h.elim)).trans hgx6)).mono (fun b e=>HGE.out _ e)
 have hs3:=HS2.out.below HBL8.out
 have hng:¬sfoot S2 vl vo EO K g:=by
  rintro(h|h)
  ·exact HNG.out h
  ·have:=(HS1.out.lt g (.inr h)).2;have:=HGG.out;omega
 have hw0:W0.heap.size≤g:=by have:=HS1.out.bel.size;have:=HGG.out;omega
 have hsv6:=hs3.own hgg hng hw0
 have HS6:=Lib.hid hsv6
 have hF6:Foot S1 S2 w y6:=((Foot.below (grow_below HAL0.out)).trans (HF2.out.trans (Foot.below (grow_below HBL8.out)))).fin hgg (fun k e=>.inr (by subst e;have:=HGG.out;have:=HAL0.out.size;omega)) (fun k h=>.inl h)
 have HF6:=Lib.hid hF6
 have bs:Box y6 A.sb [.pointer (some ⟨A.d,0,none⟩),.pointer (some ⟨A.r,0,none⟩),.pointer (some ⟨A.f,0,none⟩),.pointer (some ⟨A.g,0,none⟩),vl,vo,.int .i64 (σ.master:Nat),.int .i64 (σ.next:Nat),.int .i64 (σ.commits:Nat),.bool false,.int .i64 (σ.redone:Nat),.int .i64 (σ.undone:Nat)]:=hsv6.sbx
 have bt:Box y6 t1 [.int .i64 (r.kind:Nat),.int .i64 (r.txn:Nat),.int .i64 (r.prev:Nat),.int .i64 (r.next:Nat),.int .i64 (r.page:Nat),.int .i64 (r.off:Nat),.slice ab nb cb,.slice aa na ca,.slice none 0 0,.slice none 0 0,.int .i64 (r.count:Nat)]:=(HBT2.out.below HBL8.out (Nat.le_refl _)).growx hgg (fun e=>by have:=HGG.out;have:=HT1L.out;omega)
 have hB:Below y6.heap.size y6 y6:=Below.refl _ _
 have hlx:(overB (overB (σ.get c r.page).2.1 0 (be8 l)) (8+r.off) r.after).length=512:=by have:=hown6.1;rw[List.length_map]at this;omega
 have HLX:=Lib.hid hlx
 clear hown6 hgx6 hgg hs3 hng hw0 hsv6 hF6 hlx hoff
 refine wp_region_partsDC (WSAp5 A σ vl vo r ab aa nb cb na ca t1 g k l) 8 [[],[0],[0,1],[0,1,2],[],[4],[],[]] [some 33,some 34,some 35,some 36,some 37,some 38,some 39,some 40,some 41,some 8] (by kernel_rfl) (by kernel_rfl) rfl (PSAp5 A σ vl vo r ab aa nb cb na ca t1 g k l) (PSAp5_stable A σ vl vo r ab aa nb cb na ca t1 g k l) ?pSAp5 ?_
 case pSAp5=>
  intro i hi o ho vs lo hx_ w' hg hp
  match i,hi with
  | 0,_|4,_|6,_|7,_=>
   obtain rfl:=Option.some.inj ho
   clear ho
   simp only[actsD,Act.put,actL]
   have hsz:=hg.size
   go_wp2
   exact⟨_,rfl,GrowC.refl _,rfl⟩
  | 1,_=>
   obtain rfl:=Option.some.inj ho
   clear ho
   simp only[actsD,Act.put,actL]
   obtain⟨_,_,_,h0⟩:=hp 0 (by simp)
   simp only[PSAp5]at h0
   have hsz:=hg.size
   rw[h0]
   go_wp2
   exact⟨_,rfl,GrowC.refl _,rfl⟩
  | 2,_=>
   obtain rfl:=Option.some.inj ho
   clear ho
   simp only[actsD,Act.put,actL]
   obtain⟨_,_,_,h1⟩:=hp 1 (by simp)
   simp only[PSAp5]at h1
   have hsz:=hg.size
   rw[h1]
   go_wp2
   exact⟨_,rfl,GrowC.refl _,rfl⟩
  | 3,_=>
   obtain rfl:=Option.some.inj ho
   clear ho
   simp only[actsD,Act.put,actL]
   obtain⟨_,_,_,h2⟩:=hp 2 (by simp)
   simp only[PSAp5]at h2
   have hsz:=hg.size
   rw[h2]
   have e0:=(hg.cell (A.sb) 3 bs.lt (by rintro⟨j,_,hne,hb,hw⟩;exact False.elim hw)).trans (bs.cell 3 _ rfl)
   go_wp2
   exact⟨_,rfl,GrowC.refl _,rfl⟩
  | 5,_=>
   obtain rfl:=Option.some.inj ho
   clear ho
   simp only[actsD,Act.put,actL]
   obtain⟨_,_,_,h4⟩:=hp 4 (by simp)
   simp only[PSAp5]at h4
   have hsz:=hg.size
   rw[h4]
   have e0:=(hg.cell (t1) 4 bt.lt (by rintro⟨j,_,hne,hb,hw⟩;exact False.elim hw)).trans (bt.cell 4 _ rfl)
   go_wp2
   exact⟨_,rfl,GrowC.refl _,rfl⟩
  | (q+8),hq=>exact absurd hq (by omega)
 intro vS lo hi z7 hg hp hd
 obtain⟨_,_,_,h0⟩:=hp 0 (by decide)
 obtain⟨_,_,_,h1⟩:=hp 1 (by decide)
 obtain⟨_,_,_,h2⟩:=hp 2 (by decide)
 obtain⟨_,_,_,h3⟩:=hp 3 (by decide)
 obtain⟨_,_,_,h4⟩:=hp 4 (by decide)
 obtain⟨_,_,_,h5⟩:=hp 5 (by decide)
 obtain⟨_,_,_,h6⟩:=hp 6 (by decide)
 obtain⟨_,_,_,h7⟩:=hp 7 (by decide)
 simp only[PSAp5]at h0 h1 h2 h3 h4 h5 h6 h7
 clear hp hd
 have hsz:=hg.size
 replace bs:=bs.grow hg (by intro i _;rintro⟨j,_,hw⟩;exact False.elim hw)
 replace bt:=bt.grow hg (by intro i _;rintro⟨j,_,hw⟩;exact False.elim hw)
 replace hB:=hB.trans (hg.below (fun k hk=>⟨by omega,fun o=>by rintro⟨j,_,hw⟩;exact False.elim hw⟩))
 have hr:List.range 8=[0,1,2,3,4,5,6,7]:=rfl
 rw[hr]
 clear hr
 simp only[List.drop_succ_cons,List.drop_zero,List.drop_nil,actsD,Act.put,actL,h0,h1,h2,h3,h4,h5,h6,h7]
 clear h0 h1 h2 h3 h4 h5 h6 h7
 have HB7:=Lib.hid hB
 have hs7:=HS6.out.below hB
 have ho7:=own_growx HOWN6.out (grow_below hB) (fun _ _ h=>h)
 have hcall:=sput_ok hs7 r.page HP.out _ HLX.out l HL.out _ (Reads.of_own ho7) (fun q e=>by rw[HGE.out q e];exact HNG.out) (by have:=((σ.get_ok c r.page HP.out).2).wr;have:=HWR.out;omega)
 have HCA:=Lib.hid hcall
 clear hcall hs7 ho7 hB hg hsz bs bt
 go_wp2_with fail
 refine HCA.out.mono ?_
 rintro e y8 ⟨S8,rfl,hs8,hf8⟩
 have HS8:=Lib.hid hs8
 have HF8:=Lib.hid ((HF6.out.trans (Foot.below (grow_below HB7.out))).trans hf8)
 have hcall:=told_s hs8 0 (.inl rfl)
 have HCT:=Lib.hid hcall
 clear hcall hs8 hf8
 go_wp2_with fail
 refine HCT.out.mono ?_
 rintro e y9 ⟨S9,rfl,hs9,hf9⟩
 have HS9:=Lib.hid hs9
 have HF9:=Lib.hid (HF8.out.trans hf9)
 clear hs9 hf9
 go_wp2_with fail
 go_ret
 refine⟨S9,rfl,?_,HF9.out⟩
 have e:=HS9.out
 rw[St.apply_eq σ c r l HP.out]
 exact e
end
end
section
open Go.RowKit
theorem own_at{w:World}{base T K g n cap:Nat}{xs:List Value}(h:w.ownsRow base T K (.slice (some ⟨g,0,none⟩) n cap) n xs)(j:Nat)(u:Value)(hu:xs[j]? = some u):w.cell? ⟨g,j,none⟩=some u:=by
 have:=own_cellsK h j u hu
 rw[Addr.add_lit,Nat.zero_add]at this
 exact this
section
variable{W0 w w':World}{A:Adr}{c:Cf}{σ:St}{S:Nat→Prop}{vl vo:Value}{EL:List Le}{EO:List Te}{K S1:Nat→Prop}{X:Nat→Prop}
def ofEnd(σ:St)(EO:List Te)(t:Int)(v:Value):Prop:=(∃i e,σ.of t=some i∧EO[i]? = some e∧v=ptrT e)∨(σ.of t=none∧v=.pointer none)
theorem SvAt.oat(h:SvAt W0 w A c σ vl vo EL EO K S1){i:Nat}{e:Te}(he:EO[i]? = some e):σ.opn[i]? = some e.x:=by rw[h.ois,List.getElem?_map,he];rfl
theorem SvAt.olen(h:SvAt W0 w A c σ vl vo EL EO K S1):σ.opn.length=EO.length:=by rw[h.ois,List.length_map]
theorem of_hit{σ:St}{t:Int}{j:Nat}{x:Tx}(hx:σ.opn[j]? = some x)(ht:(x.id:Int)=t)(hb:∀k y,k<j→σ.opn[k]? = some y→¬(y.id:Int)=t):σ.of t=some j:=by
 obtain⟨hj,hxe⟩:=List.getElem?_eq_some_iff.1 hx
 unfold St.of
 rw[List.findIdx?_eq_some_iff_getElem]
 refine⟨hj,by rw[hxe];simpa using ht,fun k hk=>?_⟩
 have:=hb k _ hk (List.getElem?_eq_getElem (by omega))
 simpa using this
theorem of_miss{σ:St}{t:Int}(hb:∀k y,k<σ.opn.length→σ.opn[k]? = some y→¬(y.id:Int)=t):σ.of t=none:=by
 unfold St.of
 rw[List.findIdx?_eq_none_iff]
 intro x hx
 obtain⟨k,hk,rfl⟩:=List.getElem_of_mem hx
 simpa using hb k _ hk (List.getElem?_eq_getElem hk)
set_option maxRecDepth 100000 in
set_option maxHeartbeats 3200000 in
theorem of_at(h:SvAt W0 w A c σ vl vo EL EO K S1)(t:Int)(hn:EO.length≤1073741824):
  Calls Tryz.prog 56 #[.pointer (some ⟨A.sb,0,none⟩),.int .i64 t] w fun e w'=>(∃v,e=.returned v∧ofEnd σ EO t v)∧w'=w:=by
 have HS:=Lib.hid h
 have c5:=h.sbx.cell 5 _ rfl
 have clt:=h.sbx.lt
 obtain⟨ao,cq,hvo⟩:=own_shape h.tx.row
 have HVO:=Lib.hid hvo
 obtain⟨n,hnn⟩:∃x,EO.length=x:=⟨_,rfl⟩
 rw[hvo,hnn]at c5
 rw[hnn]at hn
 have HNN:=Lib.hid hnn
 clear h hvo hnn
 go_enter Tryz.func56,Tryz.ntmps56
 go_wp2_with fail
 go_loopw [12] (fun i wr=>∃j:Nat,j≤n∧i=.int .i64 j∧wr=w∧(∀k e,k<j→EO[k]? = some e→¬(e.x.id:Int)=t)) (fun i _=>n-(intOf i).toNat)
 case atStart=>exact⟨0,Nat.zero_le _,rfl,rfl,fun k e hk=>absurd hk (Nat.not_lt_zero _)⟩
 case round=>
  obtain⟨j,hj,rfl,rfl,hno⟩:=hrel
  have HNO:=Lib.hid hno
  clear hno
  by_cases hjn:j<n
  case neg=>
   have b1:decide (j<n)=false:=by simpa using hjn
   have b2:decide ((j:Int)<(n:Int))=false:=by simpa using hjn
   go_wp2_with fail
   go_ret
   refine⟨⟨_,rfl,.inr ⟨of_miss (fun k y hk hy=>?_),rfl⟩⟩,rfl⟩
   have hk2:k<EO.length:=by rw[←HS.out.olen];exact hk
   have e1:=HS.out.oat (List.getElem?_eq_getElem hk2)
   rw[e1]at hy
   obtain rfl:=Option.some.inj hy
   exact HNO.out k _ (by have:=HNN.out;omega) (List.getElem?_eq_getElem hk2)
  have b1:decide (j<n)=true:=by simpa using hjn
  have b2:decide ((j:Int)<(n:Int))=true:=by simpa using hjn
  have hjl:j<EO.length:=by rw[HNN.out];exact hjn
  have hrow:=HS.out.tx.row
  rw[HNN.out]at hrow
  obtain⟨gq,cq2,e1,_,_⟩:=own_slice hrow (by omega)
  have e2:=e1
  rw[HVO.out]at e2
  injection e2 with e3 _ _
  subst e3
  rw[e1]at hrow
  obtain⟨e,hee⟩:∃e,EO[j]? = some e:=⟨_,List.getElem?_eq_getElem hjl⟩
  have HEE:=Lib.hid hee
  have hcl:=own_at hrow j (ptrT e) (by rw[List.getElem?_map,hee];rfl)
  have hbx:=(HS.out.tx.at_ e (List.mem_of_getElem? hee)).box
  have e0:=hbx.cell 0 _ rfl
  have elt:=hbx.lt
  simp only[ptrT]at hcl
  clear hrow hjl e1 hee hbx
  by_cases hid:(e.x.id:Int)=t
  case pos=>
   have b3:((e.x.id:Int)==t)=true:=by simpa using hid
   have HID:=Lib.hid hid
   clear hid
   go_wp2_with fail
   go_ret
   exact⟨⟨_,rfl,.inl ⟨j,e,of_hit (HS.out.oat HEE.out) HID.out (fun k y hk hy=>by
    have hk2:k<EO.length:=by rw[←HS.out.olen];exact(List.getElem?_eq_some_iff.1 hy).1
    have e1:=HS.out.oat (List.getElem?_eq_getElem hk2)
    rw[e1]at hy
    obtain rfl:=Option.some.inj hy
    exact HNO.out k _ hk (List.getElem?_eq_getElem hk2)),HEE.out,rfl⟩⟩,rfl⟩
  case neg=>
   have b3:((e.x.id:Int)==t)=false:=by simpa using hid
   have HID:=Lib.hid hid
   clear hid
   go_wp2_with fail
   go_roundw
   ·refine⟨j+1,by omega,by go_num,(by first|rfl|trivial),fun k e' hk hk2=>?_⟩
    rcases Nat.lt_succ_iff_lt_or_eq.1 hk with hk|rfl
    ·exact HNO.out k e' hk hk2
    ·rw[HEE.out]at hk2
     obtain rfl:=Option.some.inj hk2
     exact HID.out
   ·simp[intOf];omega
set_option maxRecDepth 100000 in
set_option maxHeartbeats 3200000 in
theorem within_at(h:SvAt W0 w A c σ vl vo EL EO K S1)(p off n:Int):
  Calls Tryz.prog 62 #[.pointer (some ⟨A.sb,0,none⟩),.int .i64 p,.int .i64 off,.int .i64 n] w fun e w'=>e=.returned (.bool (decide (0≤p∧p<(c.pg:Int)∧0≤off∧off≤504∧0≤n∧n≤504-off)))∧w'=w:=by
 have hcall:=spages_at h
 have HC:=Lib.hid hcall
 clear h hcall
 by_cases h0:0≤p
 case neg=>
  have b0_0:decide (p≥0)=false:=by simpa using h0
  have b0_1:decide (0≤p)=false:=by simpa using h0
  go_enter Tryz.func62,Tryz.ntmps62
  go_wp2_with fail
  go_ret
  exact⟨by first|(rw[decide_eq_false (by omega)];rfl)|rfl,rfl⟩
 have b0_0:decide (p≥0)=true:=by simpa using h0
 have b0_1:decide (0≤p)=true:=by simpa using h0
 by_cases h1:p<(c.pg:Int)
 case neg=>
  have b1_0:decide (p<(c.pg:Int))=false:=by simpa using h1
  go_enter Tryz.func62,Tryz.ntmps62
  go_wp2_with fail
  refine HC.out.mono ?_
  rintro e w' ⟨rfl,rfl⟩
  go_wp2_with fail
  go_ret
  exact⟨by first|(rw[decide_eq_false (by omega)];rfl)|rfl,rfl⟩
 have b1_0:decide (p<(c.pg:Int))=true:=by simpa using h1
 by_cases h2:0≤off
 case neg=>
  have b2_0:decide (off≥0)=false:=by simpa using h2
  have b2_1:decide (0≤off)=false:=by simpa using h2
  go_enter Tryz.func62,Tryz.ntmps62
  go_wp2_with fail
  refine HC.out.mono ?_
  rintro e w' ⟨rfl,rfl⟩
  go_wp2_with fail
  go_ret
  exact⟨by first|(rw[decide_eq_false (by omega)];rfl)|rfl,rfl⟩
 have b2_0:decide (off≥0)=true:=by simpa using h2
 have b2_1:decide (0≤off)=true:=by simpa using h2
 by_cases h3:off≤504
 case neg=>
  have b3_0:decide (off≤504)=false:=by simpa using h3
  go_enter Tryz.func62,Tryz.ntmps62
  go_wp2_with fail
  refine HC.out.mono ?_
  rintro e w' ⟨rfl,rfl⟩
  go_wp2_with fail
  go_ret
  exact⟨by first|(rw[decide_eq_false (by omega)];rfl)|rfl,rfl⟩
 have b3_0:decide (off≤504)=true:=by simpa using h3
 by_cases h4:0≤n
 case neg=>
  have b4_0:decide (n≥0)=false:=by simpa using h4
  have b4_1:decide (0≤n)=false:=by simpa using h4
  go_enter Tryz.func62,Tryz.ntmps62
  go_wp2_with fail
  refine HC.out.mono ?_
  rintro e w' ⟨rfl,rfl⟩
  go_wp2_with fail
  go_ret
  exact⟨by first|(rw[decide_eq_false (by omega)];rfl)|rfl,rfl⟩
 have b4_0:decide (n≥0)=true:=by simpa using h4
 have b4_1:decide (0≤n)=true:=by simpa using h4
 by_cases h5:n≤504-off
 case neg=>
  have b5_0:decide (n≤504-off)=false:=by simpa using h5
  go_enter Tryz.func62,Tryz.ntmps62
  go_wp2_with fail
  refine HC.out.mono ?_
  rintro e w' ⟨rfl,rfl⟩
  go_wp2_with fail
  go_ret
  exact⟨by first|(rw[decide_eq_false (by omega)];rfl)|rfl,rfl⟩
 have b5_0:decide (n≤504-off)=true:=by simpa using h5
 go_enter Tryz.func62,Tryz.ntmps62
 go_wp2_with fail
 refine HC.out.mono ?_
 rintro e w' ⟨rfl,rfl⟩
 go_wp2_with fail
 go_ret
 exact⟨by rw[decide_eq_true (show _ from⟨by omega,by omega,by omega,by omega,by omega,by omega⟩)];rfl,rfl⟩
end
end
section
open Go.RowKit
theorem flat_ix{α β:Type}{f:α→List β}{k:Nat}(hf:∀x,(f x).length=k):∀(l:List α)(i:Nat)(x:α),l[i]? = some x→∀q,q<k→(l.flatMap f)[i*k+q]? = (f x)[q]?
 | [],i,x,h,q,hq=>by simp at h
 | a::l,0,x,h,q,hq=>by
  obtain rfl:a=x:=by simpa using h
  rw[List.flatMap_cons,List.getElem?_append_left (by rw[hf];omega)]
  simp
 | a::l,i+1,x,h,q,hq=>by
  have h2:l[i]? = some x:=by simpa using h
  rw[List.flatMap_cons,List.getElem?_append_right (by rw[hf,Nat.succ_mul];omega),hf,show(i+1)*k+q-k=i*k+q by rw[Nat.succ_mul];omega]
  exact flat_ix hf l i x h2 q hq
theorem below_then{w wr y:World}{o:Obj}(h1:Below w.heap.size w wr)(h2:Below (wr.alloc o).heap.size (wr.alloc o) y):Below w.heap.size w y:=
 h1.trans ((((Below.refl _ _).alloc (Nat.le_refl _) o).trans (h2.mono (by simp))).mono h1.size)
theorem clr_any(w:World)(ao:Option Addr)(m cp:Nat)(hm:m≤1048576):
  Calls Tryz.prog 67 #[.slice ao m cp] w fun e w'=>e=.returned (.int .i64 ((96+m:Nat):Int))∧Below w.heap.size w w':=by
 have hcall:=recsize_any (w:=w) { Rc.zero with after:=List.replicate m 0 } none ao 0 0 m cp ⟨Nat.zero_le _,Nat.zero_le _,Nat.zero_le _,Nat.zero_le _,Nat.zero_le _,Nat.zero_le _,Nat.zero_le _,Nat.zero_le _,by rw[List.length_replicate];exact hm,rfl,rfl⟩ rfl List.length_replicate
 have hsz:Rc.size { Rc.zero with after:=List.replicate m 0 }=96+m:=by simp[Rc.size,Rc.zero]
 rw[hsz]at hcall
 have hc2:Calls Tryz.prog 54 #[.agg #[.int .i64 0,.int .i64 0,.int .i64 0,.int .i64 0,.int .i64 0,.int .i64 0,.slice none 0 0,.slice ao m cp,.slice none 0 0,.slice none 0 0,.int .i64 0]] w fun e w'=>e=.returned (.int .i64 ((96+m:Nat):Int))∧Below w.heap.size w w':=hcall
 have HC:=Lib.hid hc2
 clear hcall hc2 hsz
 go_enter Tryz.func67,Tryz.ntmps67
 go_wp2_with fail
 refine HC.out.mono ?_
 rintro e w' ⟨rfl,hb⟩
 have HB:=Lib.hid hb
 clear hb
 go_wp2_with fail
 go_ret
 exact⟨rfl,HB.out⟩
def upsA(l:List (Up×Value)):Nat:=(l.map fun u=>96+u.1.before.length).sum
def resA(l:List Te):Nat:=(l.map fun e=>192+upsA e.EU).sum
theorem sum_take_le{α:Type}(f:α→Nat):∀(l:List α)(i:Nat),((l.take i).map f).sum≤(l.map f).sum
 | [],i=>by simp
 | a::l,0=>by simp
 | a::l,i+1=>by simp only[List.take_succ_cons,List.map_cons,List.sum_cons];have:=sum_take_le f l i;omega
theorem sum_take_succ{α:Type}(f:α→Nat)(l:List α)(i:Nat)(x:α)(h:l[i]? = some x):((l.take (i+1)).map f).sum=((l.take i).map f).sum+f x:=by
 rw[List.take_add_one,h]
 simp
section
variable{W0 w w':World}{A:Adr}{c:Cf}{σ:St}{S:Nat→Prop}{vl vo:Value}{EL:List Le}{EO:List Te}{K S1:Nat→Prop}{X:Nat→Prop}
theorem SvAt.resv(h:SvAt W0 w A c σ vl vo EL EO K S1):σ.reserved=resA EO:=by
 unfold St.reserved resA
 rw[h.ois,List.map_map]
 congr 1
 refine List.map_congr_left fun e he=>?_
 show 192+(e.x.l.map fun u=>96+u.before.length).sum=_
 rw[(h.tx.at_ e he).ups,List.map_map]
 rfl
set_option maxRecDepth 100000 in
set_option maxHeartbeats 3200000 in
theorem reserved_at(h:SvAt W0 w A c σ vl vo EL EO K S1)(hn:EO.length≤1073741824)(hr:resA EO≤1099511627776)(hu:∀e∈EO,∀u∈e.EU,u.1.before.length≤1048576):
  Calls Tryz.prog 89 #[.pointer (some ⟨A.sb,0,none⟩)] w fun e w'=>e=.returned (.int .i64 (resA EO:Nat))∧Below w.heap.size w w':=by
 have HS:=Lib.hid h
 have HU:=Lib.hid hu
 have c5:=h.sbx.cell 5 _ rfl
 have clt:=h.sbx.lt
 obtain⟨ao,cq,hvo⟩:=own_shape h.tx.row
 have HVO:=Lib.hid hvo
 obtain⟨n,hnn⟩:∃x,EO.length=x:=⟨_,rfl⟩
 obtain⟨tot,htt⟩:∃x,resA EO=x:=⟨_,rfl⟩
 rw[hvo,hnn]at c5
 rw[hnn]at hn
 rw[htt]at hr
 have HNN:=Lib.hid hnn
 have HTT:=Lib.hid htt
 clear h hvo hnn htt hu
 go_enter Tryz.func89,Tryz.ntmps89
 go_wp2_with fail
 go_loopw [3,13] (fun s i wr=>∃j:Nat,j≤n∧i=.int .i64 j∧s=.int .i64 (resA (EO.take j):Nat)∧Below w.heap.size w wr) (fun _ i _=>n-(intOf i).toNat)
 case atStart=>exact⟨0,Nat.zero_le _,rfl,rfl,Below.refl _ _⟩
 case round=>
  obtain⟨j,hj,rfl,rfl,hbl⟩:=hrel
  have HB:=Lib.hid hbl
  obtain⟨rj,hrj⟩:∃x,resA (EO.take j)=x:=⟨_,rfl⟩
  rw[hrj]
  have HRJ:=Lib.hid hrj
  have hrt:rj≤tot:=by rw[←hrj,←HTT.out];exact sum_take_le _ _ _
  clear hbl hrj
  by_cases hjn:j<n
  case neg=>
   have b1:decide (j<n)=false:=by simpa using hjn
   have b2:decide ((j:Int)<(n:Int))=false:=by simpa using hjn
   have e:EO.take j=EO:=List.take_of_length_le (by rw[HNN.out];omega)
   have e4:rj=tot:=by rw[←HRJ.out,e,HTT.out]
   subst e4
   clear e
   go_wp2_with fail
   go_ret
   refine⟨ret_v ?_,HB.out⟩
   show Value.int _ _=_
   rw[HTT.out]
  have b1:decide (j<n)=true:=by simpa using hjn
  have b2:decide ((j:Int)<(n:Int))=true:=by simpa using hjn
  have hjl:j<EO.length:=by rw[HNN.out];exact hjn
  have hs:=HS.out.below HB.out
  have hrow:=hs.tx.row
  rw[HNN.out]at hrow
  obtain⟨gq,cq2,e1,_,_⟩:=own_slice hrow (by omega)
  have e2:=e1
  rw[HVO.out]at e2
  injection e2 with e3 e4 e5
  subst e3
  subst e5
  clear e4
  rw[e1]at hrow
  obtain⟨e,hee⟩:∃e,EO[j]? = some e:=⟨_,List.getElem?_eq_getElem hjl⟩
  have HEE:=Lib.hid hee
  have hmem:=List.mem_of_getElem? hee
  have hcl:=own_at hrow j (ptrT e) (by rw[List.getElem?_map,hee];rfl)
  have hbx:=(hs.tx.at_ e hmem).box
  have e3:=hbx.cell 3 _ rfl
  have elt:=hbx.lt
  obtain⟨au,cu,hvu⟩:=own_shape (hs.tx.at_ e hmem).row
  obtain⟨m,hmm⟩:∃x,e.EU.length=x:=⟨_,rfl⟩
  rw[hvu,hmm]at e3
  simp only[ptrT]at hcl
  have HMM:=Lib.hid hmm
  have HVU:=Lib.hid hvu
  have HME:=Lib.hid hmem
  have hm2:resA (EO.take (j+1))=rj+(192+upsA e.EU):=by rw[←HRJ.out];exact sum_take_succ _ _ _ _ hee
  have hm3:rj+(192+upsA e.EU)≤tot:=by rw[←hm2,←HTT.out];exact sum_take_le _ _ _
  have hm4:96*m≤upsA e.EU:=by
   rw[←hmm]
   generalize e.EU=l
   induction l with
   | nil=>simp
   | cons a r ih=>simp only[upsA,List.map_cons,List.sum_cons,List.length_cons]at ih⊢;omega
  have HM2:=Lib.hid hm2
  have hmb:m≤1099511627776:=by omega
  have hrb:rj+192≤1099511627776:=by omega
  clear hrow hjl e1 hee hbx hvu hmm hmem hs hm2
  go_wp2_with fail
  go_loopw [3,24] (fun s i wx=>∃q:Nat,q≤m∧i=.int .i64 q∧s=.int .i64 ((rj+192+upsA (e.EU.take q):Nat):Int)∧Below w.heap.size w wx) (fun _ i _=>m-(intOf i).toNat)
  case atStart=>exact⟨0,Nat.zero_le _,rfl,by show Value.int _ _=Value.int _ _;congr 1,HB.out⟩
  case round=>
   obtain⟨q,hq,rfl,rfl,hbl⟩:=hrel
   have HB2:=Lib.hid hbl
   obtain⟨rq,hrq⟩:∃x,upsA (e.EU.take q)=x:=⟨_,rfl⟩
   have hqt:rq≤upsA e.EU:=by rw[←hrq];exact sum_take_le _ _ _
   rw[hrq]
   have HRQ:=Lib.hid hrq
   clear hbl hrq
   by_cases hqm:q<m
   case neg=>
    have b3:decide (q<m)=false:=by simpa using hqm
    have b4:decide ((q:Int)<(m:Int))=false:=by simpa using hqm
    have e5:rq=upsA e.EU:=by rw[←HRQ.out,List.take_of_length_le (by rw[HMM.out];omega)]
    have HE5:=Lib.hid e5
    clear e5
    go_wp2_with fail
    go_roundw
    ·refine⟨j+1,by omega,by go_num,?_,HB2.out⟩
     rw[HM2.out,←HE5.out,Nat.add_assoc]
    ·simp[intOf];omega
   have b3:decide (q<m)=true:=by simpa using hqm
   have b4:decide ((q:Int)<(m:Int))=true:=by simpa using hqm
   have hql:q<e.EU.length:=by rw[HMM.out];exact hqm
   have hs:=HS.out.below HB2.out
   have hrow:=(hs.tx.at_ e HME.out).row
   rw[HMM.out]at hrow
   obtain⟨gu,cu2,e1,_,_⟩:=own_slice hrow (by omega)
   have e2:=e1
   rw[HVU.out]at e2
   injection e2 with e3' e4 e5
   subst e3'
   subst e5
   clear e4
   rw[e1]at hrow
   obtain⟨u,hue⟩:∃u,e.EU[q]? = some u:=⟨_,List.getElem?_eq_getElem hql⟩
   obtain⟨a2,c2,hv2,_⟩:=((hs.tx.at_ e HME.out).tb u (List.mem_of_getElem? hue)).1
   have hix:=fun i hi=>flat_ix (f:=ucell) (k:=5) (fun _=>rfl) e.EU q u hue i hi
   have k0:=own_at hrow (q*5+0) _ ((hix 0 (by decide)).trans rfl)
   have k1:=own_at hrow (q*5+1) _ ((hix 1 (by decide)).trans rfl)
   have k2:=own_at hrow (q*5+2) _ ((hix 2 (by decide)).trans rfl)
   have k3:=own_at hrow (q*5+3) _ ((hix 3 (by decide)).trans rfl)
   have k4:=own_at hrow (q*5+4) _ ((hix 4 (by decide)).trans rfl)
   rw[hv2]at k4
   have hub:=HU.out e HME.out u (List.mem_of_getElem? hue)
   have hst:upsA (e.EU.take (q+1))=rq+(96+u.1.before.length):=by rw[←HRQ.out];exact sum_take_succ _ _ _ _ hue
   have hst2:rq+(96+u.1.before.length)≤upsA e.EU:=by rw[←hst];exact sum_take_le _ _ _
   have HST:=Lib.hid hst
   obtain⟨mb,hmb2⟩:∃x,u.1.before.length=x:=⟨_,rfl⟩
   rw[hmb2]at hub hst2 k4
   have HMB:=Lib.hid hmb2
   clear hix hrow hs hue hv2 hst hmb2 hql e1
   generalize u.1.lsn=y1 at *
   generalize u.1.prev=y2 at *
   generalize u.1.page=y3 at *
   generalize u.1.off=y4 at *
   simp only[Nat.add_zero]at k0
   go_wp2_with fail
   refine(clr_any _ _ _ _ hub).mono ?_
   rintro e' y ⟨rfl,hb⟩
   have HB3:=Lib.hid hb
   clear hb k0 k1 k2 k3 k4
   go_wp2_with fail
   go_roundw
   ·refine⟨q+1,by omega,by go_num,?_,?_⟩
    ·rw[HST.out,HMB.out];show Value.int _ _=Value.int _ _;congr 1;omega
    ·exact below_then HB2.out HB3.out
   ·simp[intOf];omega
end
end
section
open Go.RowKit
def WSRo1(A:Adr)(σ:St)(vl vo:Value)(t2 rm rs k:Nat)(bo:Bool)(j b o:Nat):Prop:=False
def PSRo1(A:Adr)(σ:St)(vl vo:Value)(t2 rm rs k:Nat)(bo:Bool)(i:Nat)(v:Value)(lo hi:Nat)(w:World):Prop:=
 match i with
 | 0=>v=.pointer (some ⟨A.sb,0,none⟩)
 | 1=>v=.pointer (some ⟨A.sb,0,none⟩)
 | 2=>v=.pointer (some ⟨A.sb,1,none⟩)
 | 3=>v=.pointer (some ⟨A.r,0,none⟩)
 | 4=>v=.int .i64 ((rm:Nat):Int)
 | 5=>v=.pointer (some ⟨A.sb,0,none⟩)
 | 6=>v=.int .i64 ((rs:Nat):Int)
 | 7=>v=.int .i64 ((rm:Int)-(rs:Int))
 | 8=>v=.int .i64 ((rm:Int)-(rs:Int)-2048)
 | 9=>v=.int .i64 ((k:Nat):Int)
 | 10=>v=.bool bo
 | _=>True
theorem PSRo1_stable(A:Adr)(σ:St)(vl vo:Value)(t2 rm rs k:Nat)(bo:Bool)  : ∀i j,i<11→j<11→j≠i→j∉([[],[0],[0,1],[0,1,2],[0,1,2,3],[],[0,1,2,3,4,5],[0,1,2,3,4,5,6],[0,1,2,3,4,5,6,7],[],[0,1,2,3,4,5,6,7,8,9]]:List (List Nat)).getD i []→∀v lo hi w w',PSRo1 A σ vl vo t2 rm rs k bo i v lo hi w→GrowC (WSRo1 A σ vl vo t2 rm rs k bo j) w w'→PSRo1 A σ vl vo t2 rm rs k bo i v lo hi w':=by
 intro i j hi hj hne hbs v lo hj2 w w' h hg
 match i,hi with
 | 0,_|1,_|2,_|3,_|4,_|5,_|6,_|7,_|8,_|9,_|10,_=>
  simp only[PSRo1]at h⊢
  exact h
 | (q+11),hq=>exact absurd hq (by omega)
section
variable{W0 w w':World}{A:Adr}{c:Cf}{σ:St}{S:Nat→Prop}{vl vo:Value}{EL:List Le}{EO:List Te}{K S1:Nat→Prop}{X:Nat→Prop}
theorem sroom_at(h:SvAt W0 w A c σ vl vo EL EO K S1):Calls Tryz.prog 88 #[.pointer (some ⟨A.r,0,none⟩)] w fun e w'=>e=.returned (.int .i64 (σ.io.R.room c.n:Nat))∧Quiet w w':=by
 obtain⟨S5,hrg5,_⟩:=h.sp.putRg
 obtain⟨vb5,hat5⟩:=hrg5.at
 exact rroom_at hat5 hrg5.ok
theorem sroom_le(h:SvAt W0 w A c σ vl vo EL EO K S1):σ.io.R.room c.n≤1099511627776:=by
 obtain⟨S5,hrg5,_⟩:=h.sp.putRg
 have h1:=hrg5.ok.n3
 have h2:=hrg5.ok.sf
 have h3:=hrg5.ok.ft
 have h4:=hrg5.ok.top
 unfold Rg.room
 generalize σ.io.R.tail=t at *
 generalize σ.io.R.start=s at *
 omega
set_option maxRecDepth 100000 in
set_option maxHeartbeats 3200000 in
theorem room_ok(h:SvAt W0 w A c σ vl vo EL EO K S1)(hn:EO.length≤1073741824)(hr:resA EO≤1099511627776)(hu:∀e∈EO,∀u∈e.EU,u.1.before.length≤1048576)(k:Nat)(hk:k+2048+resA EO≤σ.io.R.room c.n):
  Calls Tryz.prog 53 #[.pointer (some ⟨A.sb,0,none⟩),.int .i64 (k:Nat)] w fun e w'=>e=.returned (.int .i64 0)∧Below w.heap.size w w':=by
 have HS:=Lib.hid h
 have HN:=Lib.hid hn
 have HR:=Lib.hid hr
 have HU:=Lib.hid hu
 have hle:=sroom_le h
 obtain⟨rm,hrm⟩:∃x,σ.io.R.room c.n=x:=⟨_,rfl⟩
 obtain⟨rs,hrs⟩:∃x,resA EO=x:=⟨_,rfl⟩
 rw[hrm]at hk hle
 rw[hrs]at hk hr
 have HRM:=Lib.hid hrm
 have HRS:=Lib.hid hrs
 have hbx:=Box.new w #[.pointer (some ⟨A.sb,0,none⟩)] 28 rfl
 have hal:Below w.heap.size w (w.alloc (.cells #[.pointer (some ⟨A.sb,0,none⟩)] 28)):=(Below.refl _ _).alloc (Nat.le_refl _) _
 have HAL:=Lib.hid hal
 obtain⟨t2,ht2⟩:∃x,w.heap.size=x:=⟨_,rfl⟩
 have HT2:=Lib.hid ht2
 clear h hrm hrs hn hu hal
 go_enter Tryz.func53,Tryz.ntmps53
 go_upto_region 1 with (fail)
 rw[ht2]at hbx
 try rw[ht2]
 have hw1:∃o,w.alloc (.cells #[.pointer (some ⟨A.sb,0,none⟩)] 28)=w.alloc o:=⟨_,rfl⟩
 obtain⟨w1,hw1⟩:∃x,w.alloc (.cells #[.pointer (some ⟨A.sb,0,none⟩)] 28)=x:=⟨_,rfl⟩
 rw[hw1]at hbx⊢
 have HW1:=Lib.hid hw1
 have HS1:Hid (SvAt W0 w1 A c σ vl vo EL EO K S1):=Lib.hid (hw1▸HS.out.below HAL.out)
 have bb:Box w1 t2 [.pointer (some ⟨A.sb,0,none⟩)]:=hbx
 have bs:Box w1 A.sb [.pointer (some ⟨A.d,0,none⟩),.pointer (some ⟨A.r,0,none⟩),.pointer (some ⟨A.f,0,none⟩),.pointer (some ⟨A.g,0,none⟩),vl,vo,.int .i64 (σ.master:Nat),.int .i64 (σ.next:Nat),.int .i64 (σ.commits:Nat),.bool false,.int .i64 (σ.redone:Nat),.int .i64 (σ.undone:Nat)]:=HS1.out.sbx
 have hB:Below w1.heap.size w1 w1:=Below.refl _ _
 clear hbx hw1 ht2
 have hbb:decide (((rm:Int)-(rs:Int)-2048)≥(k:Int))=true:=by simp;omega
 have HBB:=Lib.hid hbb
 clear hbb
 refine wp_region_partsDC (WSRo1 A σ vl vo t2 rm rs k true) 11 [[],[0],[0,1],[0,1,2],[0,1,2,3],[],[0,1,2,3,4,5],[0,1,2,3,4,5,6],[0,1,2,3,4,5,6,7],[],[0,1,2,3,4,5,6,7,8,9]] [some 6,some 7,some 8,some 9,some 10,some 11,some 12,some 13,some 14,some 15,some 16] (by kernel_rfl) (by kernel_rfl) rfl (PSRo1 A σ vl vo t2 rm rs k true) (PSRo1_stable A σ vl vo t2 rm rs k true) ?pSRo1 ?_
 case pSRo1=>
  intro i hi o ho vs lo hx_ w' hg hp
  match i,hi with
  | 0,_|5,_=>
   obtain rfl:=Option.some.inj ho
   clear ho
   simp only[actsD,Act.put,actL]
   have hsz:=hg.size
   have hgB:Below w1.heap.size w1 w':=hg.below (fun k hk=>⟨hk,fun o=>by rintro⟨j,_,_,_,hw⟩;exact False.elim hw⟩)
   have e0:=(hg.cell (t2) 0 bb.lt (by rintro⟨j,_,hne,hb,hw⟩;exact False.elim hw)).trans (bb.cell 0 _ rfl)
   go_wp2
   exact⟨_,rfl,GrowC.refl _,rfl⟩
  | 1,_=>
   obtain rfl:=Option.some.inj ho
   clear ho
   simp only[actsD,Act.put,actL]
   obtain⟨_,_,_,h0⟩:=hp 0 (by simp)
   simp only[PSRo1]at h0
   have hsz:=hg.size
   have hgB:Below w1.heap.size w1 w':=hg.below (fun k hk=>⟨hk,fun o=>by rintro⟨j,_,_,_,hw⟩;exact False.elim hw⟩)
   rw[h0]
   go_wp2
   exact⟨_,rfl,GrowC.refl _,rfl⟩
  | 2,_=>
   obtain rfl:=Option.some.inj ho
   clear ho
   simp only[actsD,Act.put,actL]
   obtain⟨_,_,_,h1⟩:=hp 1 (by simp)
   simp only[PSRo1]at h1
   have hsz:=hg.size
   have hgB:Below w1.heap.size w1 w':=hg.below (fun k hk=>⟨hk,fun o=>by rintro⟨j,_,_,_,hw⟩;exact False.elim hw⟩)
   rw[h1]
   go_wp2
   exact⟨_,rfl,GrowC.refl _,rfl⟩
  | 3,_=>
   obtain rfl:=Option.some.inj ho
   clear ho
   simp only[actsD,Act.put,actL]
   obtain⟨_,_,_,h2⟩:=hp 2 (by simp)
   simp only[PSRo1]at h2
   have hsz:=hg.size
   have hgB:Below w1.heap.size w1 w':=hg.below (fun k hk=>⟨hk,fun o=>by rintro⟨j,_,_,_,hw⟩;exact False.elim hw⟩)
   rw[h2]
   have e0:=(hg.cell (A.sb) 1 bs.lt (by rintro⟨j,_,hne,hb,hw⟩;exact False.elim hw)).trans (bs.cell 1 _ rfl)
   go_wp2
   exact⟨_,rfl,GrowC.refl _,rfl⟩
  | 4,_=>
   obtain rfl:=Option.some.inj ho
   clear ho
   simp only[actsD,Act.put,actL]
   obtain⟨_,_,_,h3⟩:=hp 3 (by simp)
   simp only[PSRo1]at h3
   have hsz:=hg.size
   have hgB:Below w1.heap.size w1 w':=hg.below (fun k hk=>⟨hk,fun o=>by rintro⟨j,_,_,_,hw⟩;exact False.elim hw⟩)
   rw[h3]
   have hcall:=sroom_at (HS1.out.below hgB)
   have HCA:=Lib.hid hcall
   clear hcall
   go_wp2_with fail
   refine HCA.out.mono ?_
   rintro e wh ⟨rfl,hq⟩
   rw[HRM.out]
   have hbl:=hq.below
   go_wp2
   exact⟨_,rfl,GrowC.of_grow ⟨hbl.os,hbl.tape,hbl.output,hbl.size,hbl.block⟩,rfl⟩
  | 6,_=>
   obtain rfl:=Option.some.inj ho
   clear ho
   simp only[actsD,Act.put,actL]
   obtain⟨_,_,_,h5⟩:=hp 5 (by simp)
   simp only[PSRo1]at h5
   have hsz:=hg.size
   have hgB:Below w1.heap.size w1 w':=hg.below (fun k hk=>⟨hk,fun o=>by rintro⟨j,_,_,_,hw⟩;exact False.elim hw⟩)
   rw[h5]
   have hcall:=reserved_at (HS1.out.below hgB) HN.out HR.out HU.out
   have HCA:=Lib.hid hcall
   clear hcall
   go_wp2_with fail
   refine HCA.out.mono ?_
   rintro e wh ⟨rfl,hbl⟩
   rw[HRS.out]
   go_wp2
   exact⟨_,rfl,GrowC.of_grow ⟨hbl.os,hbl.tape,hbl.output,hbl.size,hbl.block⟩,rfl⟩
  | 7,_=>
   obtain rfl:=Option.some.inj ho
   clear ho
   simp only[actsD,Act.put,actL]
   obtain⟨_,_,_,h4⟩:=hp 4 (by simp)
   simp only[PSRo1]at h4
   obtain⟨_,_,_,h6⟩:=hp 6 (by simp)
   simp only[PSRo1]at h6
   have hsz:=hg.size
   have hgB:Below w1.heap.size w1 w':=hg.below (fun k hk=>⟨hk,fun o=>by rintro⟨j,_,_,_,hw⟩;exact False.elim hw⟩)
   rw[h4,h6]
   go_wp2
   refine⟨_,rfl,GrowC.refl _,?_⟩
   simp only[PSRo1]
   first|rfl|omega|(congr 1<;>omega)|skip
  | 8,_=>
   obtain rfl:=Option.some.inj ho
   clear ho
   simp only[actsD,Act.put,actL]
   obtain⟨_,_,_,h7⟩:=hp 7 (by simp)
   simp only[PSRo1]at h7
   have hsz:=hg.size
   have hgB:Below w1.heap.size w1 w':=hg.below (fun k hk=>⟨hk,fun o=>by rintro⟨j,_,_,_,hw⟩;exact False.elim hw⟩)
   rw[h7]
   go_wp2
   refine⟨_,rfl,GrowC.refl _,?_⟩
   simp only[PSRo1]
   first|rfl|omega|(congr 1<;>omega)|skip
  | 9,_=>
   obtain rfl:=Option.some.inj ho
   clear ho
   simp only[actsD,Act.put,actL]
   have hsz:=hg.size
   have hgB:Below w1.heap.size w1 w':=hg.below (fun k hk=>⟨hk,fun o=>by rintro⟨j,_,_,_,hw⟩;exact False.elim hw⟩)
   go_wp2
   exact⟨_,rfl,GrowC.refl _,rfl⟩
  | 10,_=>
   obtain rfl:=Option.some.inj ho
   clear ho
   simp only[actsD,Act.put,actL]
   obtain⟨_,_,_,h8⟩:=hp 8 (by simp)
   simp only[PSRo1]at h8
   obtain⟨_,_,_,h9⟩:=hp 9 (by simp)
   simp only[PSRo1]at h9
   have hsz:=hg.size
   have hgB:Below w1.heap.size w1 w':=hg.below (fun k hk=>⟨hk,fun o=>by rintro⟨j,_,_,_,hw⟩;exact False.elim hw⟩)
   rw[h8,h9]
   have hbb:=HBB.out
   go_wp2
   exact⟨_,rfl,GrowC.refl _,rfl⟩
  | (q+11),hq=>exact absurd hq (by omega)
 intro vS lo hi w5 hg hp hd
 obtain⟨_,_,_,h0⟩:=hp 0 (by decide)
 obtain⟨_,_,_,h1⟩:=hp 1 (by decide)
 obtain⟨_,_,_,h2⟩:=hp 2 (by decide)
 obtain⟨_,_,_,h3⟩:=hp 3 (by decide)
 obtain⟨_,_,_,h4⟩:=hp 4 (by decide)
 obtain⟨_,_,_,h5⟩:=hp 5 (by decide)
 obtain⟨_,_,_,h6⟩:=hp 6 (by decide)
 obtain⟨_,_,_,h7⟩:=hp 7 (by decide)
 obtain⟨_,_,_,h8⟩:=hp 8 (by decide)
 obtain⟨_,_,_,h9⟩:=hp 9 (by decide)
 obtain⟨_,_,_,h10⟩:=hp 10 (by decide)
 simp only[PSRo1]at h0 h1 h2 h3 h4 h5 h6 h7 h8 h9 h10
 clear hp hd
 have hsz:=hg.size
 replace bs:=bs.grow hg (by intro i _;rintro⟨j,_,hw⟩;exact False.elim hw)
 replace bb:=bb.grow hg (by intro i _;rintro⟨j,_,hw⟩;exact False.elim hw)
 replace hB:=hB.trans (hg.below (fun k hk=>⟨by omega,fun o=>by rintro⟨j,_,hw⟩;exact False.elim hw⟩))
 have hr:List.range 11=[0,1,2,3,4,5,6,7,8,9,10]:=rfl
 rw[hr]
 clear hr
 simp only[List.drop_succ_cons,List.drop_zero,List.drop_nil,actsD,Act.put,actL,h0,h1,h2,h3,h4,h5,h6,h7,h8,h9,h10]
 clear h0 h1 h2 h3 h4 h5 h6 h7 h8 h9 h10
 have HB5:Hid (Below (w.alloc (.cells #[.pointer (some ⟨A.sb,0,none⟩)] 28)).heap.size (w.alloc (.cells #[.pointer (some ⟨A.sb,0,none⟩)] 28)) w5):=Lib.hid (HW1.out▸hB)
 clear hB hg hsz
 go_wp2_with fail
 go_ret
 exact⟨rfl,below_then (Below.refl _ _) HB5.out⟩
end
end
section
open Go.RowKit
section
variable{W0 w w2:World}{A:Adr}{c:Cf}{σ:St}{S:Nat→Prop}{vl vo vo':Value}{EL:List Le}{EO EO':List Te}{K S1:Nat→Prop}{X:Nat→Prop}
theorem SvAt.txs(h:SvAt W0 w A c σ vl vo EL EO K S1)(hg:GrowX X w w2)(hX:∀k,X k→TxFoot vo EO k∨w.heap.size≤k)(tx':TxV W0 w2 vo EO' K)(new:∀k,TxFoot vo EO' k→TxFoot vo EO k∨w.heap.size≤k):
  SvAt W0 w2 A c { σ with opn:=EO'.map (·.x) } vl vo EL EO' K S1:=by
 have hlt:=h.lt
 have hb:Below W0.heap.size W0 w2:=h.bel.trans (hg.below (fun k hk=>⟨Nat.lt_of_lt_of_le hk h.bel.size,fun hx=>by
  rcases hX k hx with hx|hx
  ·have:=(h.tx.lt k hx).1;omega
  ·have:=h.bel.size;omega⟩))
 have nx:∀k,k<w.heap.size→¬TxFoot vo EO k→¬X k:=fun k h1 h2 h3=>(hX k h3).elim h2 (fun h=>by omega)
 have dj:∀(P:Nat→Prop),(∀k,P k→k<w.heap.size)→(∀k,P k→¬TxFoot vo EO k)→∀k,P k→¬TxFoot vo EO' k:=fun P h1 h2 k hk hx=>(new k hx).elim (h2 k hk) (fun h=>by have:=h1 k hk;omega)
 exact⟨h.sp.grow hg (fun k hk hx=>nx k (hlt k (.inl hk)).2 (h.d2 k hk) hx) hb,
  h.ln.grow hg (fun q e=>nx q (hlt q (.inr (.inl e))).2 (h.d3 q e)) (fun k hk=>nx k (h.kin k hk).2 (h.k3 k hk)),h.lis,tx',rfl,
  fun k hk=>⟨(h.kin k hk).1,Nat.lt_of_lt_of_le (h.kin k hk).2 hg.size⟩,h.d1,dj _ (fun k hk=>(hlt k (.inl hk)).2) h.d2,dj _ (fun k hk=>(hlt k (.inr (.inl hk))).2) h.d3,h.k1,h.k2,dj _ (fun k hk=>(h.kin k hk).2) h.k3⟩
theorem SvAt.opn(h:SvAt W0 w A c σ vl vo EL EO K S1)(hg:GrowX X w w2)(hX:∀k,X k→TxFoot vo EO k∨w.heap.size≤k)(tx':TxV W0 w2 vo' EO' K)(new:∀k,TxFoot vo' EO' k→TxFoot vo EO k∨w.heap.size≤k):
  ∃S1',SvAt W0 (w2.setCell ⟨A.sb,5,none⟩ vo') A c { σ with opn:=EO'.map (·.x) } vl vo' EL EO' K S1'∧GrowX (fun k=>S1 k∨TxFoot vo EO k) w (w2.setCell ⟨A.sb,5,none⟩ vo')∧(∀k,S1' k→S1 k∨w.heap.size≤k):=by
 have hlt:=h.lt
 have hb:Below W0.heap.size W0 w2:=h.bel.trans (hg.below (fun k hk=>⟨Nat.lt_of_lt_of_le hk h.bel.size,fun hx=>by
  rcases hX k hx with hx|hx
  ·have:=(h.tx.lt k hx).1;omega
  ·have:=h.bel.size;omega⟩))
 have nx:∀k,k<w.heap.size→¬TxFoot vo EO k→¬X k:=fun k h1 h2 h3=>(hX k h3).elim h2 (fun h=>by omega)
 have hsb:S1 A.sb:=h.sbS
 have hsl:=(hlt _ (.inl hsb)).2
 obtain⟨S9,z1,z2⟩:=(h.sp.grow hg (fun k hk hx=>nx k (hlt k (.inl hk)).2 (h.d2 k hk) hx) hb).poke 5 (by decide) vo'
 have k3:=growX_setCell w2 A.sb 5 vo'
 have hnew:∀k,S9 k→S1 k∨w.heap.size≤k:=fun k hk=>(z2.new k hk).imp id (fun h=>Nat.le_trans hg.size h)
 have ntx:∀k,TxFoot vo' EO' k→¬k=A.sb:=fun k hk e=>by
  subst e
  exact(new _ hk).elim (h.d2 _ hsb) (fun h=>by omega)
 have hall:GrowX (fun k=>S1 k∨TxFoot vo EO k) w (w2.setCell ⟨A.sb,5,none⟩ vo'):=by
  refine(⟨hg.os,hg.tape,hg.output,hg.size,fun k hk hx=>hg.block k hk (fun hX2=>(hX k hX2).elim (fun h=>hx (.inr h)) (fun h=>by omega))⟩:GrowX (fun k=>S1 k∨TxFoot vo EO k) w w2).trans (k3.mono (fun k e=>.inl (e▸hsb)))
 have hks:=k3.size
 have hgs:=hg.size
 have dn:∀(P:Nat→Prop),(∀k,P k→k<w.heap.size)→(∀k,P k→¬S1 k)→∀k,P k→¬S9 k:=fun P h1 h2 k hk hx=>(hnew k hx).elim (h2 k hk) (fun h=>by have:=h1 k hk;omega)
 have dj:∀(P:Nat→Prop),(∀k,P k→k<w.heap.size)→(∀k,P k→¬TxFoot vo EO k)→∀k,P k→¬TxFoot vo' EO' k:=fun P h1 h2 k hk hx=>(new k hx).elim (h2 k hk) (fun h=>by have:=h1 k hk;omega)
 refine⟨S9,⟨z1,(h.ln.grow hg (fun q e=>nx q (hlt q (.inr (.inl e))).2 (h.d3 q e)) (fun k hk=>nx k (h.kin k hk).2 (h.k3 k hk))).grow k3 (fun q e e2=>h.d1 q (e2▸hsb) e) (fun k hk e2=>h.k1 k hk (e2▸hsb)),h.lis,tx'.grow k3 ntx (fun k hk e2=>h.k1 k hk (e2▸hsb)),rfl,
  fun k hk=>⟨(h.kin k hk).1,by have:=(h.kin k hk).2;omega⟩,?_,?_,dj _ (fun k hk=>(hlt k (.inr (.inl hk))).2) h.d3,dn _ (fun k hk=>(h.kin k hk).2) h.k1,h.k2,dj _ (fun k hk=>(h.kin k hk).2) h.k3⟩,hall,hnew⟩
 ·exact fun k h1 h2=>dn (ownS vl) (fun k hk=>(hlt k (.inr (.inl hk))).2) (fun k a b=>h.d1 k b a) k h2 h1
 ·intro k h1 h2
  rcases z2.new k h1 with h3|h3
  ·rcases new k h2 with h4|h4
   ·exact h.d2 k h3 h4
   ·have:=(hlt k (.inl h3)).2;omega
  ·have:=(tx'.lt k h2).2;omega
theorem SvAt.pokeN{σ':St}(h:SvAt W0 w A c σ vl vo EL EO K S1)(i:Nat)(hi:i≠1)(v:Value)(he:(scells A σ vl vo).set i v=scells A σ' vl vo)(hp:σ'.p=σ.p)(hio:σ'.io=σ.io)(hl:σ'.lines=σ.lines)(ho:σ'.opn=σ.opn):
  ∃S1',SvAt W0 (w.setCell ⟨A.sb,i,none⟩ v) A c σ' vl vo EL EO K S1'∧Foot S1 S1' w (w.setCell ⟨A.sb,i,none⟩ v):=by
 obtain⟨S1',z1,z2⟩:=h.sp.poke i hi v
 simp only[he]at z1
 rw[←hp,←hio]at z1
 obtain⟨z3,z4⟩:=h.putS (σ':=σ') (S1':=S1') z1 z2 hl ho
 exact⟨S1',z3,z2⟩
theorem lay0_at(h:SvAt W0 w A c σ vl vo EL EO K S1)(r:Rc)(hs:r.small)(hb:r.before=[])(ha:r.after=[])(hr:96≤σ.io.R.room c.n)(ht:σ.io.R.tail+96≤1099511627775)(hl:EL.length≤1073741824):
  Calls Tryz.prog 55 #[.pointer (some ⟨A.sb,0,none⟩),.agg (recC r none none 0 0 0 0)] w fun e w'=>∃vl' S1',e=.returned (.tuple #[.int .i64 ((σ.io.R.tail+1:Nat):Int),.int .i64 0])∧
   SvAt W0 w' A c { σ with io:={ σ.io with R:=σ.io.R.app r.enc },lines:=σ.lines++[(σ.io.R.tail+1,r)] } vl' vo (EL++[⟨σ.io.R.tail+1,r,.slice none 0 0,.slice none 0 0⟩]) EO K S1'∧
   GrowX (fun k=>S1 k∨ownS vl k) w w'∧(∀k,S1' k→S1 k∨w.heap.size≤k)∧(∀q,ownS vl' q→ownS vl q∨w.heap.size≤q):=by
 have hz:r.size=96:=by unfold Rc.size;rw[hb,ha,hs.t,hs.d];rfl
 have hn:Reads 1 w (.slice none 0 0) 0 (([]:List UInt8).map B):=⟨none,0,rfl,rfl,Nat.le_refl _,fun h=>absurd h (by omega)⟩
 have ho:∀q,¬(Value.slice none 0 0).ownBlock=some q:=fun q e=>by cases e
 refine(lay_at h r hs none none 0 0 0 0 (by rw[hb];rfl) (by rw[ha];rfl) (by rw[hb];exact hn) (by rw[ha];exact hn) (by rw[hz];exact hr) (by rw[hz];exact ht) hl (fun _=>False) (fun q e=>ho q e) (fun q e=>ho q e) (fun k h=>h.elim) (fun _ h=>h.elim) (fun _ h=>h.elim) (fun _ h=>h.elim)).mono ?_
 rintro e w' ⟨vl',S1',h1,h2,h3,h4,h5⟩
 have e:(fun k=>K k∨False)=K:=by funext k;simp
 rw[e]at h2
 exact⟨vl',S1',h1,h2,h3,h4,h5⟩
end
end
section
open Go.RowKit
theorem txnsOf:SliceOf Tryz.prog 93 100 (.pointer none) 1 8:=⟨Tryz.underlying93,by kernel_rfl,rfl,by decide⟩
section
variable{W0 w w' w2:World}{A:Adr}{c:Cf}{σ:St}{S:Nat→Prop}{vl vl' vo vo':Value}{EL EL':List Le}{EO EO':List Te}{K K' S1 S1':Nat→Prop}{X:Nat→Prop}
theorem sfoot_foot(hg:GrowX (sfoot S1 vl vo EO K) w w')(n1:∀k,S1' k→S1 k∨w.heap.size≤k)(n2:∀k,ownS vl' k→ownS vl k∨w.heap.size≤k)(n3:∀k,TxFoot vo' EO' k→TxFoot vo EO k∨w.heap.size≤k)(n4:∀k,K' k→K k∨w.heap.size≤k):
  Foot (sfoot S1 vl vo EO K) (sfoot S1' vl' vo' EO' K') w w':=by
 refine⟨hg,?_⟩
 rintro k (h|h|h|h)
 ·exact(n1 k h).imp .inl id
 ·exact(n2 k h).imp (fun h=>.inr (.inl h)) id
 ·exact(n3 k h).imp (fun h=>.inr (.inr (.inl h))) id
 ·exact(n4 k h).imp (fun h=>.inr (.inr (.inr h))) id
theorem TxFoot.append{e:Te}{k:Nat}(h:TxFoot vo (EO++[e]) k):TxFoot vo EO k∨e.fp k:=by
 rcases h with h|⟨x,hx,h⟩
 ·exact .inl (.inl h)
 ·rcases List.mem_append.1 hx with hx|hx
  ·exact .inl (.inr ⟨x,hx,h⟩)
  ·obtain rfl:=List.mem_singleton.1 hx
   exact .inr h
theorem TxV.push{g id l:Nat}(h:TxV W0 w vo EO K)(hg:GrowX (fun b=>vo.ownBlock=some b) w w2)(hrow:w2.ownsRow W0.heap.size 100 1 vo' (EO.length+1) (EO.map ptrT++[ptrT ⟨g,⟨id,l,l,[]⟩,.slice none 0 0,[]⟩]))(hk:∀k,K k→¬vo.ownBlock=some k)
  (hn:∀q,vo'.ownBlock=some q→vo.ownBlock=some q∨w.heap.size≤q) (hbx:Box w2 g [.int .i64 (id:Nat),.int .i64 (l:Nat),.int .i64 (l:Nat),.slice none 0 0]) (hgg:w.heap.size≤g) (hW:W0.heap.size≤w.heap.size):
  TxV W0 w2 vo' (EO++[⟨g,⟨id,l,l,[]⟩,.slice none 0 0,[]⟩]) K:=by
 have hfp:∀e∈EO,∀k,e.fp k→k<w.heap.size:=fun e he k hk=>(h.lt k (.inr ⟨e,he,hk⟩)).2
 refine⟨?_,?_,?_,?_⟩
 ·rw[List.length_append,List.map_append];exact hrow
 ·intro e he
  rcases List.mem_append.1 he with he|he
  ·exact(h.at_ e he).grow hg (fun k hk e2=>h.no e he k e2 hk) hk
  ·obtain rfl:=List.mem_singleton.1 he
   exact⟨hbx,World.ownsRow_nil _ _ _ _,rfl,fun u hu=>absurd hu (by simp),Nat.le_trans hW hgg,fun q e=>by cases e⟩
 ·rw[List.pairwise_append]
  refine⟨h.pw,List.pairwise_singleton _ _,fun a ha b hb k h1 h2=>?_⟩
  obtain rfl:=List.mem_singleton.1 hb
  rcases h2 with h2|h2
  ·subst h2
   have:=hfp a ha _ h1
   omega
  ·cases h2
 ·intro e he q hq hf
  rcases List.mem_append.1 he with he|he
  ·rcases hn q hq with h1|h1
   ·exact h.no e he q h1 hf
   ·have:=hfp e he q hf;omega
  ·obtain rfl:=List.mem_singleton.1 he
   rcases hf with hf|hf
   ·subst hf
    obtain⟨gq,cq,e1,_,_⟩:=own_slice hrow (by omega)
    rw[e1]at hq hrow
    have e2:gq=q:=by simpa[Value.ownBlock]using hq
    subst e2
    have c1:=hbx.cell 0 _ rfl
    cases EO with
    | nil=>
     have c2:=own_at hrow 0 _ rfl
     rw[c1]at c2;cases c2
    | cons a r=>
     have c2:=own_at hrow 0 (ptrT a) rfl
     rw[c1]at c2;cases c2
   ·cases hf
end
theorem enc_len(r:Rc)(ht:r.txns=[])(hd:r.dirty=[]):r.enc.length=r.size:=by
 unfold Rc.enc Rc.size
 rw[ht,hd]
 simp only[List.length_append,be8_len,List.flatMap_nil,List.length_nil]
 omega
theorem St.lay_eq(σ:St)(c:Cf)(r:Rc)(ht:r.txns=[])(hd:r.dirty=[])(hr:r.size≤σ.io.R.room c.n):
  σ.lay c r=(0,σ.io.R.tail+1,{ σ with io:={ σ.io with R:=σ.io.R.app r.enc },lines:=σ.lines++[(σ.io.R.tail+1,r)] }):=by
 unfold St.lay
 rw[if_neg (by rw[enc_len r ht hd];omega)]
 rfl
theorem begin_eq(σ:St)(c:Cf)(hr:96≤σ.io.R.room c.n):(σ.begin_ c).2.2={ σ with io:={ σ.io with R:=σ.io.R.app (Rc.enc { Rc.zero with kind:=1,txn:=σ.next }) },lines:=σ.lines++[(σ.io.R.tail+1,{ Rc.zero with kind:=1,txn:=σ.next })],opn:=σ.opn++[⟨σ.next,σ.io.R.tail+1,σ.io.R.tail+1,[]⟩],next:=σ.next+1 }:=by
 unfold St.begin_
 simp only[]
 rw[St.lay_eq σ c { Rc.zero with kind:=1,txn:=σ.next } rfl rfl hr]
 simp only[if_pos]
def WSBe10(A:Adr)(σ:St)(vl4 vo:Value)(nx T n G G0:Nat)(EO:List Te)(j b o:Nat):Prop:=(j=14∧vo.ownBlock=some b)
def PSBe10(A:Adr)(σ:St)(vl4 vo:Value)(nx T n G G0:Nat)(EO:List Te)(i:Nat)(VS:Nat→Value)(LO HI:Nat→Nat)(v:Value)(lo hi:Nat)(w:World):Prop:=
 match i with
 | 0=>v=.pointer (some ⟨A.sb,0,none⟩)
 | 1=>v=.pointer (some ⟨A.sb,0,none⟩)
 | 2=>v=.pointer (some ⟨A.sb,0,none⟩)
 | 3=>v=.pointer (some ⟨A.sb,5,none⟩)
 | 4=>v=vo
 | 5=>v=.pointer (some ⟨A.sb,0,none⟩)
 | 6=>v=.pointer (some ⟨A.sb,0,none⟩)
 | 7=>v=.pointer (some ⟨A.sb,7,none⟩)
 | 8=>v=.int .i64 (nx:Nat)
 | 9=>v=.int .i64 ((T+1:Nat):Int)
 | 10=>v=.int .i64 ((T+1:Nat):Int)
 | 11=>v=.agg #[.int .i64 (nx:Nat),.int .i64 ((T+1:Nat):Int),.int .i64 ((T+1:Nat):Int),.slice none 0 0]
 | 12=>∃g,v=.pointer (some ⟨g,0,none⟩)∧G≤g∧Box w g [.int .i64 (nx:Nat),.int .i64 ((T+1:Nat):Int),.int .i64 ((T+1:Nat):Int),.slice none 0 0]
 | 13=>∃g2,v=.slice (some ⟨g2,0,none⟩) 1 1∧G≤g2∧Reads 1 w v 1 [VS 12]
 | 14=>∃ao k,v=.slice ao (n+1) k∧w.ownsRow G0 100 1 (.slice ao (n+1) k) (n+1) (EO.map ptrT++[VS 12])∧∀q,(Value.slice ao (n+1) k).ownBlock=some q→vo.ownBlock=some q∨G≤q
 | 15=>v=.pointer (some ⟨A.sb,0,none⟩)
 | 16=>v=.pointer (some ⟨A.sb,5,none⟩)
 | _=>True
abbrev bSBe10:List (List Nat):=[[],[],[1],[1,2],[1,2,3],[],[5],[5,6],[5,6,7],[],[],[5,6,7,8,9,10],[5,6,7,8,9,10,11],[5,6,7,8,9,10,11,12],[1,2,3,4,5,6,7,8,9,10,11,12,13],[0,1,2,3,4,5,6,7,8,9,10,11,12,13,14],[0,1,2,3,4,5,6,7,8,9,10,11,12,13,14,15]]
theorem PSBe10_stable(A:Adr)(σ:St)(vl4 vo:Value)(nx T n G G0:Nat)(EO:List Te)(hv:∀q,vo.ownBlock=some q→q<G):∀i j,i<17→j<17→j≠i→j∉bSBe10.getD i []→(i,j)∉([]:List (Nat×Nat))→∀VS LO HI v lo hi w w',PSBe10 A σ vl4 vo nx T n G G0 EO i VS LO HI v lo hi w→GrowC (WSBe10 A σ vl4 vo nx T n G G0 EO j) w w'→PSBe10 A σ vl4 vo nx T n G G0 EO i VS LO HI v lo hi w':=by
 intro i j hi hj hne hbs hx VS LO HI v lo hj2 w w' h hg
 match i,hi with
 | 0,_|1,_|2,_|3,_|4,_|5,_|6,_|7,_|8,_|9,_|10,_|11,_|15,_|16,_=>
  simp only[PSBe10]at h⊢
  exact h
 | 12,_=>
  simp only[PSBe10]at h⊢
  obtain⟨g,h1,h2,h3⟩:=h
  have hgx:GrowX (fun b=>vo.ownBlock=some b) w w':=GrowX.of_growC hg (fun k o h=>h.2)
  exact⟨g,h1,h2,h3.growx hgx (fun e=>by have:=hv _ e;omega)⟩
 | 13,_=>
  simp only[PSBe10]at h⊢
  obtain⟨g,h1,h2,h3⟩:=h
  have hgx:GrowX (fun b=>vo.ownBlock=some b) w w':=GrowX.of_growC hg (fun k o h=>h.2)
  exact⟨g,h1,h2,h3.growx hgx (fun q e hx=>by rw[h1]at e;have e2:g=q:=(by simpa[Value.ownBlock]using e);have:=hv _ hx;omega)⟩
 | 14,_=>
  simp only[PSBe10]at h⊢
  obtain⟨ao,k,h1,h2,h3⟩:=h
  exact⟨ao,k,h1,own_growx h2 (GrowX.of_growC hg (Y:=fun _=>False) (fun k o h=>hne h.1)) (fun _ _ h=>h),h3⟩
 | (q+17),hq=>exact absurd hq (by omega)
theorem PSBe10_cong(A:Adr)(σ:St)(vl4 vo:Value)(nx T n G G0:Nat)(EO:List Te):∀i,i<17→∀VS VS' LO LO' HI HI' v lz hz w,(∀j∈bSBe10.getD i [],VS j=VS' j∧LO j=LO' j∧HI j=HI' j)→PSBe10 A σ vl4 vo nx T n G G0 EO i VS LO HI v lz hz w→PSBe10 A σ vl4 vo nx T n G G0 EO i VS' LO' HI' v lz hz w:=by
 intro i hi VS VS' LO LO' HI HI' v lz hz w he h
 match i,hi with
 | 0,_|1,_|2,_|3,_|4,_|5,_|6,_|7,_|8,_|9,_|10,_|11,_|12,_|15,_|16,_=>
  simp only[PSBe10]at h⊢
  exact h
 | 13,_|14,_=>
  simp only[PSBe10]at h⊢
  obtain⟨e12a,e12b,e12c⟩:=he 12 (by decide)
  simp only[←e12a,←e12b,←e12c]
  exact h
 | (q+17),hq=>exact absurd hq (by omega)
section
variable{W0 w w':World}{A:Adr}{c:Cf}{σ:St}{S:Nat→Prop}{vl vo:Value}{EL:List Le}{EO:List Te}{K S1:Nat→Prop}{X:Nat→Prop}
set_option maxRecDepth 100000 in
set_option maxHeartbeats 6400000 in
theorem begin_at(h:SvAt W0 w A c σ vl vo EL EO K S1)(hn:EO.length≤1073741823)(hr:resA EO≤1099511627776)(hu:∀e∈EO,∀u∈e.EU,u.1.before.length≤1048576)(hk:2336+resA EO≤σ.io.R.room c.n)(ht:σ.io.R.tail+96≤1099511627775)(hl:EL.length≤1073741824)(hnx:σ.next≤1099511627776):
  Calls Tryz.prog 28 #[.pointer (some ⟨A.sb,0,none⟩)] w fun e w'=>∃S',e=.returned (.tuple #[.int .i64 (σ.next:Nat),.int .i64 0])∧SV W0 A c (σ.begin_ c).2.2 S' w'∧Foot (sfoot S1 vl vo EO K) S' w w':=by
 have HN:=Lib.hid hn
 have HR:=Lib.hid hr
 have HU:=Lib.hid hu
 have HK:=Lib.hid hk
 have HT:=Lib.hid ht
 have HL:=Lib.hid hl
 have HS:=Lib.hid h
 obtain⟨nx,hnn⟩:∃x,σ.next=x:=⟨_,rfl⟩
 have HNX:=Lib.hid hnn
 have c9:=h.sbx.cell 9 _ rfl
 have c7:w.cell? ⟨A.sb,7,none⟩=some (.int .i64 (nx:Nat)):=by rw[←hnn];exact h.sbx.cell 7 _ rfl
 have clt:=h.sbx.lt
 rw[hnn]at hnx⊢
 clear h hn hr hu hk ht hl hnn
 go_enter Tryz.func28,Tryz.ntmps28
 go_wp2_with fail
 have hbx:=Box.new w #[.int .i64 1,.int .i64 (nx:Nat),.int .i64 0,.int .i64 0,.int .i64 0,.int .i64 0,.slice none 0 0,.slice none 0 0,.slice none 0 0,.slice none 0 0,.int .i64 0] 85 rfl
 have hal:Below w.heap.size w (w.alloc (.cells #[.int .i64 1,.int .i64 (nx:Nat),.int .i64 0,.int .i64 0,.int .i64 0,.int .i64 0,.slice none 0 0,.slice none 0 0,.slice none 0 0,.slice none 0 0,.int .i64 0] 85)):=(Below.refl _ _).alloc (Nat.le_refl _) _
 have HAL:=Lib.hid hal
 have HS1:=Lib.hid (HS.out.below hal)
 obtain⟨t4,ht4⟩:∃x,w.heap.size=x:=⟨_,rfl⟩
 have HT4:=Lib.hid ht4
 rw[ht4]at hbx
 try rw[ht4]
 generalize w.alloc (.cells #[.int .i64 1,.int .i64 (nx:Nat),.int .i64 0,.int .i64 0,.int .i64 0,.int .i64 0,.slice none 0 0,.slice none 0 0,.slice none 0 0,.slice none 0 0,.int .i64 0] 85)=w1 at *
 have HBX:Hid (Box w1 t4 [.int .i64 1,.int .i64 (nx:Nat),.int .i64 0,.int .i64 0,.int .i64 0,.int .i64 0,.slice none 0 0,.slice none 0 0,.slice none 0 0,.slice none 0 0,.int .i64 0]):=Lib.hid hbx
 have hsm:Rc.small ({ Rc.zero with kind:=1,txn:=nx }:Rc):=⟨by show(1:Nat)≤_;omega,by show nx≤_;omega,Nat.zero_le _,Nat.zero_le _,Nat.zero_le _,Nat.zero_le _,Nat.zero_le _,Nat.zero_le _,Nat.zero_le _,rfl,rfl⟩
 have HSM:=Lib.hid hsm
 have hsize:Calls Tryz.prog 54 #[.agg #[.int .i64 1,.int .i64 (nx:Nat),.int .i64 0,.int .i64 0,.int .i64 0,.int .i64 0,.slice none 0 0,.slice none 0 0,.slice none 0 0,.slice none 0 0,.int .i64 0]] w1 fun e w'=>e=.returned (.int .i64 96)∧Below w1.heap.size w1 w':=recsize_any { Rc.zero with kind:=1,txn:=nx } none none 0 0 0 0 hsm rfl rfl
 have HSZ:=Lib.hid hsize
 clear hbx hal hsize hsm c9 c7 clt
 refine HSZ.out.mono ?_
 rintro e y2 ⟨rfl,hb2⟩
 have HB2:=Lib.hid hb2
 have hroom:Calls Tryz.prog 53 #[.pointer (some ⟨A.sb,0,none⟩),.int .i64 288] y2 fun e w'=>e=.returned (.int .i64 0)∧Below y2.heap.size y2 w':=room_ok (HS1.out.below hb2) (Nat.le_trans HN.out (by decide)) HR.out HU.out 288 (by have:=HK.out;omega)
 have HRO:=Lib.hid hroom
 clear hb2 hroom ht4
 go_wp2_with fail
 refine HRO.out.mono ?_
 rintro e y3 ⟨rfl,hb3⟩
 have HB3:Hid (Below w1.heap.size w1 y3):=Lib.hid (HB2.out.trans (hb3.mono HB2.out.size))
 have hbx3:=HBX.out.below HB3.out (Nat.le_refl _)
 have HBX3:=Lib.hid hbx3
 have r0:=hbx3.cell 0 _ rfl
 have r1:=hbx3.cell 1 _ rfl
 have r2:=hbx3.cell 2 _ rfl
 have r3:=hbx3.cell 3 _ rfl
 have r4:=hbx3.cell 4 _ rfl
 have r5:=hbx3.cell 5 _ rfl
 have r6:=hbx3.cell 6 _ rfl
 have r7:=hbx3.cell 7 _ rfl
 have r8:=hbx3.cell 8 _ rfl
 have r9:=hbx3.cell 9 _ rfl
 have r10:=hbx3.cell 10 _ rfl
 have rlt:=hbx3.lt
 have hlay:Calls Tryz.prog 55 #[.pointer (some ⟨A.sb,0,none⟩),.agg #[.int .i64 1,.int .i64 (nx:Nat),.int .i64 0,.int .i64 0,.int .i64 0,.int .i64 0,.slice none 0 0,.slice none 0 0,.slice none 0 0,.slice none 0 0,.int .i64 0]] y3 _:=lay0_at (HS1.out.below HB3.out) { Rc.zero with kind:=1,txn:=nx } HSM.out rfl rfl (by have:=HK.out;omega) HT.out HL.out
 have HLA:=Lib.hid hlay
 clear hb3 hbx3 hlay
 go_wp2_with fail
 refine HLA.out.mono ?_
 rintro e y4 ⟨vl4,S4,rfl,hs4,hg4,hn4,hv4⟩
 have HS4:=Lib.hid hs4
 have HG4:=Lib.hid hg4
 have HN4:=Lib.hid hn4
 have HV4:=Lib.hid hv4
 obtain⟨T,hT⟩:∃x,σ.io.R.tail=x:=⟨_,rfl⟩
 rw[hT]
 have HTT:=Lib.hid hT
 clear r0 r1 r2 r3 r4 r5 r6 r7 r8 r9 r10 rlt hs4 hg4 hn4 hv4 hT
 go_upto_region 10 with (fail)
 have bs:Box y4 A.sb [.pointer (some ⟨A.d,0,none⟩),.pointer (some ⟨A.r,0,none⟩),.pointer (some ⟨A.f,0,none⟩),.pointer (some ⟨A.g,0,none⟩),vl4,vo,.int .i64 (σ.master:Nat),.int .i64 (nx:Nat),.int .i64 (σ.commits:Nat),.bool false,.int .i64 (σ.redone:Nat),.int .i64 (σ.undone:Nat)]:=by rw[←HNX.out];exact HS4.out.sbx
 have hrow:=HS4.out.tx.row
 have hlv:∀q,vo.ownBlock=some q→q<y4.heap.size:=fun q e=>(HS4.out.tx.row.lt q e).2
 have hvs:vo.ownBlock≠some A.sb:=fun e=>HS4.out.d2 _ HS4.out.sbS (.inl e)
 obtain⟨n,hnn⟩:∃x,EO.length=x:=⟨_,rfl⟩
 have hn2:n≤1073741823:=by rw[←hnn];exact HN.out
 rw[hnn]at hrow
 have HROW:=Lib.hid hrow
 have HNN:=Lib.hid hnn
 have hW0:W0.heap.size≤y4.heap.size:=HS4.out.bel.size
 have hB:Below 0 y4 y4:=Below.refl _ _
 clear hrow hnn
 refine wp_region_partsDV (WSBe10 A σ vl4 vo nx T n (y4.heap.size) (W0.heap.size) EO) 17 bSBe10 [some 34,some 35,some 36,some 37,some 38,some 39,some 40,some 41,some 42,some 43,some 44,some 45,some 46,some 47,some 48,some 49,some 50,none] [[],[],[1],[2],[3],[],[5],[6],[7],[],[],[8,9,10],[11],[12],[4,12,13],[0],[15]] [0,1,2,3,4,5,6,7,8,9,10,11,12,13,14,15,16] [] (by decide) (by kernel_rfl) (by kernel_rfl) rfl (PSBe10 A σ vl4 vo nx T n (y4.heap.size) (W0.heap.size) EO) (PSBe10_cong A σ vl4 vo nx T n (y4.heap.size) (W0.heap.size) EO) (PSBe10_stable A σ vl4 vo nx T n (y4.heap.size) (W0.heap.size) EO hlv) ?pSBe10 ?_
 case pSBe10=>
  intro i hi o ho vs lo hx_ w' hg hp hdd
  match i,hi with
  | 0,_|1,_|5,_|9,_|10,_=>
   obtain rfl:=Option.some.inj ho
   clear ho
   simp only[actsD,Act.put,actL]
   have hsz:=hg.size
   go_wp2
   exact⟨_,rfl,GrowC.refl _,rfl⟩
  | 2,_=>
   obtain rfl:=Option.some.inj ho
   clear ho
   simp only[actsD,Act.put,actL]
   obtain⟨_,_,_,h1⟩:=hp 1 (by simp)
   simp only[PSBe10]at h1
   have hsz:=hg.size
   rw[h1]
   go_wp2
   exact⟨_,rfl,GrowC.refl _,rfl⟩
  | 3,_=>
   obtain rfl:=Option.some.inj ho
   clear ho
   simp only[actsD,Act.put,actL]
   obtain⟨_,_,_,h2⟩:=hp 2 (by simp)
   simp only[PSBe10]at h2
   have hsz:=hg.size
   rw[h2]
   go_wp2
   exact⟨_,rfl,GrowC.refl _,rfl⟩
  | 4,_=>
   obtain rfl:=Option.some.inj ho
   clear ho
   simp only[actsD,Act.put,actL]
   obtain⟨_,_,_,h3⟩:=hp 3 (by simp)
   simp only[PSBe10]at h3
   have hsz:=hg.size
   rw[h3]
   have e0:=(hg.cell (A.sb) 5 bs.lt (by rintro⟨j,_,hne,hb,hw⟩;simp only[WSBe10]at hw;exact hvs hw.2)).trans (bs.cell 5 _ rfl)
   go_wp2
   exact⟨_,rfl,GrowC.refl _,rfl⟩
  | 6,_=>
   obtain rfl:=Option.some.inj ho
   clear ho
   simp only[actsD,Act.put,actL]
   obtain⟨_,_,_,h5⟩:=hp 5 (by simp)
   simp only[PSBe10]at h5
   have hsz:=hg.size
   rw[h5]
   go_wp2
   exact⟨_,rfl,GrowC.refl _,rfl⟩
  | 7,_=>
   obtain rfl:=Option.some.inj ho
   clear ho
   simp only[actsD,Act.put,actL]
   obtain⟨_,_,_,h6⟩:=hp 6 (by simp)
   simp only[PSBe10]at h6
   have hsz:=hg.size
   rw[h6]
   go_wp2
   exact⟨_,rfl,GrowC.refl _,rfl⟩
  | 8,_=>
   obtain rfl:=Option.some.inj ho
   clear ho
   simp only[actsD,Act.put,actL]
   obtain⟨_,_,_,h7⟩:=hp 7 (by simp)
   simp only[PSBe10]at h7
   have hsz:=hg.size
   rw[h7]
   have e0:=(hg.cell (A.sb) 7 bs.lt (by rintro⟨j,_,hne,hb,hw⟩;simp only[WSBe10]at hw;exact hvs hw.2)).trans (bs.cell 7 _ rfl)
   go_wp2
   exact⟨_,rfl,GrowC.refl _,rfl⟩
  | 11,_=>
   obtain rfl:=Option.some.inj ho
   clear ho
   simp only[actsD,Act.put,actL]
   obtain⟨_,_,_,h8⟩:=hp 8 (by simp)
   simp only[PSBe10]at h8
   obtain⟨_,_,_,h9⟩:=hp 9 (by simp)
   simp only[PSBe10]at h9
   obtain⟨_,_,_,h10⟩:=hp 10 (by simp)
   simp only[PSBe10]at h10
   have hsz:=hg.size
   rw[h8,h9,h10]
   go_wp2
   exact⟨_,rfl,GrowC.refl _,rfl⟩
  | 12,_=>
   obtain rfl:=Option.some.inj ho
   clear ho
   simp only[actsD,Act.put,actL]
   obtain⟨_,_,_,h11⟩:=hp 11 (by simp)
   simp only[PSBe10]at h11
   have hsz:=hg.size
   rw[h11]
   have hbl:=(Below.refl w'.heap.size w').alloc (Nat.le_refl _) (.cells #[.int .i64 (nx:Nat),.int .i64 ((T+1:Nat):Int),.int .i64 ((T+1:Nat):Int),.slice none 0 0] 103)
   have hbn:=Box.new w' #[.int .i64 (nx:Nat),.int .i64 ((T+1:Nat):Int),.int .i64 ((T+1:Nat):Int),.slice none 0 0] 103 rfl
   go_wp2
   exact⟨_,rfl,GrowC.of_grow ⟨hbl.os,hbl.tape,hbl.output,hbl.size,hbl.block⟩,_,rfl,hsz,hbn⟩
  | 13,_=>
   obtain rfl:=Option.some.inj ho
   clear ho
   simp only[actsD,Act.put,actL]
   obtain⟨_,_,_,h12⟩:=hp 12 (by simp)
   simp only[PSBe10]at h12
   have hsz:=hg.size
   have hbl:=(Below.refl w'.heap.size w').alloc (Nat.le_refl _) (.cells #[vs 12] 100)
   obtain⟨g,e12,_,_⟩:=h12
   rw[e12]at hbl⊢
   go_wp2
   exact⟨_,rfl,GrowC.of_grow ⟨hbl.os,hbl.tape,hbl.output,hbl.size,hbl.block⟩,_,rfl,hsz,by rw[e12];exact Reads.lit rfl rfl (Nat.le_refl _) rfl⟩
  | 14,_=>
   obtain rfl:=Option.some.inj ho
   clear ho
   simp only[actsD,Act.put,actL]
   obtain⟨_,_,_,h4⟩:=hp 4 (by simp)
   simp only[PSBe10]at h4
   obtain⟨_,_,_,h12⟩:=hp 12 (by simp)
   simp only[PSBe10]at h12
   obtain⟨_,_,_,h13⟩:=hp 13 (by simp)
   simp only[PSBe10]at h13
   have hsz:=hg.size
   rw[h4]
   obtain⟨g,h13a,h13b,h13c⟩:=h13
   obtain⟨g1,e12,_,_⟩:=h12
   rw[h13a]
   rw[h13a]at h13c
   have hgx:GrowX (fun _=>False) y4 w':=GrowX.of_growC hg (fun k o ⟨j,hj,hne,hb,hw⟩=>hne hw.1)
   have hown:=own_growx HROW.out hgx (fun _ _ h=>h)
   go_wp2_with (at_builtin;refine wpList_append_anyC txnsOf (.tmp 38) (.tmp 47) rfl rfl rfl hown rfl h13c (by intro u hu;rw[List.mem_singleton]at hu;rw[hu,e12];rfl) (by omega) (by omega) (by omega) ?_;intro ob cq wq ho2 hg2 hn2)
   exact⟨_,rfl,hg2.mono (fun b o h=>⟨rfl,h⟩),ob,cq,rfl,ho2,fun q e=>(hn2 q e).imp id (fun h=>by omega)⟩
  | 15,_=>
   obtain rfl:=Option.some.inj ho
   clear ho
   simp only[actsD,Act.put,actL]
   obtain⟨_,_,_,h0⟩:=hp 0 (by simp)
   simp only[PSBe10]at h0
   have hsz:=hg.size
   rw[h0]
   go_wp2
   exact⟨_,rfl,GrowC.refl _,rfl⟩
  | 16,_=>
   obtain rfl:=Option.some.inj ho
   clear ho
   simp only[actsD,Act.put,actL]
   obtain⟨_,_,_,h15⟩:=hp 15 (by simp)
   simp only[PSBe10]at h15
   have hsz:=hg.size
   rw[h15]
   go_wp2
   exact⟨_,rfl,GrowC.refl _,rfl⟩
  | (q+17),hq=>exact absurd hq (by omega)
 intro vS lo hi z5 hg hp hd
 obtain⟨_,_,_,h0⟩:=hp 0 (by decide)
 replace h0:=h0 (by decide)
 obtain⟨_,_,_,h1⟩:=hp 1 (by decide)
 replace h1:=h1 (by decide)
 obtain⟨_,_,_,h2⟩:=hp 2 (by decide)
 replace h2:=h2 (by decide)
 obtain⟨_,_,_,h3⟩:=hp 3 (by decide)
 replace h3:=h3 (by decide)
 obtain⟨_,_,_,h4⟩:=hp 4 (by decide)
 replace h4:=h4 (by decide)
 obtain⟨_,_,_,h5⟩:=hp 5 (by decide)
 replace h5:=h5 (by decide)
 obtain⟨_,_,_,h6⟩:=hp 6 (by decide)
 replace h6:=h6 (by decide)
 obtain⟨_,_,_,h7⟩:=hp 7 (by decide)
 replace h7:=h7 (by decide)
 obtain⟨_,_,_,h8⟩:=hp 8 (by decide)
 replace h8:=h8 (by decide)
 obtain⟨_,_,_,h9⟩:=hp 9 (by decide)
 replace h9:=h9 (by decide)
 obtain⟨_,_,_,h10⟩:=hp 10 (by decide)
 replace h10:=h10 (by decide)
 obtain⟨_,_,_,h11⟩:=hp 11 (by decide)
 replace h11:=h11 (by decide)
 obtain⟨_,_,_,h12⟩:=hp 12 (by decide)
 replace h12:=h12 (by decide)
 obtain⟨_,_,_,h13⟩:=hp 13 (by decide)
 replace h13:=h13 (by decide)
 obtain⟨_,_,_,h14⟩:=hp 14 (by decide)
 replace h14:=h14 (by decide)
 obtain⟨_,_,_,h15⟩:=hp 15 (by decide)
 replace h15:=h15 (by decide)
 obtain⟨_,_,_,h16⟩:=hp 16 (by decide)
 replace h16:=h16 (by decide)
 simp only[PSBe10]at h0 h1 h2 h3 h4 h5 h6 h7 h8 h9 h10 h11 h12 h13 h14 h15 h16
 clear hp hd
 have hsz:=hg.size
 have HGX:Hid (GrowX (fun b=>vo.ownBlock=some b) y4 z5):=Lib.hid (GrowX.of_growC hg (fun k o ⟨j,_,hw⟩=>hw.2))
 replace bs:=bs.grow hg (by intro i _;rintro⟨j,_,hw⟩;simp only[WSBe10]at hw;first|exact hvs hw.2|(have:=hlv _ hw.2;omega))
 replace hB:=hB.trans (hg.below (fun k hk=>⟨by omega,fun o=>by rintro⟨j,_,hw⟩;simp only[WSBe10]at hw;first|exact hvs hw.2|(have:=hlv _ hw.2;omega)⟩))
 have hr:List.range 17=[0,1,2,3,4,5,6,7,8,9,10,11,12,13,14,15,16]:=rfl
 rw[hr]
 clear hr
 simp only[List.drop_succ_cons,List.drop_zero,List.drop_nil,actsD,Act.put,actL,h0,h1,h2,h3,h4,h5,h6,h7,h8,h9,h10,h11,h15,h16]
 clear h0 h1 h2 h3 h4 h5 h6 h7 h8 h9 h10 h11 h15 h16
 obtain⟨g,h12a,h12b,h12c⟩:=h12
 obtain⟨ov,kv,h14a,h14b,h14c⟩:=h14
 rw[h14a]
 rw[h12a]at h14b
 have HBN:=Lib.hid h12c
 have HGN:=Lib.hid h12b
 have HO14:=Lib.hid h14b
 have HN14:=Lib.hid h14c
 have c5:=bs.cell 5 _ rfl
 have cfz:=bs.free
 have clt:=bs.lt
 clear h12a h12b h12c h14a h14b h14c h13 hB hg bs
 go_upto_region 11 with (fail)
 have htx:=HS4.out.tx.push (w2:=z5) (vo':=.slice ov (n+1) kv) (g:=g) (id:=nx) (l:=T+1) HGX.out (by rw[HNN.out];exact HO14.out) (fun k hk e=>HS4.out.k3 k hk (.inl e)) HN14.out HBN.out HGN.out hW0
 obtain⟨S5,hs5,hg5,hn5⟩:=HS4.out.opn HGX.out (fun k e=>.inl (.inl e)) htx (fun k hk=>by
  rcases hk.append with hk|hk
  ·rcases hk with hk|hk
   ·exact(HN14.out k hk).imp .inl id
   ·exact .inl (.inr hk)
  ·rcases hk with hk|hk
   ·subst hk;exact .inr HGN.out
   ·cases hk)
 have bs6:Box (z5.setCell ⟨A.sb,5,none⟩ (.slice ov (n+1) kv)) A.sb [.pointer (some ⟨A.d,0,none⟩),.pointer (some ⟨A.r,0,none⟩),.pointer (some ⟨A.f,0,none⟩),.pointer (some ⟨A.g,0,none⟩),vl4,.slice ov (n+1) kv,.int .i64 (σ.master:Nat),.int .i64 (nx:Nat),.int .i64 (σ.commits:Nat),.bool false,.int .i64 (σ.redone:Nat),.int .i64 (σ.undone:Nat)]:=by rw[←HNX.out];exact hs5.sbx
 have HS5:=Lib.hid hs5
 have HG5:=Lib.hid hg5
 have HN5:=Lib.hid hn5
 clear htx hs5 hg5 hn5 c5 cfz clt
 generalize z5.setCell ⟨A.sb,5,none⟩ (.slice ov (n+1) kv)=z6 at *
 have c7:=bs6.cell 7 _ rfl
 have cfz:=bs6.free
 have clt:=bs6.lt
 go_upto_region 12 with (fail)
 obtain⟨S7,hs7,hf7⟩:=HS5.out.pokeN (σ':={ σ with io:={ σ.io with R:=σ.io.R.app (Rc.enc { Rc.zero with kind:=1,txn:=nx }) },lines:=σ.lines++[(σ.io.R.tail+1,{ Rc.zero with kind:=1,txn:=nx })],opn:=(EO++[(⟨g,⟨nx,T+1,T+1,[]⟩,.slice none 0 0,[]⟩:Te)]).map (·.x),next:=nx+1 }) 7 (by decide) (.int .i64 ((nx:Int)+1)) rfl rfl rfl rfl rfl
 have HS7:=Lib.hid hs7
 have HF7:=Lib.hid hf7
 have c7':=hs7.sbx.cell 7 _ rfl
 have clt':=hs7.sbx.lt
 clear hs7 hf7 c7 cfz bs6
 go_wp2_with fail
 go_ret2
 have F1:Foot (sfoot S1 vl vo EO K) (sfoot S4 vl4 vo EO K) w1 y4:=(Foot.below (grow_below HB3.out)).trans (sfoot_foot (HG4.out.mono (fun k h=>h.elim .inl (fun h=>.inr (.inl h)))) HN4.out HV4.out (fun k h=>.inl h) (fun k h=>.inl h))
 have F2:Foot (sfoot S4 vl4 vo EO K) (sfoot S5 vl4 (.slice ov (n+1) kv) (EO++[(⟨g,⟨nx,T+1,T+1,[]⟩,.slice none 0 0,[]⟩:Te)]) K) y4 z6:=sfoot_foot (HG5.out.mono (fun k h=>h.elim .inl (fun h=>.inr (.inr (.inl h))))) HN5.out (fun k h=>.inl h) (fun k hk=>by
  rcases hk.append with hk|hk
  ·rcases hk with hk|hk
   ·exact(HN14.out k hk).imp .inl id
   ·exact .inl (.inr hk)
  ·rcases hk with hk|hk
   ·subst hk;exact .inr HGN.out
   ·cases hk) (fun k h=>.inl h)
 have e:=begin_eq σ c (by have:=HK.out;omega)
 have e2:=HS7.out
 have e3:(EO++[(⟨g,⟨nx,T+1,T+1,[]⟩,.slice none 0 0,[]⟩:Te)]).map (·.x)=σ.opn++[⟨σ.next,σ.io.R.tail+1,σ.io.R.tail+1,[]⟩]:=by
  rw[List.map_append,←HS.out.ois,HNX.out,HTT.out];rfl
 rw[HNX.out]at e e3
 rw[e3]at e2
 rw[←e]at e2
 exact⟨rfl,_,⟨_,_,_,_,_,_,e2,rfl⟩,((Foot.below (grow_below HAL.out)).trans (F1.trans (F2.trans (sfoot_of HF7.out))))⟩
end
end
section
open Go.RowKit
def hits(t:Int)(p off n id:Nat)(u:Up):Bool:=decide (¬(id:Int)=t∧0<n∧u.page=p∧u.off<off+n∧off<u.off+u.before.length)
def St.busy(σ:St)(t:Int)(p off n:Nat):Bool:=σ.opn.any fun x=>x.l.any (hits t p off n x.id)
section
variable{W0 w w':World}{A:Adr}{c:Cf}{σ:St}{S:Nat→Prop}{vl vo:Value}{EL:List Le}{EO:List Te}{K S1:Nat→Prop}{X:Nat→Prop}
theorem SvAt.busy_e(h:SvAt W0 w A c σ vl vo EL EO K S1)(t:Int)(p off n:Nat):σ.busy t p off n=EO.any fun e=>e.EU.any fun u=>hits t p off n e.x.id u.1:=by
 unfold St.busy
 rw[h.ois,List.any_map]
 have:∀l:List Te,(∀e∈l,e.x.l=e.EU.map (·.1))→l.any ((fun x:Tx=>x.l.any (hits t p off n x.id))∘fun e=>e.x)=l.any fun e=>e.EU.any fun u=>hits t p off n e.x.id u.1:=by
  intro l hl
  induction l with
  | nil=>rfl
  | cons a r ih=>
   simp only[List.any_cons,Function.comp]
   rw[hl a List.mem_cons_self,List.any_map,←ih (fun e he=>hl e (List.mem_cons_of_mem _ he))]
   rfl
 exact this EO (fun e he=>(h.tx.at_ e he).ups)
set_option maxRecDepth 100000 in
set_option maxHeartbeats 6400000 in
theorem busy_at(h:SvAt W0 w A c σ vl vo EL EO K S1)(hn:EO.length≤1073741824)(hu:∀e∈EO,e.EU.length≤1073741824∧∀u∈e.EU,u.1.off+u.1.before.length≤1048576)(t:Int)(p off nb:Nat)(ho:off≤1048576)(hb:nb≤1048576):
  Calls Tryz.prog 63 #[.pointer (some ⟨A.sb,0,none⟩),.int .i64 t,.int .i64 (p:Nat),.int .i64 (off:Nat),.int .i64 (nb:Nat)] w fun e w'=>e=.returned (.bool (σ.busy t p off nb))∧Below w.heap.size w w':=by
 have HS:=Lib.hid h
 have HU:=Lib.hid hu
 have HBE:=Lib.hid (h.busy_e t p off nb)
 have c5:=h.sbx.cell 5 _ rfl
 have clt:=h.sbx.lt
 obtain⟨ao,cq,hvo⟩:=own_shape h.tx.row
 have HVO:=Lib.hid hvo
 obtain⟨n,hnn⟩:∃x,EO.length=x:=⟨_,rfl⟩
 rw[hvo,hnn]at c5
 rw[hnn]at hn
 have HNN:=Lib.hid hnn
 clear h hvo hnn hu
 go_enter Tryz.func63,Tryz.ntmps63
 go_wp2_with fail
 go_loopw [20] (fun i wr=>∃j:Nat,j≤n∧i=.int .i64 j∧(∀k e,k<j→EO[k]? = some e→∀u∈e.EU,hits t p off nb e.x.id u.1=false)∧Below w.heap.size w wr) (fun i _=>n-(intOf i).toNat)
 case atStart=>exact⟨0,Nat.zero_le _,rfl,fun k e hk=>absurd hk (Nat.not_lt_zero _),Below.refl _ _⟩
 case round=>
  obtain⟨j,hj,rfl,hno,hbl⟩:=hrel
  have HB:=Lib.hid hbl
  have HNO:=Lib.hid hno
  clear hbl hno
  by_cases hjn:j<n
  case neg=>
   have b1:decide (j<n)=false:=by simpa using hjn
   have b2:decide ((j:Int)<(n:Int))=false:=by simpa using hjn
   have e4:σ.busy t p off nb=false:=by
    rw[HBE.out,List.any_eq_false]
    intro e he
    obtain⟨k,hk,rfl⟩:=List.getElem_of_mem he
    have:=HNO.out k _ (by have:=HNN.out;omega) (List.getElem?_eq_getElem hk)
    simp only[List.any_eq_true,not_exists,not_and,Bool.not_eq_true]
    exact this
   go_wp2_with fail
   go_ret
   exact⟨ret_v (by rw[e4];rfl),HB.out⟩
  have b1:decide (j<n)=true:=by simpa using hjn
  have b2:decide ((j:Int)<(n:Int))=true:=by simpa using hjn
  have hjl:j<EO.length:=by rw[HNN.out];exact hjn
  have hs:=HS.out.below HB.out
  have hrow:=hs.tx.row
  rw[HNN.out]at hrow
  obtain⟨gq,cq2,e1,_,_⟩:=own_slice hrow (by omega)
  have e2:=e1
  rw[HVO.out]at e2
  injection e2 with e3 e4 e5
  subst e3
  subst e5
  clear e4
  rw[e1]at hrow
  obtain⟨e,hee⟩:∃e,EO[j]? = some e:=⟨_,List.getElem?_eq_getElem hjl⟩
  have HEE:=Lib.hid hee
  have hmem:=List.mem_of_getElem? hee
  have hcl:=own_at hrow j (ptrT e) (by rw[List.getElem?_map,hee];rfl)
  have hbx:=(hs.tx.at_ e hmem).box
  have e3:=hbx.cell 3 _ rfl
  have elt:=hbx.lt
  obtain⟨au,cu,hvu⟩:=own_shape (hs.tx.at_ e hmem).row
  obtain⟨m,hmm⟩:∃x,e.EU.length=x:=⟨_,rfl⟩
  rw[hvu,hmm]at e3
  simp only[ptrT]at hcl
  have HMM:=Lib.hid hmm
  have HVU:=Lib.hid hvu
  have HME:=Lib.hid hmem
  have hmb:m≤1073741824:=by rw[←hmm];exact(HU.out e hmem).1
  clear hrow hjl e1 hee hbx hvu hmm hmem hs
  go_wp2_with fail
  go_loopw [29] (fun i wx=>∃q:Nat,q≤m∧i=.int .i64 q∧(∀k u,k<q→e.EU[k]? = some u→hits t p off nb e.x.id u.1=false)∧Below w.heap.size w wx) (fun i _=>m-(intOf i).toNat)
  case atStart=>exact⟨0,Nat.zero_le _,rfl,fun k u hk=>absurd hk (Nat.not_lt_zero _),HB.out⟩
  case round=>
   obtain⟨q,hq,rfl,hno2,hbl⟩:=hrel
   have HB2:=Lib.hid hbl
   have HNO2:=Lib.hid hno2
   clear hbl hno2
   by_cases hqm:q<m
   case neg=>
    have b3:decide (q<m)=false:=by simpa using hqm
    have b4:decide ((q:Int)<(m:Int))=false:=by simpa using hqm
    go_wp2_with fail
    go_roundw
    ·refine⟨j+1,by omega,by go_num,fun k e' hk hk2 u hu=>?_,HB2.out⟩
     rcases Nat.lt_succ_iff_lt_or_eq.1 hk with hk|rfl
     ·exact HNO.out k e' hk hk2 u hu
     ·rw[HEE.out]at hk2
      obtain rfl:=Option.some.inj hk2
      obtain⟨i,hi,rfl⟩:=List.getElem_of_mem hu
      exact HNO2.out i _ (by have:=HMM.out;omega) (List.getElem?_eq_getElem hi)
    ·simp[intOf];omega
   have b3:decide (q<m)=true:=by simpa using hqm
   have b4:decide ((q:Int)<(m:Int))=true:=by simpa using hqm
   have hql:q<e.EU.length:=by rw[HMM.out];exact hqm
   have hs:=HS.out.below HB2.out
   have hrow:=(hs.tx.at_ e HME.out).row
   have id0:=(hs.tx.at_ e HME.out).box.cell 0 _ rfl
   have elt2:=(hs.tx.at_ e HME.out).box.lt
   rw[HMM.out]at hrow
   obtain⟨gu,cu2,e1,_,_⟩:=own_slice hrow (by omega)
   have e2:=e1
   rw[HVU.out]at e2
   injection e2 with e3' e4 e5
   subst e3'
   subst e5
   clear e4
   rw[e1]at hrow
   obtain⟨u,hue⟩:∃u,e.EU[q]? = some u:=⟨_,List.getElem?_eq_getElem hql⟩
   have HUE:=Lib.hid hue
   obtain⟨a2,c2,hv2,_⟩:=((hs.tx.at_ e HME.out).tb u (List.mem_of_getElem? hue)).1
   have hix:=fun i hi=>flat_ix (f:=ucell) (k:=5) (fun _=>rfl) e.EU q u hue i hi
   have k0:=own_at hrow (q*5+0) _ ((hix 0 (by decide)).trans rfl)
   have k1:=own_at hrow (q*5+1) _ ((hix 1 (by decide)).trans rfl)
   have k2:=own_at hrow (q*5+2) _ ((hix 2 (by decide)).trans rfl)
   have k3:=own_at hrow (q*5+3) _ ((hix 3 (by decide)).trans rfl)
   have k4:=own_at hrow (q*5+4) _ ((hix 4 (by decide)).trans rfl)
   rw[hv2]at k4
   have hub:=(HU.out e HME.out).2 u (List.mem_of_getElem? hue)
   clear hix hrow hs hue hv2 hql e1
   have hht:hits t p off nb e.x.id u.1=decide (¬(e.x.id:Int)=t∧0<nb∧u.1.page=p∧u.1.off<off+nb∧off<u.1.off+u.1.before.length):=rfl
   obtain⟨mb,hmb2⟩:∃x,u.1.before.length=x:=⟨_,rfl⟩
   rw[hmb2]at hub k4 hht
   generalize u.1.lsn=y1 at *
   generalize u.1.prev=y2 at *
   generalize u.1.page=y3 at *
   generalize u.1.off=y4 at *
   clear hmb2
   obtain⟨uid,hid⟩:∃x,e.x.id=x:=⟨_,rfl⟩
   rw[hid]at id0 hht
   simp only[Nat.add_zero]at k0
   have HHT:=Lib.hid hht
   have HID:=Lib.hid hid
   clear hht hid
   by_cases h0:¬(uid:Int)=t
   case neg=>
    have d0_0:((uid:Int) != t)=false:=by simpa using h0
    have hh:hits t p off nb e.x.id u.1=false:=by rw[HID.out,HHT.out];exact decide_eq_false (fun⟨a1,a2,a3,a4,a5⟩=>by omega)
    have HH:=Lib.hid hh
    clear hh
    go_wp2_with fail
    go_roundw
    ·refine⟨q+1,by omega,by go_num,fun k u' hk hk2=>?_,HB2.out.trans (((Below.refl _ _).alloc (Nat.le_refl _) _).mono HB2.out.size)⟩
     rcases Nat.lt_succ_iff_lt_or_eq.1 hk with hk|rfl
     ·exact HNO2.out k u' hk hk2
     ·rw[HUE.out]at hk2
      obtain rfl:=Option.some.inj hk2
      exact HH.out
    ·simp[intOf];omega
   have d0_0:((uid:Int) != t)=true:=by simpa using h0
   by_cases h1:0<nb
   case neg=>
    have d1_0:decide ((nb:Int)>0)=false:=by simp;omega
    have d1_1:decide ((0:Int)<(nb:Int))=false:=by simp;omega
    have d1_2:decide (0<nb)=false:=by simp;omega
    have hh:hits t p off nb e.x.id u.1=false:=by rw[HID.out,HHT.out];exact decide_eq_false (fun⟨a1,a2,a3,a4,a5⟩=>by omega)
    have HH:=Lib.hid hh
    clear hh
    go_wp2_with fail
    go_roundw
    ·refine⟨q+1,by omega,by go_num,fun k u' hk hk2=>?_,HB2.out.trans (((Below.refl _ _).alloc (Nat.le_refl _) _).mono HB2.out.size)⟩
     rcases Nat.lt_succ_iff_lt_or_eq.1 hk with hk|rfl
     ·exact HNO2.out k u' hk hk2
     ·rw[HUE.out]at hk2
      obtain rfl:=Option.some.inj hk2
      exact HH.out
    ·simp[intOf];omega
   have d1_0:decide ((nb:Int)>0)=true:=by simp;omega
   have d1_1:decide ((0:Int)<(nb:Int))=true:=by simp;omega
   have d1_2:decide (0<nb)=true:=by simp;omega
   by_cases h2:y3=p
   case neg=>
    have d2_0:((y3:Int)==(p:Int))=false:=by simp;omega
    have hh:hits t p off nb e.x.id u.1=false:=by rw[HID.out,HHT.out];exact decide_eq_false (fun⟨a1,a2,a3,a4,a5⟩=>by omega)
    have HH:=Lib.hid hh
    clear hh
    go_wp2_with fail
    go_roundw
    ·refine⟨q+1,by omega,by go_num,fun k u' hk hk2=>?_,HB2.out.trans (((Below.refl _ _).alloc (Nat.le_refl _) _).mono HB2.out.size)⟩
     rcases Nat.lt_succ_iff_lt_or_eq.1 hk with hk|rfl
     ·exact HNO2.out k u' hk hk2
     ·rw[HUE.out]at hk2
      obtain rfl:=Option.some.inj hk2
      exact HH.out
    ·simp[intOf];omega
   have d2_0:((y3:Int)==(p:Int))=true:=by simp;omega
   by_cases h3:y4<off+nb
   case neg=>
    have d3_0:decide ((y4:Int)<(off:Int)+(nb:Int))=false:=by simp;omega
    have hh:hits t p off nb e.x.id u.1=false:=by rw[HID.out,HHT.out];exact decide_eq_false (fun⟨a1,a2,a3,a4,a5⟩=>by omega)
    have HH:=Lib.hid hh
    clear hh
    go_wp2_with fail
    go_roundw
    ·refine⟨q+1,by omega,by go_num,fun k u' hk hk2=>?_,HB2.out.trans (((Below.refl _ _).alloc (Nat.le_refl _) _).mono HB2.out.size)⟩
     rcases Nat.lt_succ_iff_lt_or_eq.1 hk with hk|rfl
     ·exact HNO2.out k u' hk hk2
     ·rw[HUE.out]at hk2
      obtain rfl:=Option.some.inj hk2
      exact HH.out
    ·simp[intOf];omega
   have d3_0:decide ((y4:Int)<(off:Int)+(nb:Int))=true:=by simp;omega
   by_cases h4:off<y4+mb
   case neg=>
    have d4_0:decide ((off:Int)<(y4:Int)+(mb:Int))=false:=by simp;omega
    have hh:hits t p off nb e.x.id u.1=false:=by rw[HID.out,HHT.out];exact decide_eq_false (fun⟨a1,a2,a3,a4,a5⟩=>by omega)
    have HH:=Lib.hid hh
    clear hh
    go_wp2_with fail
    go_roundw
    ·refine⟨q+1,by omega,by go_num,fun k u' hk hk2=>?_,HB2.out.trans (((Below.refl _ _).alloc (Nat.le_refl _) _).mono HB2.out.size)⟩
     rcases Nat.lt_succ_iff_lt_or_eq.1 hk with hk|rfl
     ·exact HNO2.out k u' hk hk2
     ·rw[HUE.out]at hk2
      obtain rfl:=Option.some.inj hk2
      exact HH.out
    ·simp[intOf];omega
   have d4_0:decide ((off:Int)<(y4:Int)+(mb:Int))=true:=by simp;omega
   have e4:σ.busy t p off nb=true:=by
    have hh:hits t p off nb e.x.id u.1=true:=by rw[HID.out,HHT.out];exact decide_eq_true ⟨h0,h1,h2,h3,h4⟩
    rw[HBE.out,List.any_eq_true]
    exact⟨e,HME.out,List.any_eq_true.2 ⟨u,List.mem_of_getElem? HUE.out,hh⟩⟩
   have HE4:=Lib.hid e4
   clear e4
   go_wp2_with fail
   go_ret
   exact⟨ret_v (by rw[HE4.out];rfl),HB2.out.trans (((Below.refl _ _).alloc (Nat.le_refl _) _).mono HB2.out.size)⟩
end
end
section
open Go.RowKit
theorem clipB_any(ao:Option Addr)(n cap:Nat)(w:World)(h:n≤cap):Calls Tryz.prog 65 #[.slice ao n cap] w fun e w'=>e=.returned (.slice ao n n)∧w=w':=by
 by_cases h0:n=0
 ·subst h0
  go_enter Tryz.func65,Tryz.ntmps65
  go_wp2
  go_ret
  exact⟨rfl,rfl⟩
 ·go_enter Tryz.func65,Tryz.ntmps65
  go_wp2
  go_ret
  exact⟨rfl,rfl⟩
theorem updsOf:SliceOf Tryz.prog 101 114 (.agg #[.int .i64 0,.int .i64 0,.int .i64 0,.int .i64 0,.slice none 0 0]) 5 56:=⟨Tryz.underlying101,by kernel_rfl,rfl,by decide⟩
theorem put11{w:World}{g:Nat}{a0 a1 a2 a3 a4 a5 a6 a7 a8 a9 a10:Value}(h:Box w g [a0,a1,a2,a3,a4,a5,a6,a7,a8,a9,a10])(v0 v1 v2 v3 v4 v5 v6 v7 v8 v9 v10:Value):
  Box (((((((((((w.setCell ⟨g,0,none⟩ v0).setCell ⟨g,1,none⟩ v1).setCell ⟨g,2,none⟩ v2).setCell ⟨g,3,none⟩ v3).setCell ⟨g,4,none⟩ v4).setCell ⟨g,5,none⟩ v5).setCell ⟨g,6,none⟩ v6).setCell ⟨g,7,none⟩ v7).setCell ⟨g,8,none⟩ v8).setCell ⟨g,9,none⟩ v9).setCell ⟨g,10,none⟩ v10) g [v0,v1,v2,v3,v4,v5,v6,v7,v8,v9,v10]∧
  GrowX (fun k=>k=g) w (((((((((((w.setCell ⟨g,0,none⟩ v0).setCell ⟨g,1,none⟩ v1).setCell ⟨g,2,none⟩ v2).setCell ⟨g,3,none⟩ v3).setCell ⟨g,4,none⟩ v4).setCell ⟨g,5,none⟩ v5).setCell ⟨g,6,none⟩ v6).setCell ⟨g,7,none⟩ v7).setCell ⟨g,8,none⟩ v8).setCell ⟨g,9,none⟩ v9).setCell ⟨g,10,none⟩ v10):=by
 refine⟨((((((((((h.setCell 0 v0).setCell 1 v1).setCell 2 v2).setCell 3 v3).setCell 4 v4).setCell 5 v5).setCell 6 v6).setCell 7 v7).setCell 8 v8).setCell 9 v9).setCell 10 v10,?_⟩
 exact(growX_setCell _ g 0 v0).trans ((growX_setCell _ g 1 v1).trans ((growX_setCell _ g 2 v2).trans ((growX_setCell _ g 3 v3).trans ((growX_setCell _ g 4 v4).trans ((growX_setCell _ g 5 v5).trans ((growX_setCell _ g 6 v6).trans ((growX_setCell _ g 7 v7).trans ((growX_setCell _ g 8 v8).trans ((growX_setCell _ g 9 v9).trans (growX_setCell _ g 10 v10))))))))))
theorem wpList_copy_at{w:World}{ops:Array Oper}{rest:List Oper}{o:Oper}{a:Act}{Q:Exit→Act→World→Prop}(hgd:o.guard=none)(d s:Operand)
  (ho:o.op=.call { callee:=.builtin .copy,args:=#[d,s],argTypes:=#[48,48] })
  {base:Nat} {v:Value} {n off m:Nat} {xs ys:List UInt8} (hown:w.ownsRow base 5 1 v n (xs.map B)) (ho2:off+m≤n) (hm:0<m)
  (dp:Option Addr) (dc:Nat) (hd:a.eval d=.slice dp m dc) (hdp:∀g,v.ownBlock=some g→dp=some ⟨g,off,none⟩)
  {sp:Option Addr} {sc:Nat} (hs:a.eval s=.slice sp m sc) (hv:Reads 1 w (.slice sp m sc) m (ys.map B))
  (h:∀w' k,w'.ownsRow base 5 1 v n ((overB xs off ys).map B)→GrowX (fun b=>v.ownBlock=some b) w w'→wpList Tryz.prog ops Q rest (a.put o.dst (goInt k)) w'):wpList Tryz.prog ops Q (o::rest) a w:=by
 have hxl:xs.length=n:=by have:=hown.1;rw[List.length_map]at this;omega
 obtain⟨ao2,c2,hse,hyl,hsc,hyr⟩:=hv
 injection hse with e1 e2 e3
 subst e1 e3
 have hyl2:ys.length=m:=by rw[List.length_map]at hyl;omega
 obtain⟨b,of,rfl,hbl,hcell⟩:=hyr hm
 rcases hown.2 with ⟨_,hn0⟩|⟨g,cap,cur,rfl,hb,hg,hnc,hcm,hcs,ht⟩
 ·omega
 ·have hdp2:=hdp g rfl
  subst hdp2
  have hml:(ys.map B).length=Nat.min m m:=by rw[List.length_map,hyl2];exact(Nat.min_self m).symm
  have hml2:(ys.map B).length=m:=by rw[List.length_map,hyl2]
  have hcl:cur.toList.length=cap*1:=by rw[Array.length_toList];exact hcs
  refine wpList_copy_own hgd d s 48 48 ho 5 Tryz.underlying48 (by kernel_rfl) g off m dc ⟨b,of,none⟩ m sc hd hs cur 5 hg (ys.map B) hml (fun j u hu=>by rw[Addr.add_lit];exact hcell j u hu) (by rw[hml2,←Array.length_toList,hcl];omega) (fun u hu=>Bs_one ys u hu) ?_
  refine h _ _ ⟨?_,.inr ⟨g,cap,_,rfl,hb,setRow_heap w g _ _ _ _ hg,hnc,hcm,?_,?_⟩⟩ ⟨rfl,rfl,rfl,by simp[World.setRow],fun k hk hx=>setRow_other w g k _ (fun e=>hx (by subst e;rfl))⟩
  ·rw[List.length_map,overB_length _ _ _ (by omega)];omega
  ·simp only[List.size_toArray,List.length_append,hml2,List.length_take,List.length_drop,hcl]
   rw[Nat.min_eq_left (by omega)]
   omega
  ·have e3:cur.toList.take n=xs.map B:=by rw[←ht,Nat.mul_one]
   have e4:(cur.toList.take off)=(xs.map B).take off:=by rw[←e3,List.take_take];congr 1;omega
   show List.take (n*1) (List.take off cur.toList++((ys.map B)++cur.toList.drop (off+(ys.map B).length)))=_
   have l1:((xs.map B).take off).length=off:=by rw[List.length_take,List.length_map];omega
   have t1:List.take n ((xs.map B).take off)=(xs.map B).take off:=List.take_of_length_le (by rw[l1];omega)
   have t2:List.take (n-off) (ys.map B)=ys.map B:=List.take_of_length_le (by rw[hml2];omega)
   have t3:List.take (n-off-m) (cur.toList.drop (off+m))=(xs.map B).drop (off+m):=by
    rw[List.take_drop,show off+m+(n-off-m)=n by omega,e3]
   rw[Nat.mul_one,e4,List.take_append,t1,l1,List.take_append,t2,hml2,t3]
   unfold overB
   have t4:List.take (n-off) ys=ys:=List.take_of_length_le (by omega)
   rw[List.map_append,List.map_append,List.map_take,List.map_drop,hxl,hyl2,t4,List.append_assoc]
section
variable{W0 w w2:World}{vo:Value}{EO:List Te}{K:Nat→Prop}{i:Nat}{e e':Te}
theorem mem_set{α:Type}{l:List α}{i:Nat}{x y:α}(h:x∈l.set i y):x=y∨∃j,j≠i∧l[j]? = some x:=by
 obtain⟨j,hj,rfl⟩:=List.getElem_of_mem h
 by_cases hij:i=j
 ·subst hij;exact .inl (by simp)
 ·refine .inr ⟨j,fun e=>hij e.symm,?_⟩
  rw[List.getElem_set_ne hij,List.getElem?_eq_getElem]
theorem pw_ne{R:Te→Te→Prop}(hs:∀a b,R a b→R b a){l:List Te}(h:l.Pairwise R){i j:Nat}{a b:Te}(ha:l[i]? = some a)(hb:l[j]? = some b)(hne:i≠j):R a b:=by
 obtain⟨hi,rfl⟩:=List.getElem?_eq_some_iff.1 ha
 obtain⟨hj,rfl⟩:=List.getElem?_eq_some_iff.1 hb
 rcases Nat.lt_or_gt_of_ne hne with h1|h1
 ·exact List.pairwise_iff_getElem.1 h i j hi hj h1
 ·exact hs _ _ (List.pairwise_iff_getElem.1 h j i hj hi h1)
theorem fp_symm(a b:Te)(h:Disj a.fp b.fp):Disj b.fp a.fp:=fun k h1 h2=>h k h2 h1
theorem TxV.setAt(h:TxV W0 w vo EO K)(hei:EO[i]? = some e)(hg:GrowX e.fp w w2)(hk:∀k,K k→¬e.fp k)(ht:TxAt W0 w2 e' K)(hte:e'.t=e.t)(hn:∀q,e'.vu.ownBlock=some q→e.vu.ownBlock=some q∨w.heap.size≤q):
  TxV W0 w2 vo (EO.set i e') K:=by
 have hfp:∀k,e'.fp k→e.fp k∨w.heap.size≤k:=by
  rintro k (h1|h1)
  ·exact .inl (.inl (h1.trans hte))
  ·exact(hn k h1).imp .inr id
 have hlt:=h.lt
 have hi:i<EO.length:=(List.getElem?_eq_some_iff.1 hei).1
 have hother:∀(j:Nat)(x:Te),j≠i→EO[j]? = some x→Disj x.fp e.fp:=fun j x hj hx=>pw_ne fp_symm h.pw hx hei hj
 refine⟨?_,?_,?_,?_⟩
 ·rw[List.length_set]
  have e1:(EO.set i e').map ptrT=EO.map ptrT:=by
   rw[List.map_set]
   have:(EO.map ptrT)[i]? = some (ptrT e'):=by rw[List.getElem?_map,hei];simp[ptrT,hte]
   exact List.ext_getElem? fun j=>by
    by_cases hij:i=j
    ·subst hij;rw[List.getElem?_set_self (by rw[List.length_map];exact hi),this]
    ·rw[List.getElem?_set_ne hij]
  rw[e1]
  exact own_growx h.row hg (fun q e2 hq=>h.no e (List.mem_of_getElem? hei) q e2 hq)
 ·intro x hx
  rcases mem_set hx with rfl|⟨j,hj,hx⟩
  ·exact ht
  ·exact(h.at_ x (List.mem_of_getElem? hx)).grow hg (fun k h1 h2=>hother j x hj hx k h1 h2) hk
 ·rw[List.pairwise_iff_getElem]
  intro a b ha hb hab k h1 h2
  rw[List.length_set]at ha hb
  have hx:∀(j:Nat)(hj:j<(EO.set i e').length),j≠i→EO[j]? = some (EO.set i e')[j]:=fun j hj hne=>by
   rw[List.getElem_set_ne (fun e=>hne e.symm),List.getElem?_eq_getElem]
  by_cases hai:a=i
  ·subst hai
   have hb2:=hx b (by simpa using hb) (by omega)
   rw[List.getElem_set_self]at h1
   rcases hfp k h1 with h3|h3
   ·exact hother b _ (by omega) hb2 k h2 h3
   ·have:=(hlt k (.inr ⟨_,List.mem_of_getElem? hb2,h2⟩)).2;omega
  ·have ha2:=hx a (by simpa using ha) hai
   by_cases hbi:b=i
   ·subst hbi
    rw[List.getElem_set_self]at h2
    rcases hfp k h2 with h3|h3
    ·exact hother a _ hai ha2 k h1 h3
    ·have:=(hlt k (.inr ⟨_,List.mem_of_getElem? ha2,h1⟩)).2;omega
   ·exact pw_ne fp_symm h.pw ha2 (hx b (by simpa using hb) hbi) (by omega) k h1 h2
 ·intro x hx q hq hf
  rcases mem_set hx with rfl|⟨j,hj,hx⟩
  ·rcases hfp q hf with h3|h3
   ·exact h.no e (List.mem_of_getElem? hei) q hq h3
   ·have:=(hlt q (.inl hq)).2;omega
  ·exact h.no x (List.mem_of_getElem? hx) q hq hf
theorem TxFoot.set{k:Nat}(h:TxFoot vo (EO.set i e') k):TxFoot vo EO k∨e'.fp k:=by
 rcases h with h|⟨x,hx,h⟩
 ·exact .inl (.inl h)
 ·rcases mem_set hx with rfl|⟨j,_,hx⟩
  ·exact .inr h
  ·exact .inl (.inr ⟨x,List.mem_of_getElem? hx,h⟩)
end
end
section
open Go.RowKit
theorem reads_cap{K:Nat}{w:World}{ao:Option Addr}{n c c':Nat}{xs:List Value}(h:Reads K w (.slice ao n c) n xs)(hc:n≤c'):Reads K w (.slice ao n c') n xs:=by
 obtain⟨ao',cc,e,hl,_,hr⟩:=h
 injection e with e1 _ _
 subst e1
 exact⟨_,c',rfl,hl,hc,hr⟩
theorem grow_no{X:Nat→Prop}{a b:World}(h:Below a.heap.size a b):GrowX X a b:=(grow_below h).mono (fun k (h:False)=>h.elim)
def WSWr23(e:Te)(id p off g g3 g8 g11 k nb T m G G0:Nat)(ab:Option Addr)(cb:Nat)(j b o:Nat):Prop:=(j=16∧e.vu.ownBlock=some b)
def PSWr23(e:Te)(id p off g g3 g8 g11 k nb T m G G0:Nat)(ab:Option Addr)(cb:Nat)(i:Nat)(v:Value)(lo hi:Nat)(w:World):Prop:=
 match i with
 | 0=>v=.pointer (some ⟨e.t,0,none⟩)
 | 1=>v=.pointer (some ⟨e.t,0,none⟩)
 | 2=>v=.pointer (some ⟨e.t,0,none⟩)
 | 3=>v=.pointer (some ⟨e.t,3,none⟩)
 | 4=>v=e.vu
 | 5=>v=.int .i64 ((T+1:Nat):Int)
 | 6=>v=.pointer (some ⟨e.t,0,none⟩)
 | 7=>v=.pointer (some ⟨e.t,0,none⟩)
 | 8=>v=.pointer (some ⟨e.t,2,none⟩)
 | 9=>v=.int .i64 (e.x.last:Nat)
 | 10=>v=.int .i64 ((p:Nat):Int)
 | 11=>v=.int .i64 ((off:Nat):Int)
 | 12=>v=.pointer (some ⟨g3,6,none⟩)
 | 13=>v=.slice (some ⟨g8,0,none⟩) nb nb
 | 14=>v=.agg #[.int .i64 ((T+1:Nat):Int),.int .i64 (e.x.last:Nat),.int .i64 ((p:Nat):Int),.int .i64 ((off:Nat):Int),.slice (some ⟨g8,0,none⟩) nb nb]
 | 15=>∃g2,v=.slice (some ⟨g2,0,none⟩) 1 1∧G≤g2∧Reads 5 w v 1 [.int .i64 ((T+1:Nat):Int),.int .i64 (e.x.last:Nat),.int .i64 ((p:Nat):Int),.int .i64 ((off:Nat):Int),.slice (some ⟨g8,0,none⟩) nb nb]
 | 16=>∃ao c,v=.slice ao (m+1) c∧w.ownsRow G0 114 5 (.slice ao (m+1) c) (m+1) (ucells e.EU++[.int .i64 ((T+1:Nat):Int),.int .i64 (e.x.last:Nat),.int .i64 ((p:Nat):Int),.int .i64 ((off:Nat):Int),.slice (some ⟨g8,0,none⟩) nb nb])∧∀q,(Value.slice ao (m+1) c).ownBlock=some q→e.vu.ownBlock=some q∨G≤q
 | 17=>v=.pointer (some ⟨e.t,0,none⟩)
 | 18=>v=.pointer (some ⟨e.t,3,none⟩)
 | _=>True
theorem PSWr23_stable(e:Te)(id p off g g3 g8 g11 k nb T m G G0:Nat)(ab:Option Addr)(cb:Nat)(hv:∀q,e.vu.ownBlock=some q→q<G):∀i j,i<19→j<19→j≠i→j∉([[],[],[1],[1,2],[1,2,3],[],[],[6],[6,7],[6,7,8],[],[],[],[12],[5,6,7,8,9,10,11,12,13],[5,6,7,8,9,10,11,12,13,14],[1,2,3,4,5,6,7,8,9,10,11,12,13,14,15],[0,1,2,3,4,5,6,7,8,9,10,11,12,13,14,15,16],[0,1,2,3,4,5,6,7,8,9,10,11,12,13,14,15,16,17]]:List (List Nat)).getD i []→∀v lo hi w w',PSWr23 e id p off g g3 g8 g11 k nb T m G G0 ab cb i v lo hi w→GrowC (WSWr23 e id p off g g3 g8 g11 k nb T m G G0 ab cb j) w w'→PSWr23 e id p off g g3 g8 g11 k nb T m G G0 ab cb i v lo hi w':=by
 intro i j hi hj hne hbs v lo hj2 w w' h hg
 match i,hi with
 | 0,_|1,_|2,_|3,_|4,_|5,_|6,_|7,_|8,_|9,_|10,_|11,_|12,_|13,_|14,_|17,_|18,_=>
  simp only[PSWr23]at h⊢
  exact h
 | 15,_=>
  simp only[PSWr23]at h⊢
  obtain⟨g,h1,h2,h3⟩:=h
  have hgx:GrowX (fun b=>e.vu.ownBlock=some b) w w':=GrowX.of_growC hg (fun k o h=>h.2)
  exact⟨g,h1,h2,h3.growx hgx (fun q e hx=>by rw[h1]at e;have e2:g=q:=(by simpa[Value.ownBlock]using e);have:=hv _ hx;omega)⟩
 | 16,_=>
  simp only[PSWr23]at h⊢
  obtain⟨ao,c,h1,h2,h3⟩:=h
  exact⟨ao,c,h1,own_growx h2 (GrowX.of_growC hg (Y:=fun _=>False) (fun k o h=>hne h.1)) (fun _ _ h=>h),h3⟩
 | (q+19),hq=>exact absurd hq (by omega)
def WSWr16(e:Te)(id p off g k nb G:Nat)(ab:Option Addr)(cb:Nat)(bef bs:List UInt8)(j b o:Nat):Prop:=False
def PSWr16(e:Te)(id p off g k nb G:Nat)(ab:Option Addr)(cb:Nat)(bef bs:List UInt8)(i:Nat)(VS:Nat→Value)(LO HI:Nat→Nat)(v:Value)(lo hi:Nat)(w:World):Prop:=
 match i with
 | 0=>v=.int .i64 ((id:Nat):Int)
 | 1=>v=.pointer (some ⟨e.t,0,none⟩)
 | 2=>v=.pointer (some ⟨e.t,0,none⟩)
 | 3=>v=.pointer (some ⟨e.t,2,none⟩)
 | 4=>v=.int .i64 (e.x.last:Nat)
 | 5=>v=.int .i64 ((p:Nat):Int)
 | 6=>v=.int .i64 ((off:Nat):Int)
 | 7=>v=.slice (some ⟨g,8+off,none⟩) nb (k-(8+off))
 | 8=>∃g2 c2,v=.slice (some ⟨g2,0,none⟩) nb c2∧Reads 1 w (.slice (some ⟨g2,0,none⟩) nb c2) nb (bef.map B)∧G≤g2∧g2<w.heap.size
 | 9=>∃g2 c2,VS 8=.slice (some ⟨g2,0,none⟩) nb c2∧v=.slice (some ⟨g2,0,none⟩) nb nb
 | 10=>v=.slice ab nb cb
 | 11=>∃g2 c2,v=.slice (some ⟨g2,0,none⟩) nb c2∧Reads 1 w (.slice (some ⟨g2,0,none⟩) nb c2) nb (bs.map B)∧G≤g2∧g2<w.heap.size
 | 12=>∃g2 c2,VS 11=.slice (some ⟨g2,0,none⟩) nb c2∧v=.slice (some ⟨g2,0,none⟩) nb nb
 | 13=>v=.agg #[.int .i64 2,.int .i64 ((id:Nat):Int),.int .i64 (e.x.last:Nat),.int .i64 0,.int .i64 ((p:Nat):Int),.int .i64 ((off:Nat):Int),VS 9,VS 12,.slice none 0 0,.slice none 0 0,.int .i64 0]
 | 14=>∃g3,v=.pointer (some ⟨g3,0,none⟩)∧G≤g3∧Box w g3 [.int .i64 0,.int .i64 0,.int .i64 0,.int .i64 0,.int .i64 0,.int .i64 0,.slice none 0 0,.slice none 0 0,.slice none 0 0,.slice none 0 0,.int .i64 0]
 | _=>True
abbrev bSWr16:List (List Nat):=[[],[],[1],[1,2],[1,2,3],[],[],[],[7],[7,8],[],[7,8,9,10],[7,8,9,10,11],[0,1,2,3,4,5,6,7,8,9,10,11,12],[]]
theorem PSWr16_stable(e:Te)(id p off g k nb G:Nat)(ab:Option Addr)(cb:Nat)(bef bs:List UInt8)  : ∀i j,i<15→j<15→j≠i→j∉bSWr16.getD i []→(i,j)∉([]:List (Nat×Nat))→∀VS LO HI v lo hi w w',PSWr16 e id p off g k nb G ab cb bef bs i VS LO HI v lo hi w→GrowC (WSWr16 e id p off g k nb G ab cb bef bs j) w w'→PSWr16 e id p off g k nb G ab cb bef bs i VS LO HI v lo hi w':=by
 intro i j hi hj hne hbs hx VS LO HI v lo hj2 w w' h hg
 match i,hi with
 | 0,_|1,_|2,_|3,_|4,_|5,_|6,_|7,_|9,_|10,_|12,_|13,_=>
  simp only[PSWr16]at h⊢
  exact h
 | 8,_|11,_=>
  simp only[PSWr16]at h⊢
  obtain⟨g2,c2,h1,h2,h3,h4⟩:=h
  have hgx:GrowX (fun _=>False) w w':=GrowX.of_growC hg (fun k o h=>h)
  exact⟨g2,c2,h1,h2.growx hgx (fun _ _ h=>h),h3,Nat.lt_of_lt_of_le h4 hgx.size⟩
 | 14,_=>
  simp only[PSWr16]at h⊢
  obtain⟨g3,h1,h2,h3⟩:=h
  exact⟨g3,h1,h2,h3.growx (GrowX.of_growC hg (Y:=fun _=>False) (fun k o h=>h)) (fun h=>h)⟩
 | (q+15),hq=>exact absurd hq (by omega)
theorem PSWr16_cong(e:Te)(id p off g k nb G:Nat)(ab:Option Addr)(cb:Nat)(bef bs:List UInt8):∀i,i<15→∀VS VS' LO LO' HI HI' v lz hz w,(∀j∈bSWr16.getD i [],VS j=VS' j∧LO j=LO' j∧HI j=HI' j)→PSWr16 e id p off g k nb G ab cb bef bs i VS LO HI v lz hz w→PSWr16 e id p off g k nb G ab cb bef bs i VS' LO' HI' v lz hz w:=by
 intro i hi VS VS' LO LO' HI HI' v lz hz w he h
 match i,hi with
 | 0,_|1,_|2,_|3,_|4,_|5,_|6,_|7,_|8,_|10,_|11,_|14,_=>
  simp only[PSWr16]at h⊢
  exact h
 | 9,_=>
  simp only[PSWr16]at h⊢
  obtain⟨e8a,e8b,e8c⟩:=he 8 (by decide)
  simp only[←e8a,←e8b,←e8c]
  exact h
 | 12,_=>
  simp only[PSWr16]at h⊢
  obtain⟨e11a,e11b,e11c⟩:=he 11 (by decide)
  simp only[←e11a,←e11b,←e11c]
  exact h
 | 13,_=>
  simp only[PSWr16]at h⊢
  obtain⟨e9a,e9b,e9c⟩:=he 9 (by decide)
  obtain⟨e12a,e12b,e12c⟩:=he 12 (by decide)
  simp only[←e9a,←e9b,←e9c,←e12a,←e12b,←e12c]
  exact h
 | (q+15),hq=>exact absurd hq (by omega)
theorem write_eq(σ:St)(c:Cf)(i:Nat)(x:Tx)(p off:Nat)(bs:List UInt8)(hp:p<c.pg)(bef:List UInt8)(hbef:(((σ.get c p).2.1.drop (8+off)).take bs.length)=bef)(hne:bef≠bs)
  (hsz:Rc.size { Rc.zero with kind:=2,txn:=x.id,prev:=x.last,page:=p,off:=off,before:=bef,after:=bs }≤(σ.get c p).2.2.io.R.room c.n):
  σ.write c i x p off bs=({ (σ.get c p).2.2 with
    io:={ (σ.get c p).2.2.io with R:=(σ.get c p).2.2.io.R.app (Rc.enc { Rc.zero with kind:=2,txn:=x.id,prev:=x.last,page:=p,off:=off,before:=bef,after:=bs }) },
    lines:=(σ.get c p).2.2.lines++[((σ.get c p).2.2.io.R.tail+1,{ Rc.zero with kind:=2,txn:=x.id,prev:=x.last,page:=p,off:=off,before:=bef,after:=bs })],
    opn:=(σ.get c p).2.2.opn.set i { x with l:=x.l++[⟨(σ.get c p).2.2.io.R.tail+1,x.last,p,off,bef⟩],last:=(σ.get c p).2.2.io.R.tail+1 } }:St).put c p (overB (overB (σ.get c p).2.1 0 (be8 ((σ.get c p).2.2.io.R.tail+1))) (8+off) bs) ((σ.get c p).2.2.io.R.tail+1):=by
 have h0:=(σ.get_ok c p hp).1
 unfold St.write
 simp only[]
 rw[if_neg (by rw[h0];simp),hbef,if_neg hne]
 rw[St.lay_eq _ c { Rc.zero with kind:=2,txn:=x.id,prev:=x.last,page:=p,off:=off,before:=bef,after:=bs } rfl rfl hsz]
 simp only[St.setTx]
 rw[if_neg (by simp)]
def TxB(EO:List Te):Prop:=∀e∈EO,e.EU.length≤1000000∧∀u∈e.EU,u.1.off+u.1.before.length≤504
section
variable{W0 w w':World}{A:Adr}{c:Cf}{σ:St}{S:Nat→Prop}{vl vo:Value}{EL:List Le}{EO:List Te}{K S1:Nat→Prop}{X:Nat→Prop}
set_option maxRecDepth 100000 in
set_option maxHeartbeats 12800000 in
theorem write_at(h:SvAt W0 w A c σ vl vo EL EO K S1)(hn:EO.length≤1000000)(hr:resA EO≤1099511627776)(hu:TxB EO)(i:Nat)(e:Te)(hof:σ.of (e.x.id:Int)=some i)(hei:EO[i]? = some e)
  (p off:Nat) (bs:List UInt8) (ab:Option Addr) (nb cb:Nat) (hv:Reads 1 w (.slice ab nb cb) nb (bs.map B)) (hbn:bs.length=nb) (hpg:p<c.pg) (hoff:off+nb≤504) (hbusy:σ.busy (e.x.id:Int) p off nb=false)
  (harg:∀q,(Value.slice ab nb cb).ownBlock=some q→¬sfoot S1 vl vo EO K q∧q<w.heap.size) (hid:e.x.id≤1099511627776) (hla:e.x.last≤1099511627776) (hpp:c.pg≤1099511627776)
  (hk:2240+3*nb+resA EO≤σ.io.R.room c.n) (ht:σ.io.R.tail+96+2*nb≤1099511627775) (hl:EL.length≤1000000) (hwr:σ.p.wr+2≤1000000000):
  Calls Tryz.prog 31 #[.pointer (some ⟨A.sb,0,none⟩),.int .i64 (e.x.id:Nat),.int .i64 (p:Nat),.int .i64 (off:Nat),.slice ab nb cb] w fun er w'=>∃S',er=.returned (.int .i64 0)∧SV W0 A c (σ.write c i e.x p off bs).2 S' w'∧Foot (sfoot S1 vl vo EO K) S' w w':=by
 have HN:=Lib.hid hn
 have HR:=Lib.hid hr
 have HU:=Lib.hid hu
 have HEI:=Lib.hid hei
 have HPG:=Lib.hid hpg
 have HPP:=Lib.hid hpp
 have HK:=Lib.hid hk
 have HT:=Lib.hid ht
 have HL:=Lib.hid hl
 have HWR:=Lib.hid hwr
 have HV:=Lib.hid hv
 have HBN:=Lib.hid hbn
 have HARG:=Lib.hid harg
 have HS:=Lib.hid h
 have HOFF:=Lib.hid hoff
 have c9:=h.sbx.cell 9 _ rfl
 have clt:=h.sbx.lt
 have hcall:=of_at h (e.x.id:Int) (Nat.le_trans hn (by decide))
 have HOF:=Lib.hid hcall
 have HO1:=Lib.hid hof
 have hcall2:=within_at h (p:Int) (off:Int) (nb:Int)
 rw[decide_eq_true (show _ from⟨by omega,by omega,by omega,by omega,by omega,by omega⟩)]at hcall2
 have HWI:=Lib.hid hcall2
 have hcall3:=busy_at h (Nat.le_trans hn (by decide)) (fun e he=>⟨Nat.le_trans (hu e he).1 (by decide),fun u hq=>Nat.le_trans ((hu e he).2 u hq) (by decide)⟩) (e.x.id:Int) p off nb (by omega) (by omega)
 rw[hbusy]at hcall3
 have HBU:=Lib.hid hcall3
 obtain⟨id,hidd⟩:∃x,e.x.id=x:=⟨_,rfl⟩
 rw[hidd]at HOF HO1 HBU hid⊢
 have HID:=Lib.hid hidd
 clear h hn hr hu hei hpg hpp hk ht hl hwr hv hbn harg hof hcall hcall2 hcall3 hbusy hidd
 go_enter Tryz.func31,Tryz.ntmps31
 go_wp2_with fail
 refine HOF.out.mono ?_
 rintro er y0 ⟨⟨v,rfl,hof⟩,hy⟩
 obtain rfl:w=y0:=hy.symm
 obtain rfl:v=ptrT e:=by
  rcases hof with ⟨i',e',h1,h2,h3⟩|⟨h1,_⟩
  ·have h0:=HO1.out
   rw[h1]at h0
   obtain rfl:=Option.some.inj h0
   have h4:=HEI.out
   rw[h2]at h4
   obtain rfl:=Option.some.inj h4
   exact h3
  ·have h0:=HO1.out
   rw[h1]at h0;cases h0
 clear hof HOF
 simp only[ptrT]
 go_wp2_with fail
 refine HWI.out.mono ?_
 rintro er y0 ⟨rfl,hy⟩
 obtain rfl:w=y0:=hy.symm
 clear HWI
 go_wp2_with fail
 refine HBU.out.mono ?_
 rintro er y1 ⟨rfl,hb1⟩
 have HB1:=Lib.hid hb1
 have hs1:=HS.out.below hb1
 have HS1:=Lib.hid hs1
 have HV1:=Lib.hid (HV.out.below hb1 (Nat.le_refl _))
 have c3:=hs1.sbx.cell 3 _ rfl
 have clt1:=hs1.sbx.lt
 have hget:=sget_ok hs1 p HPG.out (by have:=HWR.out;omega)
 have HG:=Lib.hid hget
 clear hb1 hs1 hget c9 clt HBU
 go_wp2_with fail
 refine HG.out.mono ?_
 rintro er y2 ⟨g,k,S2,rfl,hrow,hgg,hkk,hng,hs2,hf2⟩
 obtain⟨pgb,hpgb⟩:∃x,(σ.get c p).2.1=x:=⟨_,rfl⟩
 rw[hpgb]at hrow
 have HPB:=Lib.hid hpgb
 have HROW:=Lib.hid hrow
 have HGG:=Lib.hid hgg
 have HKK:=Lib.hid hkk
 have HNG:=Lib.hid hng
 have HS2:=Lib.hid hs2
 have HF2:=Lib.hid hf2
 have hpl:pgb.length=512:=by have:=hrow.1;rw[List.length_map]at this;omega
 have HPL:=Lib.hid hpl
 have hcut:=(Reads.of_own hrow).cutA (8+off) (8+off+nb) (by omega) (by omega)
 rw[show 8+off+nb-(8+off)=nb by omega]at hcut
 have hcx:(((pgb.map B).drop ((8+off)*1)).take (nb*1))=((pgb.drop (8+off)).take nb).map B:=by rw[List.map_take,List.map_drop,Nat.mul_one,Nat.mul_one]
 rw[hcx]at hcut
 obtain⟨bef,hbef⟩:∃x,(pgb.drop (8+off)).take nb=x:=⟨_,rfl⟩
 rw[hbef]at hcut
 have HBEF:=Lib.hid hbef
 have HCUT:=Lib.hid hcut
 have hbl:bef.length=nb:=by rw[←hbef,List.length_take,List.length_drop,hpl];omega
 have HBL:=Lib.hid hbl
 have HV2:Hid (Reads 1 y2 (.slice ab nb cb) nb (bs.map B)):=Lib.hid (HV1.out.growx hf2.grow (fun q e1 h1=>(HARG.out q e1).1 (.inl h1)))
 have HB2:=Lib.hid hf2
 clear hrow hgg hng hs2 hf2 hpl hcx hcut hbef hbl hpgb c3 clt1 HG
 have hrd2:=run_str_reads Tryz.underlying48 Tryz.underlying5 Tryz.underlying9 bs HV2.out
 have fin:∀(hbb:bef=bs),SV W0 A c (σ.write c i e.x p off bs).2 (sfoot S2 vl vo EO K) y2∧Foot (sfoot S1 vl vo EO K) (sfoot S2 vl vo EO K) w y2:=by
  intro hbb
  refine⟨⟨vl,vo,EL,EO,K,S2,?_,rfl⟩,(Foot.below (grow_below HB1.out)).trans (sfoot_of HF2.out)⟩
  have e0:(σ.get c p).1=0:=(σ.get_ok c p HPG.out).1
  have e1:(σ.write c i e.x p off bs).2=(σ.get c p).2.2:=by
   unfold St.write
   simp only[]
   rw[if_neg (by rw[e0];simp),if_pos (by rw[HPB.out,HBN.out,HBEF.out,hbb])]
  rw[e1]
  exact HS2.out
 have FIN:=Lib.hid fin
 clear fin
 by_cases hnz:nb=0
 case pos=>
  subst hnz
  have hbs0:bs=[]:=List.eq_nil_of_length_eq_zero HBN.out
  have hbf0:bef=[]:=List.eq_nil_of_length_eq_zero HBL.out
  have hz1:Reads 1 y2 (.slice (some ⟨g,0,none⟩) 0 0) 0 (([]:List UInt8).map B):=⟨_,_,rfl,rfl,Nat.le_refl _,fun h=>absurd h (by omega)⟩
  have hz2:Reads 1 y2 (.slice (some ⟨g,8+off,none⟩) 0 (k-(8+off))) 0 (([]:List UInt8).map B):=⟨_,_,rfl,rfl,Nat.zero_le _,fun h=>absurd h (by omega)⟩
  have hrd0:=run_str_reads Tryz.underlying48 Tryz.underlying5 Tryz.underlying9 [] hz1
  have hrd1:=run_str_reads Tryz.underlying48 Tryz.underlying5 Tryz.underlying9 [] hz2
  have hss:=str_self []
  have HBB:=Lib.hid (hbf0.trans hbs0.symm)
  rw[hbs0]at hrd2
  clear hz1 hz2 hbs0 hbf0
  go_wp2_with fail
  all_goals (go_wp2_with fail;go_ret;first|exact⟨rfl,_,(FIN.out HBB.out).1,(FIN.out HBB.out).2⟩|exact⟨_,rfl,(FIN.out HBB.out).1,(FIN.out HBB.out).2⟩)
 have hkne:¬k=8+off:=by omega
 have hk3:8+off+nb-(8+off)=nb:=by omega
 have hk2:8+off+nb≤k:=by omega
 by_cases hbb:bef=bs
 case pos=>
  have hss:=str_self bs
  have hrd1:_:=run_str_reads Tryz.underlying48 Tryz.underlying5 Tryz.underlying9 bef HCUT.out
  unfold cutA at hrd1
  rw[if_neg hkne]at hrd1
  simp only[Option.map_some,Addr.add_lit,Nat.zero_add,Nat.mul_one]at hrd1
  rw[hbb]at hrd1
  have HBB:=Lib.hid hbb
  clear hbb
  go_wp2_with fail
  all_goals (try go_wp2_with fail)
  go_ret
  first|exact⟨rfl,_,(FIN.out HBB.out).1,(FIN.out HBB.out).2⟩|exact⟨_,rfl,(FIN.out HBB.out).1,(FIN.out HBB.out).2⟩
 have hss:=str_apart hbb
 have hss2:(bef==bs)=false:=by simpa using hbb
 have hrd1:_:=run_str_reads Tryz.underlying48 Tryz.underlying5 Tryz.underlying9 bef HCUT.out
 unfold cutA at hrd1
 rw[if_neg hkne]at hrd1
 simp only[Option.map_some,Addr.add_lit,Nat.zero_add,Nat.mul_one]at hrd1
 have HNE:=Lib.hid hbb
 have HNZ:=Lib.hid (Nat.pos_of_ne_zero hnz)
 clear hbb hnz
 go_upto_region 16 with (fail)
 rw[hk3]
 have hcutp:Reads 1 y2 (.slice (some ⟨g,8+off,none⟩) nb (k-(8+off))) nb (bef.map B):=by
  have:=HCUT.out
  unfold cutA at this
  rw[if_neg hkne]at this
  simpa only[Option.map_some,Addr.add_lit,Nat.zero_add,Nat.mul_one]using this
 have HCP:=Lib.hid hcutp
 have be:Box y2 e.t [.int .i64 (id:Nat),.int .i64 (e.x.first:Nat),.int .i64 (e.x.last:Nat),e.vu]:=by rw[←HID.out];exact(HS2.out.tx.at_ e (List.mem_of_getElem? HEI.out)).box
 have hB:Below y2.heap.size y2 y2:=Below.refl _ _
 clear hcutp hrd1 hrd2 hss hss2
 refine wp_region_partsDV (WSWr16 e id p off g k nb (y2.heap.size) ab cb bef bs) 15 bSWr16 [some 72,some 73,some 74,some 75,some 76,some 77,some 78,some 79,some 80,some 81,some 82,some 83,some 84,some 85,some 15,none] [[],[],[1],[2],[3],[],[],[],[7],[8],[],[10],[11],[0,4,5,6,9,12],[]] [0,1,2,3,4,5,6,7,8,9,10,11,12,13,14] [] (by decide) (by kernel_rfl) (by kernel_rfl) rfl (PSWr16 e id p off g k nb (y2.heap.size) ab cb bef bs) (PSWr16_cong e id p off g k nb (y2.heap.size) ab cb bef bs) (PSWr16_stable e id p off g k nb (y2.heap.size) ab cb bef bs) ?pSWr16 ?_
 case pSWr16=>
  intro i hi o ho vs lo hx_ w' hg hp hdd
  match i,hi with
  | 0,_|1,_|5,_|6,_|7,_|10,_=>
   obtain rfl:=Option.some.inj ho
   clear ho
   simp only[actsD,Act.put,actL]
   have hsz:=hg.size
   have hgB:Below y2.heap.size y2 w':=hg.below (fun k hk=>⟨hk,fun o=>by rintro⟨j,_,_,_,hw⟩;exact False.elim hw⟩)
   go_wp2
   exact⟨_,rfl,GrowC.refl _,rfl⟩
  | 2,_=>
   obtain rfl:=Option.some.inj ho
   clear ho
   simp only[actsD,Act.put,actL]
   obtain⟨_,_,_,h1⟩:=hp 1 (by simp)
   simp only[PSWr16]at h1
   have hsz:=hg.size
   have hgB:Below y2.heap.size y2 w':=hg.below (fun k hk=>⟨hk,fun o=>by rintro⟨j,_,_,_,hw⟩;exact False.elim hw⟩)
   rw[h1]
   go_wp2
   exact⟨_,rfl,GrowC.refl _,rfl⟩
  | 3,_=>
   obtain rfl:=Option.some.inj ho
   clear ho
   simp only[actsD,Act.put,actL]
   obtain⟨_,_,_,h2⟩:=hp 2 (by simp)
   simp only[PSWr16]at h2
   have hsz:=hg.size
   have hgB:Below y2.heap.size y2 w':=hg.below (fun k hk=>⟨hk,fun o=>by rintro⟨j,_,_,_,hw⟩;exact False.elim hw⟩)
   rw[h2]
   go_wp2
   exact⟨_,rfl,GrowC.refl _,rfl⟩
  | 4,_=>
   obtain rfl:=Option.some.inj ho
   clear ho
   simp only[actsD,Act.put,actL]
   obtain⟨_,_,_,h3⟩:=hp 3 (by simp)
   simp only[PSWr16]at h3
   have hsz:=hg.size
   have hgB:Below y2.heap.size y2 w':=hg.below (fun k hk=>⟨hk,fun o=>by rintro⟨j,_,_,_,hw⟩;exact False.elim hw⟩)
   rw[h3]
   have e0:=(hg.cell (e.t) 2 be.lt (by rintro⟨j,_,hne,hb,hw⟩;exact False.elim hw)).trans (be.cell 2 _ rfl)
   go_wp2
   exact⟨_,rfl,GrowC.refl _,rfl⟩
  | 8,_=>
   obtain rfl:=Option.some.inj ho
   clear ho
   simp only[actsD,Act.put,actL]
   obtain⟨_,_,_,h7⟩:=hp 7 (by simp)
   simp only[PSWr16]at h7
   have hsz:=hg.size
   have hgB:Below y2.heap.size y2 w':=hg.below (fun k hk=>⟨hk,fun o=>by rintro⟨j,_,_,_,hw⟩;exact False.elim hw⟩)
   rw[h7]
   have hcall:=clone_any bef nb HBL.out HNZ.out (by omega) _ w' (HCP.out.below hgB (Nat.le_refl _))
   have HCA:=Lib.hid hcall
   clear hcall
   go_wp2_with fail
   refine HCA.out.mono ?_
   rintro er wh ⟨g2,c2,rfl,hrd,hg2,hlt2,hbl⟩
   go_wp2
   exact⟨_,rfl,GrowC.of_grow ⟨hbl.os,hbl.tape,hbl.output,hbl.size,hbl.block⟩,g2,c2,rfl,hrd,Nat.le_trans hgB.size hg2,hlt2⟩
  | 9,_=>
   obtain rfl:=Option.some.inj ho
   clear ho
   simp only[actsD,Act.put,actL]
   obtain⟨_,_,_,h8⟩:=hp 8 (by simp)
   simp only[PSWr16]at h8
   have hsz:=hg.size
   have hgB:Below y2.heap.size y2 w':=hg.below (fun k hk=>⟨hk,fun o=>by rintro⟨j,_,_,_,hw⟩;exact False.elim hw⟩)
   obtain⟨g2,c2,h8a,h8b,h8c,h8d⟩:=h8
   rw[h8a]
   have hle:nb≤c2:=by obtain⟨_,_,e1,_,e3,_⟩:=h8b;injection e1 with _ _ e4;omega
   go_wp2_with fail
   refine(clipB_any _ nb c2 w' hle).mono ?_
   rintro er wh ⟨rfl,rfl⟩
   go_wp2
   exact⟨_,rfl,GrowC.refl _,g2,c2,h8a,rfl⟩
  | 11,_=>
   obtain rfl:=Option.some.inj ho
   clear ho
   simp only[actsD,Act.put,actL]
   obtain⟨_,_,_,h10⟩:=hp 10 (by simp)
   simp only[PSWr16]at h10
   have hsz:=hg.size
   have hgB:Below y2.heap.size y2 w':=hg.below (fun k hk=>⟨hk,fun o=>by rintro⟨j,_,_,_,hw⟩;exact False.elim hw⟩)
   rw[h10]
   have hcall:=clone_any bs nb HBN.out HNZ.out (by omega) _ w' (HV2.out.below hgB (Nat.le_refl _))
   have HCA:=Lib.hid hcall
   clear hcall
   go_wp2_with fail
   refine HCA.out.mono ?_
   rintro er wh ⟨g2,c2,rfl,hrd,hg2,hlt2,hbl⟩
   go_wp2
   exact⟨_,rfl,GrowC.of_grow ⟨hbl.os,hbl.tape,hbl.output,hbl.size,hbl.block⟩,g2,c2,rfl,hrd,Nat.le_trans hgB.size hg2,hlt2⟩
  | 12,_=>
   obtain rfl:=Option.some.inj ho
   clear ho
   simp only[actsD,Act.put,actL]
   obtain⟨_,_,_,h11⟩:=hp 11 (by simp)
   simp only[PSWr16]at h11
   have hsz:=hg.size
   have hgB:Below y2.heap.size y2 w':=hg.below (fun k hk=>⟨hk,fun o=>by rintro⟨j,_,_,_,hw⟩;exact False.elim hw⟩)
   obtain⟨g2,c2,h11a,h11b,h11c,h11d⟩:=h11
   rw[h11a]
   have hle:nb≤c2:=by obtain⟨_,_,e1,_,e3,_⟩:=h11b;injection e1 with _ _ e4;omega
   go_wp2_with fail
   refine(clipB_any _ nb c2 w' hle).mono ?_
   rintro er wh ⟨rfl,rfl⟩
   go_wp2
   exact⟨_,rfl,GrowC.refl _,g2,c2,h11a,rfl⟩
  | 13,_=>
   obtain rfl:=Option.some.inj ho
   clear ho
   simp only[actsD,Act.put,actL]
   obtain⟨_,_,_,h0⟩:=hp 0 (by simp)
   simp only[PSWr16]at h0
   obtain⟨_,_,_,h4⟩:=hp 4 (by simp)
   simp only[PSWr16]at h4
   obtain⟨_,_,_,h5⟩:=hp 5 (by simp)
   simp only[PSWr16]at h5
   obtain⟨_,_,_,h6⟩:=hp 6 (by simp)
   simp only[PSWr16]at h6
   obtain⟨_,_,_,h9⟩:=hp 9 (by simp)
   simp only[PSWr16]at h9
   obtain⟨_,_,_,h12⟩:=hp 12 (by simp)
   simp only[PSWr16]at h12
   have hsz:=hg.size
   have hgB:Below y2.heap.size y2 w':=hg.below (fun k hk=>⟨hk,fun o=>by rintro⟨j,_,_,_,hw⟩;exact False.elim hw⟩)
   rw[h0,h4,h5,h6]
   obtain⟨g8,c8,h9a,h9b⟩:=h9
   obtain⟨g11,c11,h12a,h12b⟩:=h12
   rw[h9b,h12b]
   go_wp2
   exact⟨_,rfl,GrowC.refl _,by simp only[PSWr16];rw[h9b,h12b]⟩
  | 14,_=>
   obtain rfl:=Option.some.inj ho
   clear ho
   simp only[actsD,Act.put,actL]
   have hsz:=hg.size
   have hgB:Below y2.heap.size y2 w':=hg.below (fun k hk=>⟨hk,fun o=>by rintro⟨j,_,_,_,hw⟩;exact False.elim hw⟩)
   have hbl:=(Below.refl w'.heap.size w').alloc (Nat.le_refl _) (.cells #[.int .i64 0,.int .i64 0,.int .i64 0,.int .i64 0,.int .i64 0,.int .i64 0,.slice none 0 0,.slice none 0 0,.slice none 0 0,.slice none 0 0,.int .i64 0] 85)
   have hbn:=Box.new w' #[.int .i64 0,.int .i64 0,.int .i64 0,.int .i64 0,.int .i64 0,.int .i64 0,.slice none 0 0,.slice none 0 0,.slice none 0 0,.slice none 0 0,.int .i64 0] 85 rfl
   go_wp2
   exact⟨_,rfl,GrowC.of_grow ⟨hbl.os,hbl.tape,hbl.output,hbl.size,hbl.block⟩,_,rfl,hgB.size,hbn⟩
  | (q+15),hq=>exact absurd hq (by omega)
 intro vS lo hi z3 hg hp hd
 obtain⟨_,_,_,h0⟩:=hp 0 (by decide)
 replace h0:=h0 (by decide)
 obtain⟨_,_,_,h1⟩:=hp 1 (by decide)
 replace h1:=h1 (by decide)
 obtain⟨_,_,_,h2⟩:=hp 2 (by decide)
 replace h2:=h2 (by decide)
 obtain⟨_,_,_,h3⟩:=hp 3 (by decide)
 replace h3:=h3 (by decide)
 obtain⟨_,_,_,h4⟩:=hp 4 (by decide)
 replace h4:=h4 (by decide)
 obtain⟨_,_,_,h5⟩:=hp 5 (by decide)
 replace h5:=h5 (by decide)
 obtain⟨_,_,_,h6⟩:=hp 6 (by decide)
 replace h6:=h6 (by decide)
 obtain⟨_,_,_,h7⟩:=hp 7 (by decide)
 replace h7:=h7 (by decide)
 obtain⟨_,_,_,h8⟩:=hp 8 (by decide)
 replace h8:=h8 (by decide)
 obtain⟨_,_,_,h9⟩:=hp 9 (by decide)
 replace h9:=h9 (by decide)
 obtain⟨_,_,_,h10⟩:=hp 10 (by decide)
 replace h10:=h10 (by decide)
 obtain⟨_,_,_,h11⟩:=hp 11 (by decide)
 replace h11:=h11 (by decide)
 obtain⟨_,_,_,h12⟩:=hp 12 (by decide)
 replace h12:=h12 (by decide)
 obtain⟨_,_,_,h13⟩:=hp 13 (by decide)
 replace h13:=h13 (by decide)
 obtain⟨_,_,_,h14⟩:=hp 14 (by decide)
 replace h14:=h14 (by decide)
 simp only[PSWr16]at h0 h1 h2 h3 h4 h5 h6 h7 h8 h9 h10 h11 h12 h13 h14
 clear hp hd
 have hsz:=hg.size
 replace be:=be.grow hg (by intro i _;rintro⟨j,_,hw⟩;exact False.elim hw)
 replace hB:=hB.trans (hg.below (fun k hk=>⟨by omega,fun o=>by rintro⟨j,_,hw⟩;exact False.elim hw⟩))
 have hr:List.range 15=[0,1,2,3,4,5,6,7,8,9,10,11,12,13,14]:=rfl
 rw[hr]
 clear hr
 simp only[List.drop_succ_cons,List.drop_zero,List.drop_nil,actsD,Act.put,actL,h0,h1,h2,h3,h4,h5,h6,h7,h10]
 clear h0 h1 h2 h3 h4 h5 h6 h7 h10
 obtain⟨g8,c8,h8a,h8b,h8c,h8d⟩:=h8
 obtain⟨g11,c11,h11a,h11b,h11c,h11d⟩:=h11
 have h9v:vS 9=.slice (some ⟨g8,0,none⟩) nb nb:=by
  obtain⟨g',c',e1,e2⟩:=h9
  rw[h8a]at e1
  injection e1 with e1 _ _
  injection e1 with e1
  injection e1 with e1 _ _
  rw[e2,e1]
 have h12v:vS 12=.slice (some ⟨g11,0,none⟩) nb nb:=by
  obtain⟨g',c',e1,e2⟩:=h12
  rw[h11a]at e1
  injection e1 with e1 _ _
  injection e1 with e1
  injection e1 with e1 _ _
  rw[e2,e1]
 obtain⟨g3,h14a,h14b,h14c⟩:=h14
 rw[h9v,h12v]at h13
 rw[h14a,h13,h12v,h11a,h9v,h8a]
 have HC8:=Lib.hid h8b
 have HC11:=Lib.hid h11b
 have HG8:Hid (y2.heap.size≤g8∧g8<z3.heap.size):=Lib.hid ⟨h8c,h8d⟩
 have HG11:Hid (y2.heap.size≤g11∧g11<z3.heap.size):=Lib.hid ⟨h11c,h11d⟩
 have HG3:=Lib.hid h14b
 have HB3:=Lib.hid hB
 have HBX3:=Lib.hid h14c
 have HDIF:Hid (g8≠g3∧g11≠g3):=Lib.hid (by
  have k0:=h14c.cell 0 _ rfl
  constructor
  ·rintro rfl
   obtain⟨_,_,e1,_,_,hc⟩:=h8b
   injection e1 with e1 _ _
   obtain⟨b',o',e2,_,hc⟩:=hc HNZ.out
   rw[←e1]at e2
   injection e2 with e2
   injection e2 with e2 e3 _
   subst e2 e3
   have hx:=hc 0 (B (bef[0]'(by have:=HBL.out;have:=HNZ.out;omega))) (by rw[List.getElem?_map,List.getElem?_eq_getElem (by have:=HBL.out;have:=HNZ.out;omega)];rfl)
   rw[Nat.zero_add,k0]at hx
   cases hx
  ·rintro rfl
   obtain⟨_,_,e1,_,_,hc⟩:=h11b
   injection e1 with e1 _ _
   obtain⟨b',o',e2,_,hc⟩:=hc HNZ.out
   rw[←e1]at e2
   injection e2 with e2
   injection e2 with e2 e3 _
   subst e2 e3
   have hx:=hc 0 (B (bs[0]'(by have:=HBN.out;have:=HNZ.out;omega))) (by rw[List.getElem?_map,List.getElem?_eq_getElem (by have:=HBN.out;have:=HNZ.out;omega)];rfl)
   rw[Nat.zero_add,k0]at hx
   cases hx)
 have z0:=h14c.cell 0 _ rfl
 have z1:=h14c.cell 1 _ rfl
 have z2:=h14c.cell 2 _ rfl
 have z3':=h14c.cell 3 _ rfl
 have z4:=h14c.cell 4 _ rfl
 have z5:=h14c.cell 5 _ rfl
 have z6:=h14c.cell 6 _ rfl
 have z7:=h14c.cell 7 _ rfl
 have z8:=h14c.cell 8 _ rfl
 have z9:=h14c.cell 9 _ rfl
 have z10:=h14c.cell 10 _ rfl
 have zfz:=h14c.free
 have zlt:=h14c.lt
 clear h8a h8b h8c h8d h9 h9v h11a h11b h11c h11d h12 h12v h13 h14a h14b h14c hB hg hsz be
 go_upto_region 17 with (fail)
 obtain⟨hp1,hp2⟩:=put11 HBX3.out (.int .i64 2) (.int .i64 (id:Nat)) (.int .i64 (e.x.last:Nat)) (.int .i64 0) (.int .i64 (p:Nat)) (.int .i64 (off:Nat)) (.slice (some ⟨g8,0,none⟩) nb nb) (.slice (some ⟨g11,0,none⟩) nb nb) (.slice none 0 0) (.slice none 0 0) (.int .i64 0)
 have HP1:=Lib.hid hp1
 have HP2:=Lib.hid hp2
 clear z0 z1 z2 z3' z4 z5 z6 z7 z8 z9 z10 zfz zlt hp1 hp2
 generalize (((((((((((z3.setCell ⟨g3,0,none⟩ (.int .i64 2)).setCell ⟨g3,1,none⟩ (.int .i64 (id:Nat))).setCell ⟨g3,2,none⟩ (.int .i64 (e.x.last:Nat))).setCell ⟨g3,3,none⟩ (.int .i64 0)).setCell ⟨g3,4,none⟩ (.int .i64 (p:Nat))).setCell ⟨g3,5,none⟩ (.int .i64 (off:Nat))).setCell ⟨g3,6,none⟩ (.slice (some ⟨g8,0,none⟩) nb nb)).setCell ⟨g3,7,none⟩ (.slice (some ⟨g11,0,none⟩) nb nb)).setCell ⟨g3,8,none⟩ (.slice none 0 0)).setCell ⟨g3,9,none⟩ (.slice none 0 0)).setCell ⟨g3,10,none⟩ (.int .i64 0))=y4 at *
 have hgy:GrowX (fun k=>k=g3) y2 y4:=(grow_no HB3.out).trans HP2.out
 have hgyb:Below y2.heap.size y2 y4:=hgy.below (fun k hk=>⟨hk,fun h=>by have:=HG3.out;omega⟩)
 have hs4:=HS2.out.below hgyb
 have HS4:=Lib.hid hs4
 have HGY:=Lib.hid hgyb
 have hsz4:z3.heap.size≤y4.heap.size:=HP2.out.size
 have HR8:=Lib.hid (HC8.out.growx HP2.out (fun q e1 e2=>HDIF.out.1 (by have e3:g8=q:=(by simpa[Value.ownBlock]using e1);rw[e3,e2])))
 have HR11:=Lib.hid (HC11.out.growx HP2.out (fun q e1 e2=>HDIF.out.2 (by have e3:g11=q:=(by simpa[Value.ownBlock]using e1);rw[e3,e2])))
 have HV4:=Lib.hid (HV2.out.below hgyb (Nat.le_refl _))
 have HROW4:=Lib.hid (own_growx HROW.out hgy (fun q e1 e2=>by have e3:g=q:=(by simpa[Value.ownBlock]using e1);have h1:=HROW.out.lt q e1;have:=HG3.out;omega))
 have HSZ4:=Lib.hid hsz4
 have r0:=HP1.out.cell 0 _ rfl
 have r1:=HP1.out.cell 1 _ rfl
 have r2:=HP1.out.cell 2 _ rfl
 have r3:=HP1.out.cell 3 _ rfl
 have r4:=HP1.out.cell 4 _ rfl
 have r5:=HP1.out.cell 5 _ rfl
 have r6:=HP1.out.cell 6 _ rfl
 have r7:=HP1.out.cell 7 _ rfl
 have r8:=HP1.out.cell 8 _ rfl
 have r9:=HP1.out.cell 9 _ rfl
 have r10:=HP1.out.cell 10 _ rfl
 have rlt:=HP1.out.lt
 have hsm:Rc.small ({ Rc.zero with kind:=2,txn:=id,prev:=e.x.last,page:=p,off:=off,before:=bef,after:=bs }:Rc):=⟨by show(2:Nat)≤_;omega,by show id≤_;omega,by show e.x.last≤_;omega,Nat.zero_le _,by show p≤_;have:=HPG.out;have:=HPP.out;omega,by show off≤_;omega,Nat.zero_le _,by show bef.length≤_;have:=HBL.out;omega,by show bs.length≤_;have:=HBN.out;omega,rfl,rfl⟩
 have HSM:=Lib.hid hsm
 have hsize:=recsize_any (w:=y4) ({ Rc.zero with kind:=2,txn:=id,prev:=e.x.last,page:=p,off:=off,before:=bef,after:=bs }:Rc) (some ⟨g8,0,none⟩) (some ⟨g11,0,none⟩) nb nb nb nb hsm HBL.out HBN.out
 have hrs:Rc.size ({ Rc.zero with kind:=2,txn:=id,prev:=e.x.last,page:=p,off:=off,before:=bef,after:=bs }:Rc)=96+nb+nb:=by show 96+bef.length+bs.length+24*0+16*0=_;have:=HBL.out;have:=HBN.out;omega
 rw[hrs]at hsize
 have HRS:=Lib.hid hrs
 have hsize2:Calls Tryz.prog 54 #[.agg #[.int .i64 2,.int .i64 (id:Nat),.int .i64 (e.x.last:Nat),.int .i64 0,.int .i64 (p:Nat),.int .i64 (off:Nat),.slice (some ⟨g8,0,none⟩) nb nb,.slice (some ⟨g11,0,none⟩) nb nb,.slice none 0 0,.slice none 0 0,.int .i64 0]] y4 fun e w'=>e=.returned (.int .i64 ((96+nb+nb:Nat):Int))∧Below y4.heap.size y4 w':=hsize
 have HSIZE:=Lib.hid hsize2
 clear hsm hsize hsize2 hrs hgy hgyb hs4 hsz4
 go_wp2_with fail
 refine HSIZE.out.mono ?_
 rintro er y5 ⟨rfl,hb5⟩
 have HB5:=Lib.hid hb5
 clear hb5 r0 r1 r2 r3 r4 r5 r6 r7 r8 r9 r10 rlt
 go_wp2_with fail
 refine(clr_any _ _ nb _ (by omega)).mono ?_
 rintro er y6 ⟨rfl,hb6⟩
 have HB6:Hid (Below y4.heap.size y4 y6):=Lib.hid (HB5.out.trans (hb6.mono HB5.out.size))
 have hroom:=room_ok (HS4.out.below HB6.out) (Nat.le_trans HN.out (by decide)) HR.out (fun e he u hq=>by have:=(HU.out e he).2 u hq;omega) (192+3*nb) (by
  have h1:=(σ.get_ok c p HPG.out).2.R.room c.n
  have:=HK.out
  show 192+3*nb+2048+resA EO≤(σ.get c p).2.2.io.R.room c.n
  rw[h1];omega)
 rw[show(((192+3*nb:Nat):Int))=96+(nb:Int)+nb+(96+nb) by omega]at hroom
 have HRO:=Lib.hid hroom
 clear hb6 hroom
 go_wp2_with fail
 refine HRO.out.mono ?_
 rintro er y7 ⟨rfl,hb7⟩
 have HB7:Hid (Below y4.heap.size y4 y7):=Lib.hid (HB6.out.trans (hb7.mono HB6.out.size))
 have hbx7:=HP1.out.below HB7.out (Nat.le_refl _)
 have r0:=hbx7.cell 0 _ rfl
 have r1:=hbx7.cell 1 _ rfl
 have r2:=hbx7.cell 2 _ rfl
 have r3:=hbx7.cell 3 _ rfl
 have r4:=hbx7.cell 4 _ rfl
 have r5:=hbx7.cell 5 _ rfl
 have r6:=hbx7.cell 6 _ rfl
 have r7:=hbx7.cell 7 _ rfl
 have r8:=hbx7.cell 8 _ rfl
 have r9:=hbx7.cell 9 _ rfl
 have r10:=hbx7.cell 10 _ rfl
 have rlt:=hbx7.lt
 have hs7:=HS4.out.below HB7.out
 have HS7:=Lib.hid hs7
 have hg8:=HG8.out
 have hg11:=HG11.out
 have h7s:=HB7.out.size
 have h4s:=HSZ4.out
 have h2s:=HS2.out.lt
 have hRs:=(σ.get_ok c p HPG.out).2.R
 have hlay:=lay_at hs7 ({ Rc.zero with kind:=2,txn:=id,prev:=e.x.last,page:=p,off:=off,before:=bef,after:=bs }:Rc) HSM.out (some ⟨g8,0,none⟩) (some ⟨g11,0,none⟩) nb nb nb nb HBL.out HBN.out (reads_cap (HR8.out.below HB7.out (Nat.le_refl _)) (Nat.le_refl _)) (reads_cap (HR11.out.below HB7.out (Nat.le_refl _)) (Nat.le_refl _)) (by
   show _≤(σ.get c p).2.2.io.R.room c.n
   rw[hRs.room c.n,HRS.out];have:=HK.out;omega) (by
   show(σ.get c p).2.2.io.R.tail+_≤_
   rw[hRs.tail,HRS.out];have:=HT.out;omega) (Nat.le_trans HL.out (by decide))
  (fun q=>q=g8∨q=g11) (fun q e=>.inl (by have e3:g8=q:=(by simpa[Value.ownBlock]using e);exact e3.symm)) (fun q e=>.inr (by have e3:g11=q:=(by simpa[Value.ownBlock]using e);exact e3.symm))
  (fun q hq=>by have:=HS2.out.bel.size;rcases hq with rfl|rfl<;>omega)
  (fun q hq h1=>by have:=(h2s q (.inl h1)).2;rcases hq with rfl|rfl<;>omega) (fun q hq h1=>by have:=(h2s q (.inr (.inl h1))).2;rcases hq with rfl|rfl<;>omega) (fun q hq h1=>by have:=(h2s q (.inr (.inr (.inl h1)))).2;rcases hq with rfl|rfl<;>omega)
 have HLA:=Lib.hid hlay
 clear hb7 hbx7 hs7 hg8 hg11 h7s h4s h2s hlay
 go_wp2_with fail
 refine HLA.out.mono ?_
 rintro er y8 ⟨vl8,S8,rfl,hs8,hg8,hn8,hv8⟩
 have HS8:=Lib.hid hs8
 have HG88:=Lib.hid hg8
 have HN8:=Lib.hid hn8
 have HV8:=Lib.hid hv8
 have hT:(σ.get c p).2.2.io.R.tail=σ.io.R.tail:=hRs.tail
 obtain⟨T,hTT⟩:∃x,(σ.get c p).2.2.io.R.tail=x:=⟨_,rfl⟩
 rw[hTT]
 have HTT:=Lib.hid hTT
 have HTS:Hid (T=σ.io.R.tail):=Lib.hid (by rw[←hTT];exact hT)
 clear r0 r1 r2 r3 r4 r5 r6 r7 r8 r9 r10 rlt hs8 hg8 hn8 hv8 hT hTT hRs
 go_upto_region 23 with (fail)
 have hmem:=List.mem_of_getElem? HEI.out
 have hta:=HS8.out.tx.at_ e hmem
 have HTA:=Lib.hid hta
 have be:Box y8 e.t [.int .i64 (id:Nat),.int .i64 (e.x.first:Nat),.int .i64 (e.x.last:Nat),e.vu]:=by rw[←HID.out];exact hta.box
 have h28:=HS2.out.lt
 have hg3n:¬S2 g3∧¬ownS vl g3:=⟨fun h=>by have:=(h28 _ (.inl h)).2;have:=HG3.out;omega,fun h=>by have:=(h28 _ (.inr (.inl h))).2;have:=HG3.out;omega⟩
 have bb:Box y8 g3 [.int .i64 2,.int .i64 (id:Nat),.int .i64 (e.x.last:Nat),.int .i64 0,.int .i64 (p:Nat),.int .i64 (off:Nat),.slice (some ⟨g8,0,none⟩) nb nb,.slice (some ⟨g11,0,none⟩) nb nb,.slice none 0 0,.slice none 0 0,.int .i64 0]:=(HP1.out.below HB7.out (Nat.le_refl _)).growx HG88.out (fun h=>h.elim hg3n.1 hg3n.2)
 obtain⟨m,hmm⟩:∃x,e.EU.length=x:=⟨_,rfl⟩
 have hm2:m≤1000000:=by rw[←hmm];exact(HU.out e hmem).1
 have hrow:=hta.row
 rw[hmm]at hrow
 have HEU:=Lib.hid hrow
 have HMM:=Lib.hid hmm
 have hlv:∀q,e.vu.ownBlock=some q→q<y2.heap.size:=fun q e1=>((HS2.out.tx.at_ e hmem).row.lt q e1).2
 have hve:e.vu.ownBlock≠some e.t:=fun e1=>hta.ne _ e1 rfl
 have hvg:e.vu.ownBlock≠some g3:=fun e1=>by have:=hlv _ e1;have:=HG3.out;omega
 have hlv8:∀q,e.vu.ownBlock=some q→q<y8.heap.size:=fun q e1=>(hta.row.lt q e1).2
 have hW0:W0.heap.size≤y8.heap.size:=HS8.out.bel.size
 have HLV:=Lib.hid hlv
 have hB:Below 0 y8 y8:=Below.refl _ _
 clear hmem hta h28 hg3n hrow hmm hlv
 refine wp_region_partsDC (WSWr23 e id p off g g3 g8 g11 k nb T m (y8.heap.size) (W0.heap.size) ab cb) 19 [[],[],[1],[1,2],[1,2,3],[],[],[6],[6,7],[6,7,8],[],[],[],[12],[5,6,7,8,9,10,11,12,13],[5,6,7,8,9,10,11,12,13,14],[1,2,3,4,5,6,7,8,9,10,11,12,13,14,15],[0,1,2,3,4,5,6,7,8,9,10,11,12,13,14,15,16],[0,1,2,3,4,5,6,7,8,9,10,11,12,13,14,15,16,17]] [some 105,some 106,some 107,some 108,some 109,some 110,some 111,some 112,some 113,some 114,some 115,some 116,some 117,some 118,some 119,some 120,some 121,some 122,some 123,none] (by kernel_rfl) (by kernel_rfl) rfl (PSWr23 e id p off g g3 g8 g11 k nb T m (y8.heap.size) (W0.heap.size) ab cb) (PSWr23_stable e id p off g g3 g8 g11 k nb T m (y8.heap.size) (W0.heap.size) ab cb hlv8) ?pSWr23 ?_
 case pSWr23=>
  intro i hi o ho vs lo hx_ w' hg hp
  match i,hi with
  | 0,_|1,_|5,_|6,_|10,_|11,_|12,_=>
   obtain rfl:=Option.some.inj ho
   clear ho
   simp only[actsD,Act.put,actL]
   have hsz:=hg.size
   go_wp2
   exact⟨_,rfl,GrowC.refl _,rfl⟩
  | 2,_=>
   obtain rfl:=Option.some.inj ho
   clear ho
   simp only[actsD,Act.put,actL]
   obtain⟨_,_,_,h1⟩:=hp 1 (by simp)
   simp only[PSWr23]at h1
   have hsz:=hg.size
   rw[h1]
   go_wp2
   exact⟨_,rfl,GrowC.refl _,rfl⟩
  | 3,_=>
   obtain rfl:=Option.some.inj ho
   clear ho
   simp only[actsD,Act.put,actL]
   obtain⟨_,_,_,h2⟩:=hp 2 (by simp)
   simp only[PSWr23]at h2
   have hsz:=hg.size
   rw[h2]
   go_wp2
   exact⟨_,rfl,GrowC.refl _,rfl⟩
  | 4,_=>
   obtain rfl:=Option.some.inj ho
   clear ho
   simp only[actsD,Act.put,actL]
   obtain⟨_,_,_,h3⟩:=hp 3 (by simp)
   simp only[PSWr23]at h3
   have hsz:=hg.size
   rw[h3]
   have e0:=(hg.cell (e.t) 3 be.lt (by rintro⟨j,_,hne,hb,hw⟩;simp only[WSWr23]at hw;first|exact hve hw.2|exact hvg hw.2)).trans (be.cell 3 _ rfl)
   go_wp2
   exact⟨_,rfl,GrowC.refl _,rfl⟩
  | 7,_=>
   obtain rfl:=Option.some.inj ho
   clear ho
   simp only[actsD,Act.put,actL]
   obtain⟨_,_,_,h6⟩:=hp 6 (by simp)
   simp only[PSWr23]at h6
   have hsz:=hg.size
   rw[h6]
   go_wp2
   exact⟨_,rfl,GrowC.refl _,rfl⟩
  | 8,_=>
   obtain rfl:=Option.some.inj ho
   clear ho
   simp only[actsD,Act.put,actL]
   obtain⟨_,_,_,h7⟩:=hp 7 (by simp)
   simp only[PSWr23]at h7
   have hsz:=hg.size
   rw[h7]
   go_wp2
   exact⟨_,rfl,GrowC.refl _,rfl⟩
  | 9,_=>
   obtain rfl:=Option.some.inj ho
   clear ho
   simp only[actsD,Act.put,actL]
   obtain⟨_,_,_,h8⟩:=hp 8 (by simp)
   simp only[PSWr23]at h8
   have hsz:=hg.size
   rw[h8]
   have e0:=(hg.cell (e.t) 2 be.lt (by rintro⟨j,_,hne,hb,hw⟩;simp only[WSWr23]at hw;first|exact hve hw.2|exact hvg hw.2)).trans (be.cell 2 _ rfl)
   go_wp2
   exact⟨_,rfl,GrowC.refl _,rfl⟩
  | 13,_=>
   obtain rfl:=Option.some.inj ho
   clear ho
   simp only[actsD,Act.put,actL]
   obtain⟨_,_,_,h12⟩:=hp 12 (by simp)
   simp only[PSWr23]at h12
   have hsz:=hg.size
   rw[h12]
   have e0:=(hg.cell (g3) 6 bb.lt (by rintro⟨j,_,hne,hb,hw⟩;simp only[WSWr23]at hw;first|exact hve hw.2|exact hvg hw.2)).trans (bb.cell 6 _ rfl)
   go_wp2
   exact⟨_,rfl,GrowC.refl _,rfl⟩
  | 14,_=>
   obtain rfl:=Option.some.inj ho
   clear ho
   simp only[actsD,Act.put,actL]
   obtain⟨_,_,_,h5⟩:=hp 5 (by simp)
   simp only[PSWr23]at h5
   obtain⟨_,_,_,h9⟩:=hp 9 (by simp)
   simp only[PSWr23]at h9
   obtain⟨_,_,_,h10⟩:=hp 10 (by simp)
   simp only[PSWr23]at h10
   obtain⟨_,_,_,h11⟩:=hp 11 (by simp)
   simp only[PSWr23]at h11
   obtain⟨_,_,_,h13⟩:=hp 13 (by simp)
   simp only[PSWr23]at h13
   have hsz:=hg.size
   rw[h5,h9,h10,h11,h13]
   go_wp2
   exact⟨_,rfl,GrowC.refl _,rfl⟩
  | 15,_=>
   obtain rfl:=Option.some.inj ho
   clear ho
   simp only[actsD,Act.put,actL]
   obtain⟨_,_,_,h14⟩:=hp 14 (by simp)
   simp only[PSWr23]at h14
   have hsz:=hg.size
   rw[h14]
   have hbl:=(Below.refl w'.heap.size w').alloc (Nat.le_refl _) (.cells #[.int .i64 ((T+1:Nat):Int),.int .i64 (e.x.last:Nat),.int .i64 ((p:Nat):Int),.int .i64 ((off:Nat):Int),.slice (some ⟨g8,0,none⟩) nb nb] 114)
   go_wp2
   exact⟨_,rfl,GrowC.of_grow ⟨hbl.os,hbl.tape,hbl.output,hbl.size,hbl.block⟩,_,rfl,hsz,Reads.lit rfl rfl (Nat.le_refl _) rfl⟩
  | 16,_=>
   obtain rfl:=Option.some.inj ho
   clear ho
   simp only[actsD,Act.put,actL]
   obtain⟨_,_,_,h4⟩:=hp 4 (by simp)
   simp only[PSWr23]at h4
   obtain⟨_,_,_,h15⟩:=hp 15 (by simp)
   simp only[PSWr23]at h15
   have hsz:=hg.size
   rw[h4]
   obtain⟨g15,h15a,h15b,h15c⟩:=h15
   rw[h15a]
   rw[h15a]at h15c
   have hgx:GrowX (fun _=>False) y8 w':=GrowX.of_growC hg (fun k o ⟨j,hj,hne,hb,hw⟩=>hne hw.1)
   have hown:=own_growx HEU.out hgx (fun _ _ h=>h)
   go_wp2_with (at_builtin;refine wpList_append_anyC updsOf (.tmp 109) (.tmp 120) rfl rfl rfl hown rfl h15c (by intro u hu;simp at hu;rcases hu with rfl|rfl|rfl|rfl|rfl<;>rfl) (by omega) (by omega) (by omega) ?_;intro ob cq wq ho2 hg2 hn2)
   exact⟨_,rfl,hg2.mono (fun b o h=>⟨rfl,h⟩),ob,cq,rfl,ho2,fun q e5=>(hn2 q e5).imp (fun h=>h) (fun h=>by omega)⟩
  | 17,_=>
   obtain rfl:=Option.some.inj ho
   clear ho
   simp only[actsD,Act.put,actL]
   obtain⟨_,_,_,h0⟩:=hp 0 (by simp)
   simp only[PSWr23]at h0
   have hsz:=hg.size
   rw[h0]
   go_wp2
   exact⟨_,rfl,GrowC.refl _,rfl⟩
  | 18,_=>
   obtain rfl:=Option.some.inj ho
   clear ho
   simp only[actsD,Act.put,actL]
   obtain⟨_,_,_,h17⟩:=hp 17 (by simp)
   simp only[PSWr23]at h17
   have hsz:=hg.size
   rw[h17]
   go_wp2
   exact⟨_,rfl,GrowC.refl _,rfl⟩
  | (q+19),hq=>exact absurd hq (by omega)
 intro vS lo hi z5 hg hp hd
 obtain⟨_,_,_,h0⟩:=hp 0 (by decide)
 obtain⟨_,_,_,h1⟩:=hp 1 (by decide)
 obtain⟨_,_,_,h2⟩:=hp 2 (by decide)
 obtain⟨_,_,_,h3⟩:=hp 3 (by decide)
 obtain⟨_,_,_,h4⟩:=hp 4 (by decide)
 obtain⟨_,_,_,h5⟩:=hp 5 (by decide)
 obtain⟨_,_,_,h6⟩:=hp 6 (by decide)
 obtain⟨_,_,_,h7⟩:=hp 7 (by decide)
 obtain⟨_,_,_,h8⟩:=hp 8 (by decide)
 obtain⟨_,_,_,h9⟩:=hp 9 (by decide)
 obtain⟨_,_,_,h10⟩:=hp 10 (by decide)
 obtain⟨_,_,_,h11⟩:=hp 11 (by decide)
 obtain⟨_,_,_,h12⟩:=hp 12 (by decide)
 obtain⟨_,_,_,h13⟩:=hp 13 (by decide)
 obtain⟨_,_,_,h14⟩:=hp 14 (by decide)
 obtain⟨_,_,_,h15⟩:=hp 15 (by decide)
 obtain⟨_,_,_,h16⟩:=hp 16 (by decide)
 obtain⟨_,_,_,h17⟩:=hp 17 (by decide)
 obtain⟨_,_,_,h18⟩:=hp 18 (by decide)
 simp only[PSWr23]at h0 h1 h2 h3 h4 h5 h6 h7 h8 h9 h10 h11 h12 h13 h14 h15 h16 h17 h18
 clear hp hd
 have hsz:=hg.size
 have HGX:Hid (GrowX (fun b=>e.vu.ownBlock=some b) y8 z5):=Lib.hid (GrowX.of_growC hg (fun k o ⟨j,_,hw⟩=>hw.2))
 replace be:=be.grow hg (by intro i _;rintro⟨j,_,hw⟩;simp only[WSWr23]at hw;first|exact hve hw.2|exact hvg hw.2|(have:=hlv8 _ hw.2;omega))
 replace bb:=bb.grow hg (by intro i _;rintro⟨j,_,hw⟩;simp only[WSWr23]at hw;first|exact hve hw.2|exact hvg hw.2|(have:=hlv8 _ hw.2;omega))
 replace hB:=hB.trans (hg.below (fun k hk=>⟨by omega,fun o=>by rintro⟨j,_,hw⟩;simp only[WSWr23]at hw;first|exact hve hw.2|exact hvg hw.2|(have:=hlv8 _ hw.2;omega)⟩))
 have hr:List.range 19=[0,1,2,3,4,5,6,7,8,9,10,11,12,13,14,15,16,17,18]:=rfl
 rw[hr]
 clear hr
 simp only[List.drop_succ_cons,List.drop_zero,List.drop_nil,actsD,Act.put,actL,h0,h1,h2,h3,h4,h5,h6,h7,h8,h9,h10,h11,h12,h13,h14,h17,h18]
 clear h0 h1 h2 h3 h4 h5 h6 h7 h8 h9 h10 h11 h12 h13 h14 h17 h18
 obtain⟨ov,kv,h16a,h16b,h16c⟩:=h16
 rw[h16a]
 have HO16:=Lib.hid h16b
 have HN16:=Lib.hid h16c
 have c3:=be.cell 3 _ rfl
 have cfz:=be.free
 have clt:=be.lt
 have HBE:=Lib.hid be
 have HBB:=Lib.hid bb
 clear h16a h16b h16c h15 hB hg be bb
 go_upto_region 24 with (fail)
 have be6:Box (z5.setCell ⟨e.t,3,none⟩ (.slice ov (m+1) kv)) e.t [.int .i64 (id:Nat),.int .i64 (e.x.first:Nat),.int .i64 (e.x.last:Nat),.slice ov (m+1) kv]:=HBE.out.setCell 3 (.slice ov (m+1) kv)
 have hg6:GrowX e.fp y8 (z5.setCell ⟨e.t,3,none⟩ (.slice ov (m+1) kv)):=(HGX.out.mono (fun k h=>.inr h)).trans ((growX_setCell z5 e.t 3 (.slice ov (m+1) kv)).mono (fun k h=>.inl h))
 have ho6:=own_growx HO16.out (growX_setCell z5 e.t 3 (.slice ov (m+1) kv)) (fun q e1 e2=>(HN16.out q e1).elim (fun h=>hve (e2▸h)) (fun h=>by have:=HTA.out.box.lt;omega))
 have HG6:=Lib.hid hg6
 have HO6:=Lib.hid ho6
 clear c3 cfz clt hg6 ho6
 generalize z5.setCell ⟨e.t,3,none⟩ (.slice ov (m+1) kv)=z6 at *
 have HBE6:=Lib.hid be6
 have c2:=be6.cell 2 _ rfl
 have cfz:=be6.free
 have clt:=be6.lt
 clear be6
 go_upto_region 25 with (fail)
 have be7:Box (z6.setCell ⟨e.t,2,none⟩ (.int .i64 ((T+1:Nat):Int))) e.t [.int .i64 (id:Nat),.int .i64 (e.x.first:Nat),.int .i64 ((T+1:Nat):Int),.slice ov (m+1) kv]:=HBE6.out.setCell 2 (.int .i64 ((T+1:Nat):Int))
 have hg7:GrowX e.fp y8 (z6.setCell ⟨e.t,2,none⟩ (.int .i64 ((T+1:Nat):Int))):=HG6.out.trans ((growX_setCell z6 e.t 2 _).mono (fun k h=>.inl h))
 have ho7:=own_growx HO6.out (growX_setCell z6 e.t 2 (.int .i64 ((T+1:Nat):Int))) (fun q e1 e2=>(HN16.out q e1).elim (fun h=>hve (e2▸h)) (fun h=>by have:=HTA.out.box.lt;omega))
 have HG7:=Lib.hid hg7
 have HO7:=Lib.hid ho7
 have HBE7:=Lib.hid be7
 clear c2 cfz clt hg7 ho7 be7
 rw[show(Value.int .i64 ((T:Int)+1))=Value.int .i64 ((T+1:Nat):Int)from rfl]
 generalize z6.setCell ⟨e.t,2,none⟩ (.int .i64 ((T+1:Nat):Int))=z7 at *
 have hmem:=List.mem_of_getElem? HEI.out
 have hfp1:∀k,e.fp k→k<y1.heap.size:=fun k hk=>(HS1.out.tx.lt k (.inr ⟨e,hmem,hk⟩)).2
 have htx:TxAt W0 z7 (⟨e.t,{ e.x with l:=e.x.l++[⟨T+1,e.x.last,p,off,bef⟩],last:=T+1 },.slice ov (m+1) kv,e.EU++[(⟨T+1,e.x.last,p,off,bef⟩,.slice (some ⟨g8,0,none⟩) nb nb)]⟩:Te) (fun k=>K k∨(k=g8∨k=g11)):=by
  have hg8:=HG8.out
  have hl12:=HB2.out.grow.size
  have n8:¬e.fp g8:=fun h=>by have:=hfp1 _ h;omega
  have r8:Reads 1 z7 (.slice (some ⟨g8,0,none⟩) nb nb) nb (bef.map B):=reads_cap ((((HR8.out.below HB7.out (Nat.le_refl _)).growx HG88.out (fun q e1 h1=>by
   have e3:g8=q:=(by simpa[Value.ownBlock]using e1)
   subst e3
   rcases h1 with h1|h1
   ·have:=(HS2.out.lt _ (.inl h1)).2;omega
   ·have:=(HS2.out.lt _ (.inr (.inl h1))).2;omega))).growx HG7.out (fun q e1 h1=>by
   have e3:g8=q:=(by simpa[Value.ownBlock]using e1)
   subst e3
   exact n8 h1)) (Nat.le_refl _)
  refine⟨?_,?_,?_,?_,HTA.out.gt,?_⟩
  ·show Box z7 e.t [.int .i64 (e.x.id:Nat),.int .i64 (e.x.first:Nat),.int .i64 ((T+1:Nat):Int),.slice ov (m+1) kv]
   rw[HID.out];exact HBE7.out
  ·show z7.ownsRow W0.heap.size _ 5 (.slice ov (m+1) kv) (e.EU++[_]).length (ucells (e.EU++[_]))
   rw[List.length_append,HMM.out,ucells_append]
   exact HO7.out
  ·have hup:=HTA.out.ups
   simp only[List.map_append,←hup]
   rfl
  ·intro u hq
   rcases List.mem_append.1 hq with hq|hq
   ·exact(HTA.out.tb u hq).grow HG7.out (fun k hk h=>HS8.out.k3 k hk (.inr ⟨e,hmem,h⟩))
   ·obtain rfl:=List.mem_singleton.1 hq
    exact⟨by rw[show(bef:List UInt8).length=nb from HBL.out];exact r8,fun q e1=>.inr (.inl (by have e3:g8=q:=(by simpa[Value.ownBlock]using e1);exact e3.symm))⟩
  ·intro q e1 e2
   rcases HN16.out q e1 with h|h
   ·exact HTA.out.ne q h e2
   ·have:=HTA.out.box.lt;have e3:q=e.t:=e2;omega
 have hnew:∀k,TxFoot vo (EO.set i (⟨e.t,{ e.x with l:=e.x.l++[⟨T+1,e.x.last,p,off,bef⟩],last:=T+1 },.slice ov (m+1) kv,e.EU++[(⟨T+1,e.x.last,p,off,bef⟩,.slice (some ⟨g8,0,none⟩) nb nb)]⟩:Te)) k→TxFoot vo EO k∨y8.heap.size≤k:=by
  intro k hk
  rcases hk.set with hk|hk
  ·exact .inl hk
  ·rcases hk with hk|hk
   ·exact .inl (.inr ⟨e,hmem,.inl hk⟩)
   ·exact(HN16.out k hk).imp (fun h=>.inr ⟨e,hmem,.inr h⟩) (fun h=>h)
 have hs9:=HS8.out.txs HG7.out (fun k hk=>.inl (.inr ⟨e,hmem,hk⟩)) (HS8.out.tx.setAt HEI.out HG7.out (fun k hk h=>HS8.out.k3 k hk (.inr ⟨e,hmem,h⟩)) htx rfl HN16.out) hnew
 have HS9:=Lib.hid hs9
 have HNEW:=Lib.hid hnew
 have ng:¬S2 g∧¬ownS vl g∧¬e.fp g:=⟨HNG.out,fun h=>by have:=(HS1.out.lt g (.inr (.inl h))).2;have:=HGG.out;omega,fun h=>by have:=hfp1 g h;have:=HGG.out;omega⟩
 have hro:=own_growx (own_growx (own_growx HROW4.out (grow_below HB7.out) (fun _ _ h=>h)) HG88.out (fun q e1 h1=>by have e3:g=q:=(by simpa[Value.ownBlock]using e1);subst e3;exact h1.elim ng.1 ng.2.1)) HG7.out (fun q e1 h1=>by have e3:g=q:=(by simpa[Value.ownBlock]using e1);subst e3;exact ng.2.2 h1)
 have HRO7:=Lib.hid hro
 have hv7:Reads 1 z7 (.slice ab nb cb) nb (bs.map B):=((HV4.out.below HB7.out (Nat.le_refl _)).growx HG88.out (fun q e1 h1=>by
  have h2:=HARG.out q e1
  have h3:=HB1.out.size
  rcases h1 with h1|h1
  ·exact(HF2.out.new q h1).elim (fun h=>h2.1 (.inl h)) (fun h=>by omega)
  ·exact h2.1 (.inr (.inl h1)))).growx HG7.out (fun q e1 h1=>(HARG.out q e1).1 (.inr (.inr (.inl (.inr ⟨e,hmem,h1⟩)))))
 have HV7:=Lib.hid hv7
 have HTB:Hid (T+1≤1099511627776):=Lib.hid (by have:=HTS.out;have:=HT.out;omega)
 clear htx hnew hs9 ng hro hv7 hmem hfp1
 go_wp2_with fail
 refine(eight_any _ (T+1) (by have:=HTB.out;omega)).mono ?_
 rintro er y9 ⟨g9,rfl,hb9,hg9,hbl9⟩
 have HBL9:=Lib.hid hbl9
 have HROW9:=Lib.hid (own_growx HRO7.out (grow_below hbl9) (fun _ _ h=>h))
 have HRD9:Hid (Reads 1 y9 (.slice (some ⟨g9,0,none⟩) 8 8) 8 ((be8 (T+1)).map B)):=Lib.hid (Reads.of_own (hb9.own (base:=0) (be8_len _) (Nat.zero_le _) (by decide)))
 have hge:∀q,(Value.slice (some ⟨g,0,none⟩) 512 k).ownBlock=some q→q=g:=fun q e=>by have e2:g=q:=(by simpa[Value.ownBlock]using e);exact e2.symm
 have HGE:=Lib.hid hge
 clear hb9 hg9 hbl9 hge
 go_wp2_with (with_reducible refine wpList_copy_in rfl (.tmp 128) (.tmp 130) rfl HROW9.out (Nat.zero_le 512) (some ⟨g,0,none⟩) k ?p1 ?p2 ?p3 HRD9.out ?p4)
 case p1=>rfl
 case p2=>
  intro _ g' e
  rw[HGE.out g' e]
 case p3=>rfl
 intro y10 kk hown10 hgx10
 have HO10:=Lib.hid hown10
 have HGX10:=Lib.hid hgx10
 have HV10:Hid (Reads 1 y10 (.slice ab nb cb) nb (bs.map B)):=Lib.hid ((HV7.out.below HBL9.out (Nat.le_refl _)).growx hgx10 (fun q e1 e2=>by have:=HGE.out q e2;have:=HGG.out;have:=(HARG.out q e1).2;have:=HB1.out.size;omega))
 have ho26:8+off+nb≤512:=by have:=HOFF.out;omega
 clear hown10 hgx10
 go_wp2_with (with_reducible refine wpList_copy_at rfl (.tmp 132) (.tmp 133) rfl HO10.out ho26 HNZ.out (some ⟨g,8+off,none⟩) (k-(8+off)) ?q1 ?q2 ?q3 HV10.out ?q4)
 case q1=>rfl
 case q2=>
  intro g' e
  rw[HGE.out g' e]
 case q3=>rfl
 intro y11 kk hown11 hgx11
 have hgg:GrowX (fun b=>b=g) y9 y11:=(HGX10.out.trans hgx11).mono (fun b e=>HGE.out _ e)
 have hs9:=HS9.out.below HBL9.out
 have hng:¬sfoot S8 vl8 vo (EO.set i (⟨e.t,{ e.x with l:=e.x.l++[⟨T+1,e.x.last,p,off,bef⟩],last:=T+1 },.slice ov (m+1) kv,e.EU++[(⟨T+1,e.x.last,p,off,bef⟩,.slice (some ⟨g8,0,none⟩) nb nb)]⟩:Te)) (fun k=>K k∨(k=g8∨k=g11)) g:=by
  have h1:=HS1.out.lt
  have h2:=HGG.out
  have h3:=HROW.out.lt g rfl
  have h4:=HB7.out.size
  have h5:=HSZ4.out
  have h6:=HG8.out
  have h7:=HG11.out
  have h8:=HB3.out.size
  rintro(h|h|h|h)
  ·rcases HN8.out g h with h|h
   ·exact HNG.out h
   ·omega
  ·rcases HV8.out g h with h|h
   ·have:=(h1 g (.inr (.inl h))).2;omega
   ·omega
  ·rcases HNEW.out g h with h|h
   ·have:=(h1 g (.inr (.inr (.inl h)))).2;omega
   ·have:=HG88.out.size;omega
  ·rcases h with h|h|h
   ·have:=(h1 g (.inr (.inr (.inr h)))).2;omega
   ·omega
   ·omega
 have hw0:W0.heap.size≤g:=by have:=HS1.out.bel.size;have:=HGG.out;omega
 have hsv11:=hs9.own hgg hng hw0
 have HS11:=Lib.hid hsv11
 have HO11:=Lib.hid hown11
 have HGG11:=Lib.hid hgg
 have c3:=hsv11.sbx.cell 3 _ rfl
 have clt:=hsv11.sbx.lt
 have hlx:(overB (overB pgb 0 (be8 (T+1))) (8+off) bs).length=512:=by have:=hown11.1;rw[List.length_map]at this;omega
 have hput:=sput_ok hsv11 p HPG.out _ hlx (T+1) (by omega) _ (Reads.of_own hown11) (fun q e1 h1=>hng (.inl (by rw[HGE.out q e1]at h1;exact h1))) (by
  show(σ.get c p).2.2.p.wr+1≤_
  have:=((σ.get_ok c p HPG.out).2).wr;have:=HWR.out;omega)
 have HPU:=Lib.hid hput
 clear hown11 hgx11 hgg hs9 hng hw0 hsv11 hlx hput
 go_wp2_with fail
 refine HPU.out.mono ?_
 rintro er y12 ⟨S12,rfl,hs12,hf12⟩
 have HS12:=Lib.hid hs12
 have HF12:=Lib.hid hf12
 have htold:=told_s hs12 0 (.inl rfl)
 have HTO:=Lib.hid htold
 clear hs12 hf12 htold c3 clt
 go_wp2_with fail
 refine HTO.out.mono ?_
 rintro er y13 ⟨S13,rfl,hs13,hf13⟩
 have HS13:=Lib.hid hs13
 have HF13:=Lib.hid hf13
 clear hs13 hf13
 go_wp2_with fail
 go_ret
 have hmem:=List.mem_of_getElem? HEI.out
 have F1:Foot (sfoot S1 vl vo EO K) (sfoot S2 vl vo EO K) w y2:=(Foot.below (grow_below HB1.out)).trans (sfoot_of HF2.out)
 have F2:Foot (sfoot S2 vl vo EO K) (sfoot S8 vl8 vo EO (fun k=>K k∨(k=g8∨k=g11))) y2 y8:=by
  have h4:=HB7.out.size
  have h5:=HGY.out.size
  have h6:=HG8.out
  have h7:=HG11.out
  refine sfoot_foot ((grow_no HGY.out).trans ((grow_no HB7.out).trans (HG88.out.mono (fun k h=>h.elim .inl (fun h=>.inr (.inl h)))))) (fun k h=>(HN8.out k h).imp (fun h=>h) (fun h=>by omega)) (fun k h=>(HV8.out k h).imp (fun h=>h) (fun h=>by omega)) (fun k h=>.inl h) (fun k h=>?_)
  rcases h with h|h|h
  ·exact .inl h
  ·exact .inr (by omega)
  ·exact .inr (by omega)
 have F3:Foot (sfoot S8 vl8 vo EO (fun k=>K k∨(k=g8∨k=g11))) (sfoot S8 vl8 vo (EO.set i (⟨e.t,{ e.x with l:=e.x.l++[⟨T+1,e.x.last,p,off,bef⟩],last:=T+1 },.slice ov (m+1) kv,e.EU++[(⟨T+1,e.x.last,p,off,bef⟩,.slice (some ⟨g8,0,none⟩) nb nb)]⟩:Te)) (fun k=>K k∨(k=g8∨k=g11))) y8 z7:=sfoot_foot (HG7.out.mono (fun k h=>.inr (.inr (.inl (.inr ⟨e,hmem,h⟩))))) (fun k h=>.inl h) (fun k h=>.inl h) HNEW.out (fun k h=>.inl h)
 have F4:Foot (sfoot S1 vl vo EO K) (sfoot S8 vl8 vo (EO.set i (⟨e.t,{ e.x with l:=e.x.l++[⟨T+1,e.x.last,p,off,bef⟩],last:=T+1 },.slice ov (m+1) kv,e.EU++[(⟨T+1,e.x.last,p,off,bef⟩,.slice (some ⟨g8,0,none⟩) nb nb)]⟩:Te)) (fun k=>K k∨(k=g8∨k=g11))) w y11:=(F1.trans (F2.trans (F3.trans (Foot.below (grow_below HBL9.out))))).fin HGG11.out (fun k h=>.inr (by subst h;have:=HGG.out;have:=HB1.out.size;omega)) (fun k h=>.inl h)
 have e1:=write_eq σ c i e.x p off bs HPG.out bef (by rw[HPB.out,HBN.out];exact HBEF.out) HNE.out (by
  have h1:=(σ.get_ok c p HPG.out).2.R.room c.n
  rw[h1]
  have h2:=HRS.out
  rw[←HID.out]at h2
  rw[h2];have:=HK.out;omega)
 rw[HID.out,HTT.out,HPB.out]at e1
 have e2:(EO.set i (⟨e.t,{ e.x with l:=e.x.l++[⟨T+1,e.x.last,p,off,bef⟩],last:=T+1 },.slice ov (m+1) kv,e.EU++[(⟨T+1,e.x.last,p,off,bef⟩,.slice (some ⟨g8,0,none⟩) nb nb)]⟩:Te)).map (·.x)=(σ.get c p).2.2.opn.set i ⟨id,e.x.first,T+1,e.x.l++[⟨T+1,e.x.last,p,off,bef⟩]⟩:=by rw[List.map_set,←HS2.out.ois,←HID.out]
 have e3:=HS13.out
 rw[e2]at e3
 try rw[HTT.out]at e3
 have e4:=congrArg (fun z=>z.2) e1
 simp only[]at e4
 rw[←e4]at e3
 have F5:=F4.trans ((sfoot_of HF12.out).trans (sfoot_of HF13.out))
 first|exact⟨_,rfl,⟨_,_,_,_,_,_,e3,rfl⟩,F5⟩|exact⟨rfl,_,⟨_,_,_,_,_,_,e3,rfl⟩,F5⟩
end
end
section
open Go.RowKit
section
variable{W0 w w':World}{A:Adr}{c:Cf}{σ:St}{S:Nat→Prop}{vl vo:Value}{EL:List Le}{EO:List Te}{K S1:Nat→Prop}{X:Nat→Prop}
def St.bytes(σ:St)(c:Cf)(p off n:Nat):List UInt8:=(((σ.get c p).2.1.drop (8+off)).take n)
theorem SvAt.other{w2:World}(h:SvAt W0 w A c σ vl vo EL EO K S1)(hg:GrowX X w w2)(hX:∀k,X k→w.heap.size≤k):SvAt W0 w2 A c σ vl vo EL EO K S1:=
 h.below (hg.below (fun k hk=>⟨hk,fun hx=>by have:=hX k hx;omega⟩))
set_option maxRecDepth 100000 in
set_option maxHeartbeats 6400000 in
theorem sread_at(h:SvAt W0 w A c σ vl vo EL EO K S1)(p off n:Nat)(hpg:p<c.pg)(hoff:off+n≤504)(hpp:c.pg≤1099511627776)(hwr:σ.p.wr+1≤1000000000):
  Calls Tryz.prog 38 #[.pointer (some ⟨A.sb,0,none⟩),.int .i64 (p:Nat),.int .i64 (off:Nat),.int .i64 (n:Nat)] w fun er w'=>∃v S',er=.returned (.tuple #[v,.int .i64 0])∧w'.ownsRow w.heap.size 5 1 v n ((σ.bytes c p off n).map B)∧(σ.bytes c p off n).length=n∧(∀q,v.ownBlock=some q→¬S' q)∧
   SV W0 A c (σ.get c p).2.2 S' w'∧Foot (sfoot S1 vl vo EO K) S' w w':=by
 have HS:=Lib.hid h
 have HPG:=Lib.hid hpg
 have HPP:=Lib.hid hpp
 have HOFF:=Lib.hid hoff
 have c9:=h.sbx.cell 9 _ rfl
 have c3:=h.sbx.cell 3 _ rfl
 have clt:=h.sbx.lt
 have hcall2:=within_at h (p:Int) (off:Int) (n:Int)
 rw[decide_eq_true (show _ from⟨by omega,by omega,by omega,by omega,by omega,by omega⟩)]at hcall2
 have HWI:=Lib.hid hcall2
 have hget:=sget_ok h p hpg hwr
 have HG:=Lib.hid hget
 clear h hpg hpp hwr hcall2 hget
 go_enter Tryz.func38,Tryz.ntmps38
 go_wp2_with fail
 refine HWI.out.mono ?_
 rintro er y0 ⟨rfl,hy⟩
 obtain rfl:w=y0:=hy.symm
 clear HWI
 go_wp2_with fail
 refine HG.out.mono ?_
 rintro er y2 ⟨g,k,S2,rfl,hrow,hgg,hkk,hng,hs2,hf2⟩
 obtain⟨pgb,hpgb⟩:∃x,(σ.get c p).2.1=x:=⟨_,rfl⟩
 have HRES:Hid (σ.bytes c p off n=(pgb.drop (8+off)).take n):=Lib.hid (by unfold St.bytes;rw[hpgb])
 rw[hpgb]at hrow
 have hpl:pgb.length=512:=by have:=hrow.1;rw[List.length_map]at this;omega
 have HLN:Hid (((pgb.drop (8+off)).take n).length=n):=Lib.hid (by rw[List.length_take,List.length_drop,hpl];omega)
 have hcut:=(Reads.of_own hrow).cutA (8+off) (8+off+n) (by omega) (by omega)
 have hk3:8+off+n-(8+off)=n:=by omega
 rw[hk3]at hcut
 have hcx:(((pgb.map B).drop ((8+off)*1)).take (n*1))=((pgb.drop (8+off)).take n).map B:=by rw[List.map_take,List.map_drop,Nat.mul_one,Nat.mul_one]
 rw[hcx]at hcut
 have fin:∀(v:Value)(y3:World),GrowX (fun b=>y2.heap.size≤b) y2 y3→y3.ownsRow y2.heap.size 5 1 v n (((pgb.drop (8+off)).take n).map B)→
   y3.ownsRow w.heap.size 5 1 v n ((σ.bytes c p off n).map B)∧(σ.bytes c p off n).length=n∧(∀q,v.ownBlock=some q→¬sfoot S2 vl vo EO K q)∧SV W0 A c (σ.get c p).2.2 (sfoot S2 vl vo EO K) y3∧Foot (sfoot S1 vl vo EO K) (sfoot S2 vl vo EO K) w y3:=by
  intro v y3 hg ho
  have hb:Below y2.heap.size y2 y3:=hg.below (fun k hk=>⟨hk,fun h=>by omega⟩)
  refine⟨by rw[HRES.out];exact own_base ho hf2.grow.size,by rw[HRES.out];exact HLN.out,fun q e hq=>?_,⟨vl,vo,EL,EO,K,S2,hs2.below hb,rfl⟩,(sfoot_of hf2).trans (Foot.below (grow_below hb))⟩
  have h1:=(hs2.lt q hq).2
  have h2:=(ho.lt q e).1
  omega
 have FIN:=Lib.hid fin
 have HCUT:=Lib.hid hcut
 have HKK:=Lib.hid hkk
 have hkb:8+off+n≤k:=by omega
 clear hrow hgg hng hs2 hf2 hpl hcut hcx fin hpgb c3 c9 clt HG
 by_cases hnz:n=0
 case pos=>
  subst hnz
  have hz1:Reads 1 y2 (.slice (some ⟨g,0,none⟩) 0 0) 0 []:=⟨_,_,rfl,rfl,Nat.le_refl _,fun h=>absurd h (by omega)⟩
  have hz2:Reads 1 y2 (.slice (some ⟨g,8+off,none⟩) 0 (k-(8+off))) 0 []:=⟨_,_,rfl,rfl,Nat.zero_le _,fun h=>absurd h (by omega)⟩
  have HZ1:=Lib.hid hz1
  have HZ2:=Lib.hid hz2
  have hff:=FIN.out (.slice none 0 0) y2 (GrowX.refl _) (by rw[List.take_zero];exact World.ownsRow_nil _ _ _ _)
  have HFF:=Lib.hid hff
  clear hz1 hz2 hff
  go_wp2_with fail
  all_goals (go_ret2;first|exact⟨_,rfl,_,(HFF.out).1,(HFF.out).2.1,(HFF.out).2.2.1,(HFF.out).2.2.2.1,(HFF.out).2.2.2.2⟩|exact⟨_,_,rfl,(HFF.out).1,(HFF.out).2.1,(HFF.out).2.2.1,(HFF.out).2.2.2.1,(HFF.out).2.2.2.2⟩)
 have hkne:¬k=8+off:=by have:=HKK.out;have:=HOFF.out;omega
 have hcp:Reads 1 y2 (.slice (some ⟨g,8+off,none⟩) n (k-(8+off))) n (((pgb.drop (8+off)).take n).map B):=by
  have:=HCUT.out
  unfold cutA at this
  rw[if_neg hkne]at this
  simpa only[Option.map_some,Addr.add_lit,Nat.zero_add,Nat.mul_one]using this
 have hcp2:Reads 1 y2 (.slice (some ⟨g,8+off,none⟩) (8+off+n-(8+off)) (k-(8+off))) n (((pgb.drop (8+off)).take n).map B):=by rw[hk3];exact hcp
 have HCP:=Lib.hid hcp2
 clear hcp hcp2
 have hoff2:off+n≤504:=HOFF.out
 go_wp2_with (at_builtin;refine wpList_append_anyC (base:=y2.heap.size) bytesOf (.const (.slice none 0 0)) (.tmp 43) rfl rfl rfl (World.ownsRow_nil _ _ _ _) rfl HCP.out (Bs_one _) (by omega) (by omega) (Nat.le_refl _) ?_;intro ob cq wq ho2 hg2 hn2;have HX:=Lib.hid (And.intro ho2 (And.intro hg2 hn2));clear ho2 hg2 hn2)
 obtain⟨ho2,hg2,hn2⟩:=HX.out
 have hgx:GrowX (fun b=>y2.heap.size≤b) y2 wq:=GrowX.of_growC hg2 (fun k o e=>by cases e)
 rw[List.nil_append,Nat.zero_add]at ho2
 have hff:=FIN.out _ wq hgx ho2
 have HFF:=Lib.hid hff
 clear HX ho2 hg2 hn2 hgx hff
 go_ret2
 exact⟨_,_,rfl,HFF.out.1,HFF.out.2.1,HFF.out.2.2.1,HFF.out.2.2.2.1,HFF.out.2.2.2.2⟩
end
end
section
open Go.RowKit
def WSSt1(A:Adr)(e:Te)(t5 kd:Nat)(j b o:Nat):Prop:=(j=9∧b=t5∧o=1)∨(j=11∧b=t5∧o=2)
def PSSt1(A:Adr)(e:Te)(t5 kd:Nat)(i:Nat)(v:Value)(lo hi:Nat)(w:World):Prop:=
 match i with
 | 0=>v=.pointer (some ⟨e.t,0,none⟩)
 | 1=>v=.pointer (some ⟨e.t,0,none⟩)
 | 2=>v=.pointer (some ⟨e.t,0,none⟩)
 | 3=>v=.int .i64 (e.x.id:Nat)
 | 4=>v=.pointer (some ⟨e.t,0,none⟩)
 | 5=>v=.pointer (some ⟨e.t,0,none⟩)
 | 6=>v=.pointer (some ⟨e.t,2,none⟩)
 | 7=>v=.int .i64 (e.x.last:Nat)
 | 8=>v=.pointer (some ⟨t5,1,none⟩)
 | 9=>t5<w.heap.size∧w.cell? ⟨t5,1,none⟩=some (.int .i64 (e.x.id:Nat))
 | 10=>v=.pointer (some ⟨t5,2,none⟩)
 | 11=>t5<w.heap.size∧w.cell? ⟨t5,2,none⟩=some (.int .i64 (e.x.last:Nat))
 | _=>True
theorem PSSt1_stable(A:Adr)(e:Te)(t5 kd:Nat)  : ∀i j,i<12→j<12→j≠i→j∉([[],[0],[0,1],[0,1,2],[],[4],[4,5],[4,5,6],[0,1,2,3],[0,1,2,3,8],[0,1,2,3,4,5,6,7,8,9],[0,1,2,3,4,5,6,7,8,9,10]]:List (List Nat)).getD i []→∀v lo hi w w',PSSt1 A e t5 kd i v lo hi w→GrowC (WSSt1 A e t5 kd j) w w'→PSSt1 A e t5 kd i v lo hi w':=by
 intro i j hi hj hne hbs v lo hj2 w w' h hg
 match i,hi with
 | 0,_|1,_|2,_|3,_|4,_|5,_|6,_|7,_|8,_|10,_=>
  simp only[PSSt1]at h⊢
  exact h
 | 9,_|11,_=>
  simp only[PSSt1]at h⊢
  obtain⟨h0,h1⟩:=h
  exact⟨Nat.lt_of_lt_of_le h0 hg.size,(hg.cell _ _ h0 (by simp only[WSSt1];omega)).trans h1⟩
 | (q+12),hq=>exact absurd hq (by omega)
section
variable{W0 w w' w2:World}{A:Adr}{c:Cf}{σ:St}{S:Nat→Prop}{vl vo:Value}{EL:List Le}{EO:List Te}{K S1:Nat→Prop}{X:Nat→Prop}
theorem SvAt.setLast(h:SvAt W0 w A c σ vl vo EL EO K S1){i:Nat}{e:Te}(hei:EO[i]? = some e)(l:Nat):
  SvAt W0 (w.setCell ⟨e.t,2,none⟩ (.int .i64 (l:Nat))) A c { σ with opn:=σ.opn.set i { e.x with last:=l } } vl vo EL (EO.set i ⟨e.t,{ e.x with last:=l },e.vu,e.EU⟩) K S1∧
  Foot (sfoot S1 vl vo EO K) (sfoot S1 vl vo (EO.set i ⟨e.t,{ e.x with last:=l },e.vu,e.EU⟩) K) w (w.setCell ⟨e.t,2,none⟩ (.int .i64 (l:Nat))):=by
 have hmem:=List.mem_of_getElem? hei
 have hta:=h.tx.at_ e hmem
 have hg:=growX_setCell w e.t 2 (.int .i64 (l:Nat))
 have hgf:GrowX e.fp w (w.setCell ⟨e.t,2,none⟩ (.int .i64 (l:Nat))):=hg.mono (fun k e2=>.inl e2)
 have htx:TxAt W0 (w.setCell ⟨e.t,2,none⟩ (.int .i64 (l:Nat))) (⟨e.t,{ e.x with last:=l },e.vu,e.EU⟩:Te) K:=
  ⟨hta.box.setCell 2 (.int .i64 (l:Nat)),own_growx hta.row hg (fun q e1 e2=>hta.ne q e1 e2),hta.ups,fun u hu=>(hta.tb u hu).grow hg (fun k hk e2=>h.k3 k hk (.inr ⟨e,hmem,.inl e2⟩)),hta.gt,hta.ne⟩
 have hnew:∀k,TxFoot vo (EO.set i (⟨e.t,{ e.x with last:=l },e.vu,e.EU⟩:Te)) k→TxFoot vo EO k∨w.heap.size≤k:=by
  intro k hk
  rcases hk.set with hk|hk
  ·exact .inl hk
  ·exact .inl (.inr ⟨e,hmem,hk⟩)
 have h1:=h.txs hgf (fun k hk=>.inl (.inr ⟨e,hmem,hk⟩)) (h.tx.setAt hei hgf (fun k hk h2=>h.k3 k hk (.inr ⟨e,hmem,h2⟩)) htx rfl (fun q e1=>.inl e1)) hnew
 have e2:(EO.set i (⟨e.t,{ e.x with last:=l },e.vu,e.EU⟩:Te)).map (·.x)=σ.opn.set i { e.x with last:=l }:=by rw[List.map_set,←h.ois]
 rw[e2]at h1
 exact⟨h1,sfoot_foot (hgf.mono (fun k hk=>.inr (.inr (.inl (.inr ⟨e,hmem,hk⟩))))) (fun k h=>.inl h) (fun k h=>.inl h) hnew (fun k h=>.inl h)⟩
theorem St.step_eq(σ:St)(c:Cf)(i:Nat)(x:Tx)(kd:Nat)(hr:96≤σ.io.R.room c.n):σ.step c i x { Rc.zero with kind:=kd }=(0,{ σ with io:={ σ.io with R:=σ.io.R.app (Rc.enc { Rc.zero with kind:=kd,txn:=x.id,prev:=x.last }) },lines:=σ.lines++[(σ.io.R.tail+1,{ Rc.zero with kind:=kd,txn:=x.id,prev:=x.last })],opn:=σ.opn.set i { x with last:=σ.io.R.tail+1 } }):=by
 unfold St.step
 simp only[]
 rw[St.lay_eq σ c { Rc.zero with kind:=kd,txn:=x.id,prev:=x.last } rfl rfl hr]
 simp only[if_pos,St.setTx]
set_option maxRecDepth 100000 in
set_option maxHeartbeats 6400000 in
theorem step_at(h:SvAt W0 w A c σ vl vo EL EO K S1)(i:Nat)(e:Te)(hei:EO[i]? = some e)(kd:Nat)(hkd:kd≤9)(hid:e.x.id≤1099511627776)(hla:e.x.last≤1099511627776)(hk:96≤σ.io.R.room c.n)(ht:σ.io.R.tail+96≤1099511627775)(hl:EL.length≤1073741824):
  Calls Tryz.prog 57 #[.pointer (some ⟨A.sb,0,none⟩),.pointer (some ⟨e.t,0,none⟩),.agg (recC { Rc.zero with kind:=kd } none none 0 0 0 0)] w fun er w'=>∃vl' S1',er=.returned (.int .i64 0)∧
   SvAt W0 w' A c (σ.step c i e.x { Rc.zero with kind:=kd }).2 vl' vo (EL++[⟨σ.io.R.tail+1,{ Rc.zero with kind:=kd,txn:=e.x.id,prev:=e.x.last },.slice none 0 0,.slice none 0 0⟩]) (EO.set i ⟨e.t,{ e.x with last:=σ.io.R.tail+1 },e.vu,e.EU⟩) K S1'∧
   Foot (sfoot S1 vl vo EO K) (sfoot S1' vl' vo (EO.set i ⟨e.t,{ e.x with last:=σ.io.R.tail+1 },e.vu,e.EU⟩) K) w w':=by
 have HEI:=Lib.hid hei
 have HK:=Lib.hid hk
 have HT:=Lib.hid ht
 have HL:=Lib.hid hl
 have hal:Below w.heap.size w (w.alloc (.cells (recC { Rc.zero with kind:=kd } none none 0 0 0 0) 85)):=(Below.refl _ _).alloc (Nat.le_refl _) _
 have hbx:=Box.new w (recC { Rc.zero with kind:=kd } none none 0 0 0 0) 85 rfl
 have HAL:=Lib.hid hal
 have HS1:=Lib.hid (h.below hal)
 have HS0:=Lib.hid h
 obtain⟨t5,ht5⟩:∃x,w.heap.size=x:=⟨_,rfl⟩
 have hlt5:∀k,sfoot S1 vl vo EO K k→k<t5:=fun k hk=>by have:=(h.lt k hk).2;omega
 have HLT:=Lib.hid hlt5
 have HT5:=Lib.hid ht5
 obtain⟨T,hT⟩:∃x,σ.io.R.tail=x:=⟨_,rfl⟩
 have HTT:=Lib.hid hT
 clear h hei hk ht hl hal hlt5
 go_enter Tryz.func57,Tryz.ntmps57
 go_upto_region 1 with (fail)
 rw[ht5]at hbx
 try rw[ht5]
 generalize w.alloc (.cells (recC { Rc.zero with kind:=kd } none none 0 0 0 0) 85)=w1 at *
 have bt:Box w1 t5 [.int .i64 (kd:Nat),.int .i64 0,.int .i64 0,.int .i64 0,.int .i64 0,.int .i64 0,.slice none 0 0,.slice none 0 0,.slice none 0 0,.slice none 0 0,.int .i64 0]:=hbx
 have hmem:=List.mem_of_getElem? HEI.out
 have be:Box w1 e.t [.int .i64 (e.x.id:Nat),.int .i64 (e.x.first:Nat),.int .i64 (e.x.last:Nat),e.vu]:=(HS1.out.tx.at_ e hmem).box
 have hne:e.t≠t5:=fun e1=>by have:=HLT.out e.t (.inr (.inr (.inl (.inr ⟨e,hmem,.inl rfl⟩))));omega
 have hne2:t5≠e.t:=fun e1=>hne e1.symm
 have hB:Below 0 w1 w1:=Below.refl _ _
 clear hbx hmem ht5 hT
 refine wp_region_partsDC (WSSt1 A e t5 kd) 12 [[],[0],[0,1],[0,1,2],[],[4],[4,5],[4,5,6],[0,1,2,3],[0,1,2,3,8],[0,1,2,3,4,5,6,7,8,9],[0,1,2,3,4,5,6,7,8,9,10]] [some 9,some 10,some 11,some 12,some 13,some 14,some 15,some 16,some 17,none,some 18,none] (by kernel_rfl) (by kernel_rfl) rfl (PSSt1 A e t5 kd) (PSSt1_stable A e t5 kd) ?pSSt1 ?_
 case pSSt1=>
  intro i hi o ho vs lo hx_ w' hg hp
  match i,hi with
  | 0,_|4,_|8,_=>
   obtain rfl:=Option.some.inj ho
   clear ho
   simp only[actsD,Act.put,actL]
   have hsz:=hg.size
   go_wp2
   exact⟨_,rfl,GrowC.refl _,rfl⟩
  | 1,_=>
   obtain rfl:=Option.some.inj ho
   clear ho
   simp only[actsD,Act.put,actL]
   obtain⟨_,_,_,h0⟩:=hp 0 (by simp)
   simp only[PSSt1]at h0
   have hsz:=hg.size
   rw[h0]
   go_wp2
   exact⟨_,rfl,GrowC.refl _,rfl⟩
  | 2,_=>
   obtain rfl:=Option.some.inj ho
   clear ho
   simp only[actsD,Act.put,actL]
   obtain⟨_,_,_,h1⟩:=hp 1 (by simp)
   simp only[PSSt1]at h1
   have hsz:=hg.size
   rw[h1]
   go_wp2
   exact⟨_,rfl,GrowC.refl _,rfl⟩
  | 3,_=>
   obtain rfl:=Option.some.inj ho
   clear ho
   simp only[actsD,Act.put,actL]
   obtain⟨_,_,_,h2⟩:=hp 2 (by simp)
   simp only[PSSt1]at h2
   have hsz:=hg.size
   rw[h2]
   have e0:=(hg.cell (e.t) 0 be.lt (by rintro⟨j,_,hne,hb,hw⟩;simp only[WSSt1]at hw;rcases hw with ⟨_,h,_⟩|⟨_,h,_⟩<;>first|exact hne h|exact hne2 h|omega)).trans (be.cell 0 _ rfl)
   go_wp2
   exact⟨_,rfl,GrowC.refl _,rfl⟩
  | 5,_=>
   obtain rfl:=Option.some.inj ho
   clear ho
   simp only[actsD,Act.put,actL]
   obtain⟨_,_,_,h4⟩:=hp 4 (by simp)
   simp only[PSSt1]at h4
   have hsz:=hg.size
   rw[h4]
   go_wp2
   exact⟨_,rfl,GrowC.refl _,rfl⟩
  | 6,_=>
   obtain rfl:=Option.some.inj ho
   clear ho
   simp only[actsD,Act.put,actL]
   obtain⟨_,_,_,h5⟩:=hp 5 (by simp)
   simp only[PSSt1]at h5
   have hsz:=hg.size
   rw[h5]
   go_wp2
   exact⟨_,rfl,GrowC.refl _,rfl⟩
  | 7,_=>
   obtain rfl:=Option.some.inj ho
   clear ho
   simp only[actsD,Act.put,actL]
   obtain⟨_,_,_,h6⟩:=hp 6 (by simp)
   simp only[PSSt1]at h6
   have hsz:=hg.size
   rw[h6]
   have e0:=(hg.cell (e.t) 2 be.lt (by rintro⟨j,_,hne,hb,hw⟩;simp only[WSSt1]at hw;rcases hw with ⟨_,h,_⟩|⟨_,h,_⟩<;>first|exact hne h|exact hne2 h|omega)).trans (be.cell 2 _ rfl)
   go_wp2
   exact⟨_,rfl,GrowC.refl _,rfl⟩
  | 9,_=>
   obtain rfl:=Option.some.inj ho
   clear ho
   simp only[actsD,Act.put,actL]
   obtain⟨_,_,_,h3⟩:=hp 3 (by simp)
   simp only[PSSt1]at h3
   obtain⟨_,_,_,h8⟩:=hp 8 (by simp)
   simp only[PSSt1]at h8
   have hsz:=hg.size
   rw[h3,h8]
   have o0:=(hg.cell (t5) 1 bt.lt (by rintro⟨j,_,hne,hb,hw⟩;simp only[WSSt1]at hw;rcases hw with ⟨_,h,_⟩|⟨_,h,_⟩<;>first|exact hne h|exact hne2 h|omega)).trans (bt.cell 1 _ rfl)
   have fz:∀o,w'.frozen? ⟨t5,o,none⟩=false:=fun o=>(hg.frozen _ o bt.lt).trans (bt.free o)
   have hlt:t5<w'.heap.size:=by have:=bt.lt;omega
   go_wp2
   exact⟨.bool true,rfl,((GrowC.refl _).setCell (by unfold WSSt1;omega) hlt _),by simpa[World.setCell]using hlt,World.cell?_setCell_same _ _ _ o0⟩
  | 10,_=>
   obtain rfl:=Option.some.inj ho
   clear ho
   simp only[actsD,Act.put,actL]
   obtain⟨_,_,_,h9⟩:=hp 9 (by simp)
   simp only[PSSt1]at h9
   have hsz:=hg.size
   go_wp2
   exact⟨_,rfl,GrowC.refl _,rfl⟩
  | 11,_=>
   obtain rfl:=Option.some.inj ho
   clear ho
   simp only[actsD,Act.put,actL]
   obtain⟨_,_,_,h7⟩:=hp 7 (by simp)
   simp only[PSSt1]at h7
   obtain⟨_,_,_,h9⟩:=hp 9 (by simp)
   simp only[PSSt1]at h9
   obtain⟨_,_,_,h10⟩:=hp 10 (by simp)
   simp only[PSSt1]at h10
   have hsz:=hg.size
   rw[h7,h10]
   have o0:=(hg.cell (t5) 2 bt.lt (by rintro⟨j,_,hne,hb,hw⟩;simp only[WSSt1]at hw;rcases hw with ⟨_,h,_⟩|⟨_,h,_⟩<;>first|exact hne h|exact hne2 h|omega)).trans (bt.cell 2 _ rfl)
   have fz:∀o,w'.frozen? ⟨t5,o,none⟩=false:=fun o=>(hg.frozen _ o bt.lt).trans (bt.free o)
   have hlt:t5<w'.heap.size:=by have:=bt.lt;omega
   go_wp2
   exact⟨.bool true,rfl,((GrowC.refl _).setCell (by unfold WSSt1;omega) hlt _),by simpa[World.setCell]using hlt,World.cell?_setCell_same _ _ _ o0⟩
  | (q+12),hq=>exact absurd hq (by omega)
 intro vS lo hi w2 hg hp hd
 obtain⟨_,_,_,h0⟩:=hp 0 (by decide)
 obtain⟨_,_,_,h1⟩:=hp 1 (by decide)
 obtain⟨_,_,_,h2⟩:=hp 2 (by decide)
 obtain⟨_,_,_,h3⟩:=hp 3 (by decide)
 obtain⟨_,_,_,h4⟩:=hp 4 (by decide)
 obtain⟨_,_,_,h5⟩:=hp 5 (by decide)
 obtain⟨_,_,_,h6⟩:=hp 6 (by decide)
 obtain⟨_,_,_,h7⟩:=hp 7 (by decide)
 obtain⟨_,_,_,h8⟩:=hp 8 (by decide)
 obtain⟨_,_,_,h9⟩:=hp 9 (by decide)
 obtain⟨_,_,_,h10⟩:=hp 10 (by decide)
 obtain⟨_,_,_,h11⟩:=hp 11 (by decide)
 simp only[PSSt1]at h0 h1 h2 h3 h4 h5 h6 h7 h8 h9 h10 h11
 clear hp hd
 have hsz:=hg.size
 have HGX:Hid (GrowX (fun k=>k=t5) w1 w2):=Lib.hid (GrowX.of_growC hg (fun k o ⟨j,_,hw⟩=>by simp only[WSSt1]at hw;rcases hw with ⟨_,h,_⟩|⟨_,h,_⟩<;>exact h))
 replace be:=be.grow hg (by intro i _;rintro⟨j,_,hw⟩;simp only[WSSt1]at hw;first|omega|(rcases hw with ⟨_,h,_⟩|⟨_,h,_⟩<;>first|exact hne h|exact hne2 h|omega))
 replace bt:Box w2 (t5) [.int .i64 (kd:Nat),.int .i64 (e.x.id:Nat),.int .i64 (e.x.last:Nat),.int .i64 0,.int .i64 0,.int .i64 0,.slice none 0 0,.slice none 0 0,.slice none 0 0,.slice none 0 0,.int .i64 0]:=bt.upd hg (by
  intro i v hi
  match i,hi with
  | 0,hi|3,hi|4,hi|5,hi|6,hi|7,hi|8,hi|9,hi|10,hi=>exact .inr ⟨(by rintro⟨j,_,hw⟩;simp only[WSSt1]at hw;first|omega|(rcases hw with ⟨_,h,_⟩|⟨_,h,_⟩<;>first|exact hne h|exact hne2 h|omega)),hi⟩
  | 1,hi=>exact .inl (by obtain rfl:=Option.some.inj hi;exact h9.2)
  | 2,hi=>exact .inl (by obtain rfl:=Option.some.inj hi;exact h11.2)
  | (q+11),hi=>cases hi)
 replace hB:=hB.trans (hg.below (fun k hk=>⟨by omega,fun o=>by rintro⟨j,_,hw⟩;simp only[WSSt1]at hw;first|omega|(rcases hw with ⟨_,h,_⟩|⟨_,h,_⟩<;>first|exact hne h|exact hne2 h|omega)⟩))
 have hr:List.range 12=[0,1,2,3,4,5,6,7,8,9,10,11]:=rfl
 rw[hr]
 clear hr
 simp only[List.drop_succ_cons,List.drop_zero,List.drop_nil,actsD,Act.put,actL,h0,h1,h2,h3,h4,h5,h6,h7,h8,h10]
 clear h0 h1 h2 h3 h4 h5 h6 h7 h8 h9 h10 h11
 have HG2:Hid (GrowX (fun k=>k=t5) w w2):=Lib.hid ((grow_no HAL.out).trans HGX.out)
 have hs2:=HS0.out.other HG2.out (fun k e1=>by have:=HT5.out;omega)
 have HS2:=Lib.hid hs2
 have r0:=bt.cell 0 _ rfl
 have r1:=bt.cell 1 _ rfl
 have r2:=bt.cell 2 _ rfl
 have r3:=bt.cell 3 _ rfl
 have r4:=bt.cell 4 _ rfl
 have r5:=bt.cell 5 _ rfl
 have r6:=bt.cell 6 _ rfl
 have r7:=bt.cell 7 _ rfl
 have r8:=bt.cell 8 _ rfl
 have r9:=bt.cell 9 _ rfl
 have r10:=bt.cell 10 _ rfl
 have rlt:=bt.lt
 have hlay:=lay0_at hs2 { Rc.zero with kind:=kd,txn:=e.x.id,prev:=e.x.last } ⟨by show kd≤_;omega,by show e.x.id≤_;omega,by show e.x.last≤_;omega,Nat.zero_le _,Nat.zero_le _,Nat.zero_le _,Nat.zero_le _,Nat.zero_le _,Nat.zero_le _,rfl,rfl⟩ rfl rfl HK.out HT.out HL.out
 have HLA:=Lib.hid hlay
 clear hs2 hlay hB hg hsz be bt hne hne2
 go_wp2_with fail
 refine HLA.out.mono ?_
 rintro er y4 ⟨vl4,S4,rfl,hs4,hg4,hn4,hv4⟩
 have HG4:=Lib.hid hg4
 have HN4:=Lib.hid hn4
 have HV4:=Lib.hid hv4
 have be4:=(hs4.tx.at_ e (List.mem_of_getElem? HEI.out)).box
 have c2:=be4.cell 2 _ rfl
 have cfz:=be4.free
 have clt:=be4.lt
 obtain⟨hs5,hf5⟩:=hs4.setLast HEI.out (σ.io.R.tail+1)
 have HS5:=Lib.hid hs5
 have HF5:=Lib.hid hf5
 clear r0 r1 r2 r3 r4 r5 r6 r7 r8 r9 r10 rlt hs4 hg4 hn4 hv4 be4 hs5 hf5
 go_wp2_with fail
 go_ret
 have e1:=St.step_eq σ c i e.x kd HK.out
 have F1:Foot (sfoot S1 vl vo EO K) (sfoot S4 vl4 vo EO K) w2 y4:=sfoot_foot (HG4.out.mono (fun k h=>h.elim .inl (fun h=>.inr (.inl h)))) HN4.out HV4.out (fun k h=>.inl h) (fun k h=>.inl h)
 have F0:Foot (sfoot S1 vl vo EO K) (sfoot S1 vl vo EO K) w w2:=(Foot.below (grow_below (Below.refl w.heap.size w))).fin HG2.out (fun k e2=>.inr (by have:=HT5.out;omega)) (fun k h=>.inl h)
 rw[e1]
 first|exact⟨_,_,rfl,HS5.out,(F0.trans F1).trans HF5.out⟩|exact⟨rfl,_,_,HS5.out,(F0.trans F1).trans HF5.out⟩
end
end
section
open Go.RowKit
theorem growX_setRow(w:World)(g:Nat)(cs:Array Value):GrowX (fun k=>k=g) w (w.setRow g cs):=
 ⟨rfl,rfl,rfl,by simp[World.setRow],fun k hk hx=>setRow_other w g k cs hx⟩
theorem wpList_clear_tail{P:Program}{w:World}{ops:Array Oper}{rest:List Oper}{o:Oper}{a:Act}{Q:Exit→Act→World→Prop}
  {t e:TypeId} {z:Value} {size bytes:Nat} (T:SliceOf P t e z size bytes) (s:Operand) (hgd:o.guard=none) (ho:o.op=.call { callee:=.builtin .clear,args:=#[s],argTypes:=#[t] })
  {base g m k c n cap:Nat} {xs:List Value} (hs:a.eval s=.slice (some ⟨g,m*size,none⟩) k c) (hown:w.ownsRow base e size (.slice (some ⟨g,0,none⟩) n cap) n xs) (hmk:m+k=n) (hk:0<k) (hz1:∀v∈z.cells.toList,v.oneCell'=true)
  (h:∀w',w'.ownsRow base e size (.slice (some ⟨g,0,none⟩) m cap) m (xs.take (m*size))→GrowX (fun k=>k=g) w w'→wpList P ops Q rest (a.put o.dst (.tuple #[])) w'):wpList P ops Q (o::rest) a w:=by
 obtain⟨i,hi,hz0,hz,hz2⟩:=info_parts T.info
 obtain⟨hl,hown⟩:=hown
 rcases hown with ⟨h0,_⟩|⟨g',cap',cur,e0,hb,hg,hn,hc,hcs,ht⟩
 ·simp at h0
 injection e0 with e1 e2 e3
 injection e1 with e1
 injection e1 with e1
 subst e1 e3
 have hpos:=T.pos
 have hzs:=T.cells
 have hmul:m*size+k*size=n*size:=by rw[←Nat.add_mul,hmk]
 have hcap:n*size≤cap*size:=Nat.mul_le_mul_right _ hn
 have hzl:(Builtin.zeroCells z.cells k).toList.length=k*size:=by simp[Builtin.zeroCells,hzs]
 have hone:∀v∈(Builtin.zeroCells z.cells k).toList,v.oneCell'=true:=by
  intro v hv
  simp only[Builtin.zeroCells,Array.toList_map,List.mem_map]at hv
  obtain⟨j,_,rfl⟩:=hv
  have hj:j % z.cells.size<z.cells.size:=Nat.mod_lt _ (by omega)
  rw[getElem!_pos z.cells _ hj]
  exact hz1 _ (by simp)
 have hst:=run_storeCells_at P g (m*size) e (Builtin.zeroCells z.cells k).toList 0 cur w hg (by rw[hzl,hcs];omega) hone
 simp only[Nat.add_zero]at hst
 rw[hzl]at hst
 have hrun:(Builtin.clear_ #[t] o.type #[.slice (some ⟨g,m*size,none⟩) k c]).run P w=.ok (.tuple #[]) (w.setRow g (cur.toList.take (m*size)++(Builtin.zeroCells z.cells k).toList++cur.toList.drop (m*size+k*size)).toArray):=by
  obtain⟨k',rfl⟩:∃k',k=k'+1:=⟨k-1,by omega⟩
  simp[Builtin.clear_,run_underlying T.und,zeroValue,typeInfo,hi,hz0,Result.andThen]
  simp at hst
  rw[hst]
 refine wpList_plain hgd fun K hK=>?_
 unfold Oper.wp
 simp[execOp,ho,resolve,invoke,builtin,hs,hrun,Result.andThen]
 have hcl:cur.toList.length=cap*size:=by simpa using hcs
 have hg2:=setRow_heap w g cur (cur.toList.take (m*size)++(Builtin.zeroCells z.cells k).toList++cur.toList.drop (m*size+k*size)).toArray e (0,0) hg
 have:=h _ ⟨by rw[List.length_take,hl];omega,.inr ⟨g,cap,_,rfl,hb,hg2,by omega,hc,by simp[hzl];omega,?_⟩⟩ (growX_setRow w g _)
 ·simp only[List.append_assoc]at this
  exact hK _ _ this
 ·rw[←ht,List.take_take,Nat.min_eq_left (by omega)]
  simp only[List.append_assoc]
  rw[List.take_append_of_le_length (by rw[List.length_take];omega),List.take_take,Nat.min_self]
def ptrB(t:Nat):Value:=.pointer (some ⟨t,0,none⟩)
structure PredT(L:List Nat)(fn:Nat)(lb:Array Value)(p:Nat→Bool)(g:Nat)(F:World→Prop):Prop where
 stab:∀W W',F W→GrowX (fun k=>k=g) W W'→F W'
 ans:∀W (x:Nat),x∈L→F W→Calls Tryz.prog fn (#[.pointer (some ⟨x,0,none⟩)]++lb) W fun e w'=>e=.returned (.bool (p x))∧Below W.heap.size W w'
theorem PredT.yes{L:List Nat}{fn:Nat}{lb:Array Value}{p:Nat→Bool}{g:Nat}{F:World→Prop}(h:PredT L fn lb p g F)(W:World)(x:Nat)(hm:x∈L)(hF:F W)(hp:p x=true):Calls Tryz.prog fn (#[.pointer (some ⟨x,0,none⟩)]++lb) W fun e w'=>e=.returned (.bool true)∧Below W.heap.size W w':=
 (h.ans W x hm hF).mono fun _ _ ⟨h1,h2⟩=>⟨by rw[h1,hp],h2⟩
theorem PredT.no{L:List Nat}{fn:Nat}{lb:Array Value}{p:Nat→Bool}{g:Nat}{F:World→Prop}(h:PredT L fn lb p g F)(W:World)(x:Nat)(hm:x∈L)(hF:F W)(hp:p x=false):Calls Tryz.prog fn (#[.pointer (some ⟨x,0,none⟩)]++lb) W fun e w'=>e=.returned (.bool false)∧Below W.heap.size W w':=
 (h.ans W x hm hF).mono fun _ _ ⟨h1,h2⟩=>⟨by rw[h1,hp],h2⟩
theorem findx_at{L:List Nat}{p:Nat→Bool}{j x:Nat}(hx:L[j]? = some x)(hp:p x=true)(hb:∀k y,k<j→L[k]? = some y→p y=false):L.findIdx? p=some j:=by
 obtain⟨hj,hxe⟩:=List.getElem?_eq_some_iff.1 hx
 rw[List.findIdx?_eq_some_iff_getElem]
 refine⟨hj,by rw[hxe];exact hp,fun k hk=>?_⟩
 have:=hb k _ hk (List.getElem?_eq_getElem (by omega))
 simpa using this
theorem find_no{L:List Nat}{p:Nat→Bool}(hb:∀k y,k<L.length→L[k]? = some y→p y=false):L.findIdx? p=none:=by
 rw[List.findIdx?_eq_none_iff]
 intro x hx
 obtain⟨k,hk,rfl⟩:=List.getElem_of_mem hx
 exact hb k _ hk (List.getElem?_eq_getElem hk)
set_option maxRecDepth 100000 in
set_option maxHeartbeats 3200000 in
theorem idxT_any(L:List Nat)(n c G g:Nat)(fn:Nat)(lb:Array Value)(p:Nat→Bool)(F:World→Prop)(eg:∀args w,(callFunc fn args).run Tryz.prog w=.ok (.enter fn args) w)(hP:PredT L fn lb p g F)(hl:L.length=n)(hn:n≤1099511627776)(w:World)(hF:F w)(hv:w.ownsRow G 100 1 (.slice (some ⟨g,0,none⟩) n c) n (L.map ptrB)):
  Calls Tryz.prog 128 #[.slice (some ⟨g,0,none⟩) n c,.func (.func fn) #[] lb] w fun e w'=>e=.returned (.int .i64 (atI (L.findIdx? p)))∧Below w.heap.size w w':=by
 have HO:=Lib.hid hv
 have HL:=Lib.hid hl
 have HP:=Lib.hid hP
 have HF:=Lib.hid hF
 clear hv hl hP hF
 go_enter Tryz.func128,Tryz.ntmps128
 go_wp2_with fail
 go_loopw [8] (fun i wr=>∃j:Nat,j≤n∧i=.int .i64 j∧Below w.heap.size w wr∧(∀k y,k<j→L[k]? = some y→p y=false)) (fun i _=>n-(intOf i).toNat)
 case atStart=>exact⟨0,Nat.zero_le _,rfl,Below.refl _ _,fun k y hk=>absurd hk (Nat.not_lt_zero _)⟩
 case round=>
  obtain⟨j,hj,rfl,hbl,hno⟩:=hrel
  have HB:=Lib.hid hbl
  have HNO:=Lib.hid hno
  clear hbl hno
  by_cases hjn:j<n
  case neg=>
   have b1:decide (j<n)=false:=by simpa using hjn
   have b2:decide ((j:Int)<(n:Int))=false:=by simpa using hjn
   have e4:L.findIdx? p=none:=find_no (fun k y hk hy=>HNO.out k y (by have:=HL.out;omega) hy)
   have HE4:=Lib.hid e4
   clear e4
   go_wp2_with fail
   go_ret
   exact⟨ret_v (by rw[HE4.out];rfl),HB.out⟩
  have b1:decide (j<n)=true:=by simpa using hjn
  have b2:decide ((j:Int)<(n:Int))=true:=by simpa using hjn
  have hjl:j<L.length:=by rw[HL.out];exact hjn
  obtain⟨x,hx⟩:∃x,L[j]? = some x:=⟨_,List.getElem?_eq_getElem hjl⟩
  have hcl:=own_at (own_below HO.out HB.out (fun q e=>(HO.out.lt q e).2)) j (ptrB x) (by rw[List.getElem?_map,hx];rfl)
  simp only[ptrB]at hcl
  have HX:=Lib.hid hx
  have HFW:Hid (F wr):=Lib.hid (HP.out.stab _ _ HF.out (grow_no HB.out))
  clear hjl hx
  cases hpx:p x with
  | true=>
   have HPX:=Lib.hid hpx
   clear hpx
   go_wp2_with fail
   refine(HP.out.yes _ x (List.mem_of_getElem? HX.out) HFW.out HPX.out).mono ?_
   rintro e w2 ⟨rfl,hb2⟩
   have HB2:=Lib.hid (HB.out.trans (hb2.mono HB.out.size))
   clear hb2
   have e4:L.findIdx? p=some j:=findx_at HX.out HPX.out HNO.out
   have HE4:=Lib.hid e4
   clear e4
   go_wp2_with fail
   go_ret
   exact⟨ret_v (by rw[HE4.out];rfl),HB2.out⟩
  | false=>
   have HPX:=Lib.hid hpx
   clear hpx
   go_wp2_with fail
   refine(HP.out.no _ x (List.mem_of_getElem? HX.out) HFW.out HPX.out).mono ?_
   rintro e w2 ⟨rfl,hb2⟩
   have HB2:=Lib.hid (HB.out.trans (hb2.mono HB.out.size))
   clear hb2
   go_wp2_with fail
   go_roundw
   ·refine⟨j+1,by omega,by go_num,HB2.out,fun k y hk hy=>?_⟩
    rcases Nat.lt_succ_iff_lt_or_eq.1 hk with hk|rfl
    ·exact HNO.out k y hk hy
    ·rw[HX.out]at hy
     obtain rfl:=Option.some.inj hy
     exact HPX.out
   ·simp[intOf];omega
theorem tx_zero_one:∀v∈(Value.pointer none).cells.toList,v.oneCell'=true:=by
 intro v hv;simp[Value.cells]at hv;rcases hv with rfl;rfl
set_option maxRecDepth 100000 in
set_option maxHeartbeats 6400000 in
theorem delT_any(L:List Nat)(n c G g:Nat)(fn:Nat)(lb:Array Value)(p:Nat→Bool)(F:World→Prop)(eg:∀args w,(callFunc fn args).run Tryz.prog w=.ok (.enter fn args) w)(hP:PredT L fn lb p g F)(hl:L.length=n)(hn:n≤1099511627776)(hpos:0<n)(w:World)(hF:F w)(hown:w.ownsRow G 100 1 (.slice (some ⟨g,0,none⟩) n c) n (L.map ptrB)):
  Calls Tryz.prog 101 #[.slice (some ⟨g,0,none⟩) n c,.func (.func fn) #[] lb] w fun e w'=>∃m,e=.returned (.slice (some ⟨g,0,none⟩) m c)∧(L.filter fun x=>!p x).length=m∧m≤n∧w'.ownsRow G 100 1 (.slice (some ⟨g,0,none⟩) m c) m ((L.filter fun x=>!p x).map ptrB)∧GrowX (fun k=>k=g) w w':=by
 have HO:=Lib.hid hown
 have HL:=Lib.hid hl
 have HP:=Lib.hid hP
 have HF:=Lib.hid hF
 have hnc:n≤c:=by obtain⟨_,_,h,_,h2,_⟩:=Reads.of_own hown;injection h with _ _ h3;omega
 clear hown hl hP hF
 cases hf:L.findIdx? p with
 | none=>
  have hno:=List.findIdx?_eq_none_iff.1 hf
  have HFL:Hid (L.filter (fun x=>!p x)=L):=Lib.hid (List.filter_eq_self.2 (fun a ha=>by rw[hno a ha];rfl))
  have HFI:=Lib.hid hf
  clear hf hno
  go_enter Tryz.func101,Tryz.ntmps101
  go_wp2_with fail
  refine(idxT_any L n c G g fn lb p F eg HP.out HL.out hn w HF.out HO.out).mono ?_
  rintro e w1 ⟨rfl,hb1⟩
  rw[HFI.out]
  have HO1:=Lib.hid (own_below HO.out hb1 (fun q e=>(HO.out.lt q e).2))
  have HB1:=Lib.hid hb1
  clear hb1 eg
  show _
  simp only[atI]
  go_wp2_with fail
  go_ret
  exact⟨n,rfl,by rw[HFL.out];exact HL.out,Nat.le_refl _,by rw[HFL.out];exact HO1.out,grow_below HB1.out⟩
 | some i0=>
  obtain⟨hil,hpi,hbef⟩:=List.findIdx?_eq_some_iff_getElem.1 hf
  have HPRE:Hid ((L.take (i0+1)).filter (fun x=>!p x)=L.take i0):=Lib.hid (by
   rw[List.take_succ_eq_append_getElem hil,List.filter_append]
   have e1:List.filter (fun x=>!p x) [L[i0]]=[]:=by simp[hpi]
   rw[e1,List.append_nil]
   refine List.filter_eq_self.2 (fun a ha=>?_)
   obtain⟨j,hj,rfl⟩:=List.getElem_of_mem ha
   have hj':j<i0:=by simp at hj;omega
   have:=hbef j hj'
   simpa using this)
  have HFI:=Lib.hid hf
  rw[HL.out]at hil
  clear hf hpi hbef
  go_enter Tryz.func101,Tryz.ntmps101
  go_wp2_with fail
  refine(idxT_any L n c G g fn lb p F eg HP.out HL.out hn w HF.out HO.out).mono ?_
  rintro e w1 ⟨rfl,hb1⟩
  rw[HFI.out]
  have HO1:=Lib.hid (own_below HO.out hb1 (fun q e=>(HO.out.lt q e).2))
  have HG1:=Lib.hid (grow_below (X:=fun k=>k=g) hb1)
  clear hb1 HO HFI
  simp only[atI]
  have hne:((i0:Int) == -1)=false:=by simp
  go_wp2_with fail
  go_loopw [5,6] (fun si sj wr=>∃(i j:Nat)(M:List Nat),j≤n∧i<j∧si=.int .i64 i∧sj=.int .i64 j∧Hid (M.length=n∧M.take i=(L.take j).filter (fun x=>!p x)∧M.drop j=L.drop j∧((L.take j).filter (fun x=>!p x)).length=i)∧
   wr.ownsRow G 100 1 (.slice (some ⟨g,0,none⟩) n c) n (M.map ptrB)∧GrowX (fun k=>k=g) w wr) (fun _ sj _=>n-(intOf sj).toNat)
  case atStart=>exact⟨i0,i0+1,L,by omega,by omega,rfl,by go_num,Lib.hid ⟨HL.out,by rw[HPRE.out],rfl,by rw[HPRE.out,List.length_take,HL.out];omega⟩,HO1.out,HG1.out⟩
  case round=>
   obtain⟨i,j,M,hj,hij,rfl,rfl,HM,hown,hgr⟩:=hrel
   have HO:=Lib.hid hown
   have HG:=Lib.hid hgr
   have HFW:Hid (F wr):=Lib.hid (HP.out.stab w wr HF.out hgr)
   clear hown hgr
   by_cases hlt:j<n
   ·have hjL:j<L.length:=by rw[HL.out];exact hlt
    have hts:L.take (j+1)=L.take j++[L[j]]:=List.take_succ_eq_append_getElem hjL
    have hMj:M[j]? = some L[j]:=by
     have h1:=congrArg (fun l=>l[0]?) HM.out.2.2.1
     simp only[List.getElem?_drop,Nat.add_zero]at h1
     rw[h1,List.getElem?_eq_getElem hjL]
    have HD:Hid (M.drop (j+1)=L.drop (j+1)):=Lib.hid (by
     have h1:=congrArg (List.drop 1) HM.out.2.2.1
     rwa [List.drop_drop,List.drop_drop]at h1)
    have hcl:=own_at HO.out j (ptrB L[j]) (by rw[List.getElem?_map,hMj];rfl)
    simp only[ptrB]at hcl
    have HTS:=Lib.hid hts
    have HMX:=Lib.hid (List.getElem_mem hjL)
    generalize L[j]=x at *
    clear hMj hts hjL
    cases hpx:p x with
    | true=>
     have HPX:=Lib.hid hpx
     have HTK:Hid ((L.take (j+1)).filter (fun x=>!p x)=(L.take j).filter (fun x=>!p x)):=Lib.hid (by rw[HTS.out,List.filter_append];simp[hpx])
     clear hpx
     go_wp2_with fail
     refine(HP.out.yes _ x HMX.out HFW.out HPX.out).mono ?_
     rintro e w2 ⟨rfl,hb2⟩
     have HO3:=Lib.hid (own_below HO.out hb2 (fun q e=>(HO.out.lt q e).2))
     have HG3:=Lib.hid (HG.out.trans (grow_below hb2))
     clear hb2
     go_wp2_with fail
     go_roundw
     case rel=>exact⟨i,j+1,M,by omega,by omega,rfl,by go_num,Lib.hid ⟨HM.out.1,by rw[HTK.out];exact HM.out.2.1,HD.out,by rw[HTK.out];exact HM.out.2.2.2⟩,HO3.out,HG3.out⟩
     case measure=>simp[intOf];omega
    | false=>
     have HPX:=Lib.hid hpx
     have HTK:Hid ((L.take (j+1)).filter (fun x=>!p x)=(L.take j).filter (fun x=>!p x)++[x]):=Lib.hid (by rw[HTS.out,List.filter_append];simp[hpx])
     clear hpx
     go_wp2_with fail
     refine(HP.out.no _ x HMX.out HFW.out HPX.out).mono ?_
     rintro e w2 ⟨rfl,hb2⟩
     have HO3:=Lib.hid (own_below HO.out hb2 (fun q e=>(HO.out.lt q e).2))
     have HG3:=Lib.hid (HG.out.trans (grow_below hb2))
     clear hb2
     have fz:∀o,w2.frozen? ⟨g,o,none⟩=false:=fun o=>own_free HO3.out rfl o
     have HIM:Hid (∃y,M[i]? = some y):=Lib.hid ⟨_,List.getElem?_eq_getElem (by rw[HM.out.1];omega)⟩
     obtain⟨y,hy⟩:=HIM.out
     have hs1:=own_at HO3.out i (ptrB y) (by rw[List.getElem?_map,hy];rfl)
     have hglt:=(HO3.out.lt g rfl).2
     clear hy
     go_wp2_with fail
     have hown4:=own_set HO3.out rfl i (by omega) (ptrB x)
     rw[←List.map_set]at hown4
     simp only[ptrB]at hown4
     have hgr4:=HG3.out.trans (growX_setCell w2 g i (.pointer (some ⟨x,0,none⟩)))
     go_roundw
     case rel=>exact⟨i+1,j+1,M.set i x,by omega,by omega,by go_num,by go_num,Lib.hid ⟨by rw[List.length_set];exact HM.out.1,by rw[HTK.out,←HM.out.2.1,List.take_succ_eq_append_getElem (by rw[List.length_set,HM.out.1];omega),List.take_set_of_le (Nat.le_refl _),List.getElem_set_self],by rw[List.drop_set_of_lt (by omega)];exact HD.out,by rw[HTK.out,List.length_append,HM.out.2.2.2];rfl⟩,hown4,hgr4⟩
     case measure=>simp[intOf];omega
   ·obtain rfl:n=j:=by omega
    have hall:L.take n=L:=List.take_of_length_le (Nat.le_of_eq HL.out)
    have HMT:Hid (M.take i=L.filter (fun x=>!p x)∧(L.filter (fun x=>!p x)).length=i):=Lib.hid ⟨by rw[HM.out.2.1,hall],by rw[←hall];exact HM.out.2.2.2⟩
    have hci:¬c=i:=by omega
    clear hall eg
    go_wp2_with (with_reducible refine wpList_clear_tail txnsOf (.tmp 38) rfl rfl (m:=i) (k:=n-i) (c:=c-i) (n:=n) (cap:=c) ?s1 HO.out (by omega) (by omega) tx_zero_one ?s2)
    case s1=>rw[Nat.mul_one];rfl
    intro w2 hown2 hgr2
    have HOW2:=Lib.hid hown2
    have HGR2:=Lib.hid hgr2
    clear hown2 hgr2
    go_wp2_with fail
    have hown2:=HOW2.out
    have hgr2:=HGR2.out
    go_ret
    rw[←List.map_take,HMT.out.1]at hown2
    exact⟨i,rfl,HMT.out.2,by omega,hown2,HG.out.trans hgr2⟩
end
end Go.Proofs.YtpajagkhmodbnaaGreat

/- Pk: texts of the store seat laid together by program: SlEnc SlEncF. Conditions: each theorem names its own. -/
import Derived.Test.YtpajagkhmodbnaaGreatPk21
namespace Go.Proofs.YtpajagkhmodbnaaGreat
set_option linter.unusedSimpArgs false
set_option linter.unusedVariables false
section
open Go.RowKit
section
variable{w:World}
theorem Bs_hb(n i:Nat)(hi:i≤7):(([hbyte n (7-i)]).map B)=[.int .u8 ((n:Int) / 2 ^ (8*i) % 256)]:=by
 rw[Bs_hbyte,show 56-8*(7-i)=8*i by omega]
set_option maxRecDepth 100000 in
set_option maxHeartbeats 1600000 in
theorem rfnum_any(n:Nat)(hn:n≤4611686018427387904):
  Calls Tryz.prog 108 #[.int .i64 (n:Nat)] w fun e w'=>∃(ao:Option Addr)(c:Nat)(L:List UInt8),e=.returned (.slice ao 8 c)∧w'.ownsRow w.heap.size 5 1 (.slice ao 8 c) 8 (L.map B)∧Below w.heap.size w w':=by
 have hmx:(if (0:Int)>(n:Int)then(0:Int)else(n:Int))=(n:Int):=by split<;>omega
 have hmx2:(if (n:Int)<0 then(0:Int)else(n:Int))=(n:Int):=by split<;>omega
 have hmx3:max (n:Int) 0=(n:Int):=by omega
 go_enter Tryz.func108,Tryz.ntmps108
 go_wp2_with fail
 go_loopw [3,4] (fun s z wr=>∃(k c2:Nat)(ao2:Option Addr)(L:List UInt8),k≤8∧z=.int .i64 (7-(k:Int))∧s=.slice ao2 k c2∧wr.ownsRow w.heap.size 5 1 (.slice ao2 k c2) k (L.map B)∧Below w.heap.size w wr) (fun _ z _=>(intOf z+1).toNat)
 case atStart=>exact⟨0,0,none,[],Nat.zero_le _,rfl,rfl,World.ownsRow_nil _ _ _ _,Below.refl _ _⟩
 case round=>
  obtain⟨k,c2,ao2,L,hk,rfl,rfl,hown,hbw⟩:=hrel
  have HOW:=Lib.hid hown
  have HB:=Lib.hid hbw
  have hsz:=hbw.size
  clear hown hbw
  by_cases hk8:k<8
  ·obtain⟨i,hi,hik⟩:∃i:Nat,i≤7∧k=7-i:=⟨7-k,by omega,by omega⟩
   have hz:(7:Int)-(k:Int)=(i:Int):=by omega
   have HZ:=Lib.hid hz
   rw[hz]
   clear hz
   have hib:decide ((i:Int)≥0)=true:=by simp
   have hib2:decide ((0:Int)≤(i:Int))=true:=by simp
   have HIK:=Lib.hid hik
   clear hik
   go_wp2_with (at_builtin;refine wpList_append_reads bytesOf (.tmp 11) (.tmp 17) rfl rfl (base:=w.heap.size) (W0:=w) rfl (HOW.out.alloc _) (HB.out.alloc hsz _) rfl (Reads.lit (l:=([hbyte n (7-i)]).map B) (by rw[Bs_hb n i hi]) rfl (Nat.le_refl _) rfl) (Bs_one _) (by omega) (by omega) (by simp;omega) ?_;intro ob cq wq ho2 hb2;have HO2:Hid (wq.ownsRow w.heap.size 5 1 (.slice ob (k+1) cq) (k+1) (L.map B++([hbyte n (7-i)]).map B)):=Lib.hid ho2;have HB2:=Lib.hid hb2;clear ho2 hb2)
   go_roundw
   ·refine⟨k+1,cq,ob,L++[hbyte n (7-i)],by omega,?_,rfl,?_,HB2.out⟩
    ·have h1:=HIK.out
     have h2:(i:Int)-1=7-((k+1:Nat):Int):=by omega
     rw[←h2]
    ·rw[List.map_append];exact HO2.out
   ·simp[intOf]
  ·obtain rfl:k=8:=by omega
   have h7:(7:Int)-((8:Nat):Int) = -1:=by decide
   rw[h7]
   go_wp2_with fail
   go_ret
   exact⟨ao2,c2,L,rfl,HOW.out,HB.out⟩
set_option maxRecDepth 100000 in
set_option maxHeartbeats 1600000 in
theorem rfall_any(ns:List Nat)(m:Nat)(hm:ns.length=m)(hm2:m≤100)(hb:∀n∈ns,n≤4611686018427387904)(v:Value)(hr:Reads 1 w v m (ns.map fun n=>Value.int .i64 (n:Nat))):
  Calls Tryz.prog 107 #[v] w fun e w'=>∃(ao:Option Addr)(c:Nat)(L:List UInt8),e=.returned (.slice ao (8*m) c)∧w'.ownsRow w.heap.size 5 1 (.slice ao (8*m) c) (8*m) (L.map B)∧Below w.heap.size w w':=by
 obtain⟨av,cv,rfl⟩:=hr.shape
 have HR:=Lib.hid hr
 have HM:=Lib.hid hm
 have HBN:=Lib.hid hb
 clear hr hm hb
 go_enter Tryz.func107,Tryz.ntmps107
 go_wp2_with fail
 go_loopw [3,4] (fun s z wr=>∃(k c2:Nat)(ao2:Option Addr)(L:List UInt8),k≤m∧z=.int .i64 (k:Nat)∧s=.slice ao2 (8*k) c2∧wr.ownsRow w.heap.size 5 1 (.slice ao2 (8*k) c2) (8*k) (L.map B)∧Below w.heap.size w wr) (fun _ z _=>m-(intOf z).toNat)
 case atStart=>exact⟨0,0,none,[],Nat.zero_le _,rfl,rfl,World.ownsRow_nil _ _ _ _,Below.refl _ _⟩
 case round=>
  obtain⟨k,c2,ao2,L,hk,rfl,rfl,hown,hbw⟩:=hrel
  have HOW:=Lib.hid hown
  have HB:=Lib.hid hbw
  have hsz:=hbw.size
  clear hown hbw
  by_cases hkm:k<m
  ·obtain⟨n,hn⟩:∃n,ns[k]? = some n:=⟨_,List.getElem?_eq_getElem (by rw[HM.out];exact hkm)⟩
   obtain⟨b2,o2,c3,e,hb2,hc2,hcell⟩:=(HR.out.below HB.out (Nat.le_refl _)).at k hkm (.int .i64 (n:Nat)) (by rw[List.getElem?_map,hn];rfl)
   injection e with e1 e2 e3
   subst e1 e3
   have HN:=Lib.hid (rfnum_any (w:=wr) n (HBN.out n (List.mem_of_getElem? hn)))
   clear hn e2
   go_wp2_with fail
   refine HN.out.mono ?_
   rintro e y ⟨a3,c3,L3,rfl,ho3,hb3⟩
   have hoy:=own_below HOW.out hb3 (fun q e=>(HOW.out.lt q e).2)
   have HOY:=Lib.hid hoy
   have HBY:=Lib.hid (HB.out.trans (hb3.mono hsz))
   have hszy:=HBY.out.size
   have HRY:=Lib.hid (Reads.of_own ho3)
   clear ho3 hb3 hoy HN
   go_wp2_with (at_builtin;refine wpList_append_reads bytesOf (.tmp 11) (.tmp 16) rfl rfl (base:=w.heap.size) (W0:=w) rfl HOY.out HBY.out rfl HRY.out (Bs_one _) (by omega) (by omega) hszy ?_;intro ob cq wq ho2 hb2;have HO2:Hid (wq.ownsRow w.heap.size 5 1 (.slice ob (8*k+8) cq) (8*k+8) (L.map B++L3.map B)):=Lib.hid ho2;have HB2:=Lib.hid hb2;clear ho2 hb2)
   go_roundw
   ·refine⟨k+1,cq,ob,L++L3,by omega,by go_num,rfl,?_,HB2.out⟩
    rw[List.map_append];exact HO2.out
   ·simp[intOf];omega
  ·obtain rfl:k=m:=by omega
   go_wp2_with fail
   go_ret
   exact⟨ao2,c2,L,rfl,HOW.out,HB.out⟩
end
end
section
open Go.RowKit
set_option maxRecDepth 100000 in
set_option maxHeartbeats 6400000 in
theorem rfenc_any{w:World}(r:Rc)(ab aa:Option Addr)(nb cb na ca:Nat)(hs:r.small)(hnb:r.before.length=nb)(hna:r.after.length=na)(hrb:Reads 1 w (.slice ab nb cb) nb (r.before.map B))(hra:Reads 1 w (.slice aa na ca) na (r.after.map B)):
  Calls Tryz.prog 70 #[.agg (recC r ab aa nb cb na ca)] w fun e w'=>∃(ao:Option Addr)(c:Nat),e=.returned (.slice ao r.size c)∧Below w.heap.size w w':=by
 have h1:=hs.b
 have h2:=hs.a
 rw[hnb]at h1
 rw[hna]at h2
 have HSZ:Hid (r.size=96+nb+na):=Lib.hid (by unfold Rc.size;rw[hnb,hna,hs.t,hs.d];rfl)
 have HS:=Lib.hid hs
 have HRB:=Lib.hid hrb
 have HRA:=Lib.hid hra
 clear hs hnb hna hrb hra
 go_enter Tryz.func70,Tryz.ntmps70
 have hal:Below w.heap.size w (w.alloc (.cells (recC r ab aa nb cb na ca) 85)):=(Below.refl _ _).alloc (Nat.le_refl _) _
 have hbx:=Box.new w (recC r ab aa nb cb na ca) 85 rfl
 obtain⟨t1,ht1⟩:∃x,w.heap.size=x:=⟨_,rfl⟩
 have HT1:=Lib.hid ht1
 have HAL:=Lib.hid hal
 have HBF:=Lib.hid (HRB.out.below hal (Nat.le_refl _))
 have HAF:=Lib.hid (HRA.out.below hal (Nat.le_refl _))
 go_upto_region 1 with (fail)
 rw[ht1]at hbx
 clear ht1 hal HRB HRA
 generalize w.alloc (.cells (recC r ab aa nb cb na ca) 85)=w1 at *
 have bt:Box w1 t1 [.int .i64 (r.kind:Nat),.int .i64 (r.txn:Nat),.int .i64 (r.prev:Nat),.int .i64 (r.next:Nat),.int .i64 (r.page:Nat),.int .i64 (r.off:Nat),.slice ab nb cb,.slice aa na ca,.slice none 0 0,.slice none 0 0,.int .i64 (r.count:Nat)]:=hbx
 have HBX:=Lib.hid bt
 have c0:=bt.cell 0 _ rfl
 have c1:=bt.cell 1 _ rfl
 have c2:=bt.cell 2 _ rfl
 have c3:=bt.cell 3 _ rfl
 have c4:=bt.cell 4 _ rfl
 have c5:=bt.cell 5 _ rfl
 have c6:=bt.cell 6 _ rfl
 have clt:=bt.lt
 obtain⟨G,hG⟩:∃x,w1.heap.size=x:=⟨_,rfl⟩
 have HG:=Lib.hid hG
 have hal1:=(Below.refl w1.heap.size w1).alloc (Nat.le_refl _) (.cells #[.int .i64 (r.kind:Nat),.int .i64 (r.txn:Nat),.int .i64 (r.prev:Nat),.int .i64 (r.next:Nat),.int .i64 (r.page:Nat),.int .i64 (r.off:Nat),.int .i64 (nb:Nat)] 3)
 rw[hG]at hal1
 have HL1:=Lib.hid hal1
 have HLR:=Lib.hid (Reads.lit (w:=w1) (arr:=#[.int .i64 (r.kind:Nat),.int .i64 (r.txn:Nat),.int .i64 (r.prev:Nat),.int .i64 (r.next:Nat),.int .i64 (r.page:Nat),.int .i64 (r.off:Nat),.int .i64 (nb:Nat)]) (T:=3) (m:=7) (c:=7) (K:=1) (l:=[r.kind,r.txn,r.prev,r.next,r.page,r.off,nb].map fun n=>Value.int .i64 (n:Nat)) rfl rfl (Nat.le_refl _) (g:=G) hG.symm)
 clear hbx bt hal1
 go_wp2_with fail
 clear c0 c1 c2 c3 c4 c5 c6 clt hG
 have HA:=Lib.hid (rfall_any _ 7 rfl (by decide) (by intro n hn;simp only[List.mem_cons,List.not_mem_nil,or_false]at hn;rcases hn with rfl|rfl|rfl|rfl|rfl|rfl|rfl;exact HS.out.kind;exact HS.out.txn;exact HS.out.prev;exact HS.out.next;exact HS.out.page;exact HS.out.off;omega) _ HLR.out)
 refine HA.out.mono ?_
 rintro e y0 ⟨a0,k0,L0,rfl,ho,hb⟩
 have hsl:G≤(w1.alloc (.cells #[.int .i64 (r.kind:Nat),.int .i64 (r.txn:Nat),.int .i64 (r.prev:Nat),.int .i64 (r.next:Nat),.int .i64 (r.page:Nat),.int .i64 (r.off:Nat),.int .i64 (nb:Nat)] 3)).heap.size:=by rw[←HG.out];exact HL1.out.size
 have HBy0:Hid (Below G w1 y0):=Lib.hid (HL1.out.trans (hb.mono hsl))
 have HOy0:Hid (y0.ownsRow G 5 1 (.slice a0 56 k0) 56 (L0.map B)):=Lib.hid (own_base ho hsl)
 have hsy0:G≤y0.heap.size:=Nat.le_trans hsl hb.size
 clear ho hb HA HLR HL1 hsl
 have bx:=HBX.out.below HBy0.out (Nat.le_of_eq HG.out)
 have d6:=bx.cell 6 _ rfl
 have d7:=bx.cell 7 _ rfl
 have d8:=bx.cell 8 _ rfl
 have d9:=bx.cell 9 _ rfl
 have d10:=bx.cell 10 _ rfl
 have dlt:=bx.lt
 clear bx
 have HFy0:=Lib.hid (HBF.out.below HBy0.out (Nat.le_of_eq HG.out))
 go_wp2_with (at_builtin;refine wpList_append_reads bytesOf (.tmp 23) (.tmp 25) rfl rfl (base:=G) (W0:=w1) rfl HOy0.out HBy0.out rfl HFy0.out (Bs_one _) (by omega) (by omega) hsy0 ?_;intro oby1 cqy1 y1 ho2 hb2;have HOy1:Hid (y1.ownsRow G 5 1 (.slice oby1 (56+nb) cqy1) (56+nb) ((L0++r.before).map B)):=Lib.hid (by rw[List.map_append];exact ho2);have HBy1:=Lib.hid hb2;have hsy1:G≤y1.heap.size:=(by have h1:=hb2.size;have h2:=HG.out;omega);clear ho2 hb2;have bx:=HBX.out.below HBy1.out (Nat.le_of_eq HG.out);have d6:=bx.cell 6 _ rfl;have d7:=bx.cell 7 _ rfl;have d8:=bx.cell 8 _ rfl;have d9:=bx.cell 9 _ rfl;have d10:=bx.cell 10 _ rfl;have dlt:=bx.lt;clear bx)
 clear HOy0 HFy0
 have HNy2:=Lib.hid (rfnum_any (w:=y1) na (by omega))
 refine HNy2.out.mono ?_
 rintro e y2 ⟨ay2,cy2,Ly2,rfl,ho3,hb3⟩
 have HOy2:=Lib.hid (own_below HOy1.out hb3 (fun q e=>(HOy1.out.lt q e).2))
 have HBy2:=Lib.hid (HBy1.out.trans (hb3.mono hsy1))
 have hsy2:G≤y2.heap.size:=Nat.le_trans hsy1 hb3.size
 have HRy2:=Lib.hid (Reads.of_own ho3)
 have HWy2:=Lib.hid (own_base ho3 hsy1)
 clear ho3 hb3 HNy2
 clear d6 d7 d8 d9 d10 dlt
 have bx:=HBX.out.below HBy2.out (Nat.le_of_eq HG.out)
 have d6:=bx.cell 6 _ rfl
 have d7:=bx.cell 7 _ rfl
 have d8:=bx.cell 8 _ rfl
 have d9:=bx.cell 9 _ rfl
 have d10:=bx.cell 10 _ rfl
 have dlt:=bx.lt
 clear bx
 have HAZ:=Lib.hid (fun(wz:World) (hb:Below G w1 wz)=>HAF.out.below hb (Nat.le_of_eq HG.out))
 go_wp2_with (first|(at_builtin;refine wpList_append_reads bytesOf (.tmp 27) (.tmp 31) rfl rfl (base:=G) (W0:=w1) rfl HOy2.out HBy2.out rfl HRy2.out (Bs_one _) (by omega) (by omega) hsy2 ?_;intro oby3 cqy3 y3 ho2 hb2;have HOy3:Hid (y3.ownsRow G 5 1 (.slice oby3 (56+nb+8) cqy3) (56+nb+8) ((L0++r.before++Ly2).map B)):=Lib.hid (by rw[List.map_append];exact ho2);have HBy3:=Lib.hid hb2;have hsy3:G≤y3.heap.size:=(by have h1:=hb2.size;have h2:=HG.out;omega);clear ho2 hb2;have bx:=HBX.out.below HBy3.out (Nat.le_of_eq HG.out);have d6:=bx.cell 6 _ rfl;have d7:=bx.cell 7 _ rfl;have d8:=bx.cell 8 _ rfl;have d9:=bx.cell 9 _ rfl;have d10:=bx.cell 10 _ rfl;have dlt:=bx.lt;clear bx)|(at_builtin;refine wpList_append_reads bytesOf (.tmp 33) (.tmp 35) rfl rfl (base:=G) (W0:=w1) rfl HOy3.out HBy3.out rfl (HAZ.out _ HBy3.out) (Bs_one _) (by omega) (by omega) hsy3 ?_;intro oby4 cqy4 y4 ho2 hb2;have HOy4:Hid (y4.ownsRow G 5 1 (.slice oby4 (56+nb+8+na) cqy4) (56+nb+8+na) ((L0++r.before++Ly2++r.after).map B)):=Lib.hid (by rw[List.map_append];exact ho2);have HBy4:=Lib.hid hb2;have hsy4:G≤y4.heap.size:=(by have h1:=hb2.size;have h2:=HG.out;omega);clear ho2 hb2;have bx:=HBX.out.below HBy4.out (Nat.le_of_eq HG.out);have d6:=bx.cell 6 _ rfl;have d7:=bx.cell 7 _ rfl;have d8:=bx.cell 8 _ rfl;have d9:=bx.cell 9 _ rfl;have d10:=bx.cell 10 _ rfl;have dlt:=bx.lt;clear bx))
 clear HOy1 HOy2 HOy3 HRy2 HWy2
 have HNy5:=Lib.hid (rfnum_any (w:=y4) 0 (by omega))
 refine HNy5.out.mono ?_
 rintro e y5 ⟨ay5,cy5,Ly5,rfl,ho3,hb3⟩
 have HOy5:=Lib.hid (own_below HOy4.out hb3 (fun q e=>(HOy4.out.lt q e).2))
 have HBy5:=Lib.hid (HBy4.out.trans (hb3.mono hsy4))
 have hsy5:G≤y5.heap.size:=Nat.le_trans hsy4 hb3.size
 have HRy5:=Lib.hid (Reads.of_own ho3)
 have HWy5:=Lib.hid (own_base ho3 hsy4)
 clear ho3 hb3 HNy5
 clear d6 d7 d8 d9 d10 dlt
 have bx:=HBX.out.below HBy5.out (Nat.le_of_eq HG.out)
 have d6:=bx.cell 6 _ rfl
 have d7:=bx.cell 7 _ rfl
 have d8:=bx.cell 8 _ rfl
 have d9:=bx.cell 9 _ rfl
 have d10:=bx.cell 10 _ rfl
 have dlt:=bx.lt
 clear bx
 go_wp2_with (at_builtin;refine wpList_append_reads bytesOf (.tmp 37) (.tmp 41) rfl rfl (base:=G) (W0:=w1) rfl HOy5.out HBy5.out rfl HRy5.out (Bs_one _) (by omega) (by omega) hsy5 ?_;intro oby6 cqy6 y6 ho2 hb2;have HOy6:Hid (y6.ownsRow G 5 1 (.slice oby6 (56+nb+8+na+8) cqy6) (56+nb+8+na+8) ((L0++r.before++Ly2++r.after++Ly5).map B)):=Lib.hid (by rw[List.map_append];exact ho2);have HBy6:=Lib.hid hb2;have hsy6:G≤y6.heap.size:=(by have h1:=hb2.size;have h2:=HG.out;omega);clear ho2 hb2;have bx:=HBX.out.below HBy6.out (Nat.le_of_eq HG.out);have d6:=bx.cell 6 _ rfl;have d7:=bx.cell 7 _ rfl;have d8:=bx.cell 8 _ rfl;have d9:=bx.cell 9 _ rfl;have d10:=bx.cell 10 _ rfl;have dlt:=bx.lt;clear bx)
 refine wp_loop_rounds 1 ?_
 rw[rounds_succ]
 go_wp2_with fail
 clear HOy4 HOy5 HRy5 HWy5
 have HNy7:=Lib.hid (rfnum_any (w:=y6) 0 (by omega))
 refine HNy7.out.mono ?_
 rintro e y7 ⟨ay7,cy7,Ly7,rfl,ho3,hb3⟩
 have HOy7:=Lib.hid (own_below HOy6.out hb3 (fun q e=>(HOy6.out.lt q e).2))
 have HBy7:=Lib.hid (HBy6.out.trans (hb3.mono hsy6))
 have hsy7:G≤y7.heap.size:=Nat.le_trans hsy6 hb3.size
 have HRy7:=Lib.hid (Reads.of_own ho3)
 have HWy7:=Lib.hid (own_base ho3 hsy6)
 clear ho3 hb3 HNy7
 clear d6 d7 d8 d9 d10 dlt
 have bx:=HBX.out.below HBy7.out (Nat.le_of_eq HG.out)
 have d6:=bx.cell 6 _ rfl
 have d7:=bx.cell 7 _ rfl
 have d8:=bx.cell 8 _ rfl
 have d9:=bx.cell 9 _ rfl
 have d10:=bx.cell 10 _ rfl
 have dlt:=bx.lt
 clear bx
 go_wp2_with (at_builtin;refine wpList_append_reads bytesOf (.tmp 72) (.tmp 76) rfl rfl (base:=G) (W0:=w1) rfl HOy7.out HBy7.out rfl HRy7.out (Bs_one _) (by omega) (by omega) hsy7 ?_;intro oby8 cqy8 y8 ho2 hb2;have HOy8:Hid (y8.ownsRow G 5 1 (.slice oby8 (56+nb+8+na+8+8) cqy8) (56+nb+8+na+8+8) ((L0++r.before++Ly2++r.after++Ly5++Ly7).map B)):=Lib.hid (by rw[List.map_append];exact ho2);have HBy8:=Lib.hid hb2;have hsy8:G≤y8.heap.size:=(by have h1:=hb2.size;have h2:=HG.out;omega);clear ho2 hb2;have bx:=HBX.out.below HBy8.out (Nat.le_of_eq HG.out);have d6:=bx.cell 6 _ rfl;have d7:=bx.cell 7 _ rfl;have d8:=bx.cell 8 _ rfl;have d9:=bx.cell 9 _ rfl;have d10:=bx.cell 10 _ rfl;have dlt:=bx.lt;clear bx)
 refine wp_loop_rounds 1 ?_
 rw[rounds_succ]
 go_wp2_with fail
 clear HOy6 HOy7 HRy7 HWy7
 have HNy9:=Lib.hid (rfnum_any (w:=y8) r.count HS.out.count)
 refine HNy9.out.mono ?_
 rintro e y9 ⟨ay9,cy9,Ly9,rfl,ho3,hb3⟩
 have HOy9:=Lib.hid (own_below HOy8.out hb3 (fun q e=>(HOy8.out.lt q e).2))
 have HBy9:=Lib.hid (HBy8.out.trans (hb3.mono hsy8))
 have hsy9:G≤y9.heap.size:=Nat.le_trans hsy8 hb3.size
 have HRy9:=Lib.hid (Reads.of_own ho3)
 have HWy9:=Lib.hid (own_base ho3 hsy8)
 clear ho3 hb3 HNy9
 clear d6 d7 d8 d9 d10 dlt
 have bx:=HBX.out.below HBy9.out (Nat.le_of_eq HG.out)
 have d6:=bx.cell 6 _ rfl
 have d7:=bx.cell 7 _ rfl
 have d8:=bx.cell 8 _ rfl
 have d9:=bx.cell 9 _ rfl
 have d10:=bx.cell 10 _ rfl
 have dlt:=bx.lt
 clear bx
 go_wp2_with (first|(at_builtin;refine wpList_append_reads bytesOf (.tmp 101) (.tmp 104) rfl rfl (base:=G) (W0:=w1) rfl HOy9.out HBy9.out rfl HRy9.out (Bs_one _) (by omega) (by omega) hsy9 ?_;intro oby10 cqy10 y10 ho2 hb2;have HOy10:Hid (y10.ownsRow G 5 1 (.slice oby10 (56+nb+8+na+8+8+8) cqy10) (56+nb+8+na+8+8+8) ((L0++r.before++Ly2++r.after++Ly5++Ly7++Ly9).map B)):=Lib.hid (by rw[List.map_append];exact ho2);have HBy10:=Lib.hid hb2;have hsy10:G≤y10.heap.size:=(by have h1:=hb2.size;have h2:=HG.out;omega);clear ho2 hb2;have bx:=HBX.out.below HBy10.out (Nat.le_of_eq HG.out);have d6:=bx.cell 6 _ rfl;have d7:=bx.cell 7 _ rfl;have d8:=bx.cell 8 _ rfl;have d9:=bx.cell 9 _ rfl;have d10:=bx.cell 10 _ rfl;have dlt:=bx.lt;clear bx)|(go_at_call 108;have HNy11:=Lib.hid (rfnum_any (w:=y10) (56+nb+8+na+8+8+8) (by omega));refine HNy11.out.mono ?_;rintro e y11 ⟨ay11,cy11,Ly11,rfl,ho3,hb3⟩;have HOy11:=Lib.hid (own_below HOy10.out hb3 (fun q e=>(HOy10.out.lt q e).2));have HBy11:=Lib.hid (HBy10.out.trans (hb3.mono hsy10));have hsy11:G≤y11.heap.size:=Nat.le_trans hsy10 hb3.size;have HRy11:=Lib.hid (Reads.of_own ho3);have HWy11:=Lib.hid (own_base ho3 hsy10);clear ho3 hb3 HNy11;have HRb:=Lib.hid (Reads.of_own HOy11.out))|(at_builtin;refine wpList_append_reads bytesOf (.tmp 108) (.tmp 109) rfl rfl (base:=G) (W0:=w1) rfl HWy11.out HBy11.out rfl HRb.out (Bs_one _) (by omega) (by omega) hsy11 ?_;intro ob cq y12 ho2 hb2;have HB12:=Lib.hid hb2;clear ho2 hb2))
 go_ret
 rw[HSZ.out]
 exact⟨ob,cq,by rw[show 8+(56+nb+8+na+8+8+8)=96+nb+na by omega];rfl,HAL.out.trans (HB12.out.mono (by have h1:=HAL.out.size;have h2:=HG.out;omega))⟩
end
end Go.Proofs.YtpajagkhmodbnaaGreat

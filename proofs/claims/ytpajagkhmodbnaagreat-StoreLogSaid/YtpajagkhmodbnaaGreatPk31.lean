/- Pk: texts of the store seat laid together by program: SvLaw. Conditions: each theorem names its own. -/
import Derived.Test.YtpajagkhmodbnaaGreatPk29
import Derived.Test.YtpajagkhmodbnaaGreatPk30
import Derived.Test.YtpajagkhmodbnaaGreatPk24
import Derived.Lib.SlBytesConst
namespace Go.Proofs.YtpajagkhmodbnaaGreat
set_option linter.unusedSimpArgs false
set_option linter.unusedVariables false
section
open Go.RowKit
theorem mark_cell(w:World)(C:Array Value)(t:TypeId)(fr:Nat×Nat)(j:Nat):(w.alloc (.cells C t fr)).cell? ⟨w.heap.size,j,none⟩=C[j]? := World.cell?_alloc_mark w C t fr j
theorem reads_mark(w:World)(l:List UInt8)(t:TypeId)(fr:Nat×Nat)(n:Nat)(hn:l.length=n):Reads 1 (w.alloc (.cells (l.map B).toArray t fr)) (.slice (some ⟨w.heap.size,0,none⟩) n n) n (l.map B):=
 ⟨_,_,rfl,by rw[List.length_map,hn,Nat.mul_one],Nat.le_refl _,fun _=>⟨w.heap.size,0,rfl,by simp,fun j u hu=>by
  rw[Nat.zero_add,mark_cell,List.getElem?_toArray];exact hu⟩⟩
def awC:Cf:=Cf.of 512
def aw0:St:=St.new 512 64
def aw1:St:=(aw0.begin_ awC).2.2
def awX:Tx:=⟨1,1,1,[]⟩
def aw2:St:=(aw1.write awC 0 awX 0 0 [97,98]).2
def awX2:Tx:=aw2.opn.headD awX
def aw3:St:=(aw2.rollback awC 0 awX2).2
def aw4:St:=(aw3.get awC 0).2.2
set_option maxRecDepth 100000 in
theorem aw_next:aw0.next=1:=by kernel_rfl
set_option maxRecDepth 100000 in
theorem aw_x:aw1.opn[0]? = some awX:=by kernel_rfl
set_option maxRecDepth 100000 in
theorem aw_x2:aw2.opn[0]? = some awX2:=by kernel_rfl
set_option maxRecDepth 100000 in
theorem aw_id:awX2.id=1:=by kernel_rfl
set_option maxRecDepth 100000 in
theorem aw_bytes:aw3.bytes awC 0 0 2=[0,0]:=by kernel_rfl
set_option maxRecDepth 100000 in
theorem aw_opn:aw4.opn=[]:=by kernel_rfl
set_option maxRecDepth 100000 in
theorem aw_len:aw4.lines.length=5:=by kernel_rfl
set_option maxRecDepth 100000 in
theorem aw_lsn:aw4.lines.map (fun x=>(x.1,x.2.kind))=[(1,1),(97,2),(197,5),(293,3),(391,6)]:=by kernel_rfl
set_option maxRecDepth 100000 in
theorem aw_busy:aw1.busy 1 0 0 2=false:=by kernel_rfl
set_option maxRecDepth 100000 in
theorem aw_wr:aw1.p.wr=0∧aw2.p.wr=0∧aw3.p.wr=0:=⟨by kernel_rfl,by kernel_rfl,by kernel_rfl⟩
theorem aw_cells(E:List Le)(h:(E.map (fun e=>(e.lsn,e.r))).map (fun x:Nat×Rc=>(x.1,x.2.kind))=[(1,1),(97,2),(197,5),(293,3),(391,6)]):(lcells E)[0]? = some (.int .i64 1)∧(lcells E)[49]? = some (.int .i64 6):=by
 rw[List.map_map]at h
 have hl:=congrArg List.length h
 rw[List.length_map]at hl
 match E,hl with
 | [a,b,c,d,e],_=>
  simp only[List.map_cons,List.map_nil,Function.comp,List.cons.injEq,Prod.mk.injEq,and_true]at h
  obtain⟨⟨h1,_⟩,_,_,_,⟨_,h2⟩⟩:=h
  refine⟨?_,?_⟩
  ·show some (Value.int .i64 (a.lsn:Nat))=_
   rw[h1];rfl
  ·show some (Value.int .i64 (e.r.kind:Nat))=_
   rw[h2];rfl
set_option maxRecDepth 100000 in
set_option maxHeartbeats 6400000 in
theorem awake7_any(w:World):Calls Tryz.prog 18 #[] w fun e w'=>e=.returned (.bool true)∧Below w.heap.size w w':=by
 have HO:=Lib.hid (lopen_any w w (Below.refl _ _) 512 64 (by decide) (by decide) (by decide) (by decide))
 go_enter Tryz.func18,Tryz.ntmps18
 go_wp2_with fail
 refine HO.out.mono ?_
 rintro e y1 ⟨A,S1,rfl,hnf,hsv,hsd,hS,hbl⟩
 have hf0:Fine awC 0 0 aw0:=new_fine 512 64 (by decide)
 have HB:=Lib.hid (begin_sv (σ:=aw0) (c:=awC) hsv hf0 (by decide) (by decide))
 have HF1:Hid (Fine awC 1 288 aw1):=Lib.hid (hf0.begin (by decide))
 have HSD1:Hid (StD awC 64 aw1 (fun _=>nz 504)):=Lib.hid (by
  unfold aw1
  rw[begin_eq aw0 awC (by decide +kernel)]
  exact hsd.congr rfl rfl)
 rw[aw_next]at HB
 clear hnf hsv hsd hS hbl hf0 HO
 go_wp2_with fail
 refine HB.out.mono ?_
 rintro e y2 ⟨S2,rfl,hsv,hft⟩
 have HSV2:Hid (SV w A awC aw1 S2 y2):=Lib.hid hsv
 clear hsv hft HB
 have HW:Hid (∀y3:World,Below y2.heap.size y2 y3→∀g,Reads 1 y3 (.slice (some ⟨g,0,none⟩) 2 2) 2 ([97,98].map B)→y2.heap.size≤g→g<y3.heap.size→Calls Tryz.prog 31 #[.pointer (some ⟨A.sb,0,none⟩),.int .i64 1,.int .i64 0,.int .i64 0,.slice (some ⟨g,0,none⟩) 2 2] y3 fun er w'=>∃S',er=.returned (.int .i64 0)∧SV w A awC aw2 S' w'∧Foot S2 S' y3 w'):=Lib.hid (fun y3 hbl g hrd hg hgl=>by
  have hs:=HSV2.out.below hbl
  exact write_sv hs HF1.out (by decide) (by rw[aw_wr.1];decide) aw_x 0 0 [97,98] (some ⟨g,0,none⟩) 2 2 hrd rfl (by decide) (by decide) aw_busy (fun q e=>by
   have e2:g=q:=(by simpa[Value.ownBlock]using e)
   subst e2
   exact⟨fun hS=>by have:=(HSV2.out.lt g hS).2;omega,hgl⟩) (by decide))
 have HF2:Hid (Fine awC 4 486 aw2):=Lib.hid (HF1.out.write (Cf.of_ok 512 (by decide)) HSD1.out aw_x 0 0 [97,98] (by decide) (by decide) (by decide)).2.1
 have hcv:=fun(w:World) (C:Array Value) (n:Nat)=>Lib.run_convert_bytes_const (P:=Tryz.prog) w 48 5 C n n Tryz.underlying48 Tryz.underlying5
 go_wp2_with fail
 refine(HW.out _ ((Below.refl y2.heap.size y2).alloc (Nat.le_refl _) _) _ (reads_mark y2 [97,98] _ _ 2 rfl) (Nat.le_refl _) (by simp)).mono ?_
 rintro e y4 ⟨S4,rfl,hsv,hft⟩
 have hrb:=rollback_sv hsv HF2.out (by decide) (by rw[aw_wr.2.1];decide) aw_x2
 rw[aw_id]at hrb
 have HRB:Hid (Calls Tryz.prog 30 #[.pointer (some ⟨A.sb,0,none⟩),.int .i64 1] y4 fun er w'=>∃S',er=.returned (.int .i64 0)∧SV w A awC aw3 S' w'∧Foot S4 S' y4 w'):=Lib.hid hrb
 clear hsv hft hrb HW
 go_wp2_with fail
 refine HRB.out.mono ?_
 rintro e y5 ⟨S5,rfl,hsv,hft⟩
 have hrd:=read_sv hsv 0 0 2 (by decide) (by decide) (by rw[aw_wr.2.2];decide)
 rw[aw_bytes]at hrd
 have HRD:Hid (Calls Tryz.prog 38 #[.pointer (some ⟨A.sb,0,none⟩),.int .i64 0,.int .i64 0,.int .i64 2] y5 fun er w'=>∃v S',er=.returned (.tuple #[v,.int .i64 0])∧w'.ownsRow y5.heap.size 5 1 v 2 (([0,0]:List UInt8).map B)∧([0,0]:List UInt8).length=2∧(∀q,v.ownBlock=some q→¬S' q)∧SV w A awC aw4 S' w'∧Foot S5 S' y5 w'):=Lib.hid hrd
 clear hsv hft hrd HRB
 go_wp2_with fail
 refine HRD.out.mono ?_
 rintro e y6 ⟨v6,S6,rfl,hrow,_,_,hsv,hft⟩
 have HR6:=Lib.hid (Reads.of_own hrow)
 clear hrow hft HRD
 obtain⟨vl,vo,EL,EO,K,S1,hat,rfl⟩:=hsv
 have hEL:EL.length=5:=by rw[←aw_len,hat.lis,List.length_map]
 have hEO:EO.length=0:=by have:=hat.olen;rw[aw_opn]at this;exact this.symm
 have HL:=Lib.hid (log_at hat (by rw[hEL];decide))
 have HAT:=Lib.hid hat
 clear hat hEL
 go_wp2_with fail
 refine HL.out.mono ?_
 rintro e y7 ⟨v7,EL7,K7,rfl,hrd7,hsec7,hmap7,hK7,hb7⟩
 rw[aw_len]at hrd7
 obtain⟨ha,hb⟩:=aw_cells EL7 (hmap7▸aw_lsn)
 obtain⟨a7,c7,rfl,hl7,hc7,hcell7⟩:=hrd7
 obtain⟨b7,o7,rfl,hbl7,hc⟩:=hcell7 (by decide)
 have z0:=hc 0 _ ha
 have z49:=hc 49 _ hb
 rw[Nat.add_zero]at z0
 obtain⟨a6,c6,e6,_⟩:=HR6.out
 have hR6:=HR6.out
 rw[e6]at hR6
 have hR67:Reads 1 y7 (.slice a6 2 c6) 2 (([0,0]:List UInt8).map B):=hR6.below hb7 (Nat.le_refl _)
 have HN:Hid (∀y8:World,Below y6.heap.size y6 y8→∀v,Calls Tryz.prog 31 #[.pointer (some ⟨A.sb,0,none⟩),.int .i64 9,.int .i64 0,.int .i64 0,v] y8 fun er w'=>er=.returned (.int .i64 61)∧w'=y8):=Lib.hid (fun y8 h8 v=>
  write_none (HAT.out.below h8) (by rw[hEO];decide) 9 0 0 v (by unfold St.of;rw[aw_opn];rfl))
 have HP:Hid (∀y8:World,Below y6.heap.size y6 y8→Calls Tryz.prog 22 #[.pointer (some ⟨A.sb,0,none⟩)] y8 fun e w'=>e=.returned (.int .i64 94)∧w'=y8):=Lib.hid (fun y8 h8=>spages_at (HAT.out.below h8))
 have HB7:=Lib.hid hb7
 have HBY:Hid (Below w.heap.size w y6):=Lib.hid HAT.out.bel
 clear HL hR6 hcell7 hl7 ha hb hmap7 hsec7 hK7 hb7 hc hEO
 go_wp2_with fail
 refine(layout_any y7 128 (by decide) (by decide)).mono ?_
 rintro e y8 ⟨rfl,rfl⟩
 rw[show layI 128=(32,22)from rfl]
 have hstr:(convert 48 9 (.slice a6 2 c6)).run Tryz.prog y8=.ok (.string ⟨#[0,0]⟩) y8:=run_str_reads Tryz.underlying48 Tryz.underlying5 Tryz.underlying9 [0,0] hR67
 go_wp2_with fail
 refine(HN.out _ (HB7.out.trans (((Below.refl y8.heap.size y8).alloc (Nat.le_refl _) _).mono HB7.out.size)) _).mono ?_
 rintro e y9 ⟨rfl,rfl⟩
 go_wp2_with fail
 refine(HP.out _ (HB7.out.trans (((Below.refl y8.heap.size y8).alloc (Nat.le_refl _) _).mono HB7.out.size))).mono ?_
 rintro e y9 ⟨rfl,rfl⟩
 go_wp2_with fail
 go_ret
 exact⟨rfl,HBY.out.trans ((HB7.out.trans (((Below.refl y8.heap.size y8).alloc (Nat.le_refl _) _).mono HB7.out.size)).mono HBY.out.size)⟩
end
end Go.Proofs.YtpajagkhmodbnaaGreat

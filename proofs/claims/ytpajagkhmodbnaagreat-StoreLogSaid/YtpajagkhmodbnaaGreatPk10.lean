/- Pk: texts of the store seat laid together by program: DvSync FlKit FlGather FlLay FlPlain FlHead FlWrite FlFile FlOpen SpPlain. Conditions: each theorem names its own. -/
import Derived.Test.YtpajagkhmodbnaaGreatPk9
import Derived.Deep.DeepCutAuto
import Derived.Deep.CutBlock
namespace Go.Proofs.YtpajagkhmodbnaaGreat
set_option linter.unusedSimpArgs false
set_option linter.unusedVariables false
section
open Go.RowKit
def WDs9(d gx gl nl cl yi cy:Nat)(ay:Option Addr)(vc:Value)(fu ca:Int)(de:Bool)(j b o:Nat):Prop:=False
def PDs9(d gx gl nl cl yi cy:Nat)(ay:Option Addr)(vc:Value)(fu ca:Int)(de:Bool)(i:Nat)(v:Value)(lo hi:Nat)(w:World):Prop:=
 match i with
 | 0=>v=.pointer (some ⟨d,0,none⟩)
 | 1=>v=.pointer (some ⟨d,0,none⟩)
 | 2=>v=.pointer (some ⟨d,0,none⟩)
 | 3=>v=.slice (some ⟨gl,0,none⟩) nl cl
 | 4=>v=.pointer (some ⟨gx,0,none⟩)
 | 5=>v=.int .i64 ((yi:Nat):Int)
 | 6=>v=.pointer (some ⟨gx,1,none⟩)
 | 7=>v=.slice ay 128 cy
 | 8=>v=.pointer (some ⟨gl,yi,none⟩)
 | _=>True
theorem PDs9_stable(d gx gl nl cl yi cy:Nat)(ay:Option Addr)(vc:Value)(fu ca:Int)(de:Bool)  : ∀i j,i<9→j<9→j≠i→j∉([[],[0],[0,1],[0,1,2],[],[4],[],[6],[0,1,2,3,4,5,6,7]]:List (List Nat)).getD i []→∀v lo hi w w',PDs9 d gx gl nl cl yi cy ay vc fu ca de i v lo hi w→GrowC (WDs9 d gx gl nl cl yi cy ay vc fu ca de j) w w'→PDs9 d gx gl nl cl yi cy ay vc fu ca de i v lo hi w':=by
 intro i j hi hj hne hbs v lo hj2 w w' h hg
 match i,hi with
 | 0,_|1,_|2,_|3,_|4,_|5,_|6,_|7,_|8,_=>
  simp only[PDs9]at h⊢
  exact h
 | (q+9),hq=>exact absurd hq (by omega)
theorem own_free{w:World}{base e K n cap g:Nat}{v:Value}{xs:List Value}(h:w.ownsRow base e K v n xs)(hv:v=.slice (some ⟨g,0,none⟩) n cap)(o:Nat):w.frozen? ⟨g,o,none⟩=false:=by
 subst hv
 rcases h.2 with ⟨h0,_⟩|⟨g',cap',cur,e0,_,hg,_⟩
 ·simp at h0
 ·injection e0 with e1 e2 e3
  injection e1 with e1
  injection e1 with e1
  subst e1
  exact frozen_of_row' hg o
theorem DvAt.drop{w:World}{G d:Nat}{D:Dv}{vl vc:Value}{EL:List Se}{EC:List Ce}{K:Nat→Prop}(h:DvAt w G d D vl vc EL EC K):
  DvAt (w.setCell ⟨d,1,none⟩ (.slice none 0 0)) G d { D with c:=[] } vl (.slice none 0 0) EL [] K∧GrowX (fun k=>k=d) w (w.setCell ⟨d,1,none⟩ (.slice none 0 0)):=by
 obtain⟨k1,k2⟩:=Box.set1 h.box 1 (.slice none 0 0)
 have k3:GrowX (fun k=>k=d) w (w.setCell ⟨d,1,none⟩ (.slice none 0 0)):=GrowX.of_growC k2 (fun k o h=>h.1)
 exact⟨⟨k1,own_growx h.lrow k3 (fun q e=>(h.kl q e).2.1),World.ownsRow_nil _ _ _ _,h.lis,rfl,fun e he=>(h.ltx e he).grow k3 (fun k hk e=>h.kd (e▸hk)),(fun e he=>by cases he),
  fun k hk=>⟨(h.kin k hk).1,Nat.lt_of_lt_of_le (h.kin k hk).2 k3.size⟩,h.kd,fun q e=>⟨(h.kl q e).1,(h.kl q e).2.1,fun e=>by cases e⟩,(fun q e=>by cases e),⟨h.ok.l,(fun x hx=>by cases hx),h.ok.n,h.ok.f1,h.ok.f2⟩⟩,k3⟩
def setAllE(E:List Se)(c:List Ce):List Se:=c.foldl (fun E e=>E.set e.1 (e.2.1,e.2.2)) E
theorem setAllE_length(E:List Se)(c:List Ce):(setAllE E c).length=E.length:=by
 induction c generalizing E with
 | nil=>rfl
 | cons x r ih=>show(setAllE (E.set x.1 (x.2.1,x.2.2)) r).length=_;rw[ih,List.length_set]
theorem setAllE_snoc(E:List Se)(c:List Ce)(x:Ce):setAllE E (c++[x])=(setAllE E c).set x.1 (x.2.1,x.2.2):=by simp[setAllE,List.foldl_append]
set_option maxRecDepth 100000 in
set_option maxHeartbeats 3200000 in
theorem dsync_dv{W0 w:World}{d:Nat}{D:Dv}{S:Nat→Prop}(h:DV W0 d D S w)(hdead:D.dead=false):
  Calls Tryz.prog 126 #[.pointer (some ⟨d,0,none⟩)] w fun e w'=>∃S',e=.returned (.int .i64 (eDead D.burn.1))∧DV W0 d D.sync S' w'∧Foot S S' w w':=by
 obtain⟨vl,vc,EL,EC,K,h1,h2,h3,rfl⟩:=h
 have c3:=h1.box.cell 3 _ rfl
 rw[hdead]at c3
 have hlt:=h1.box.lt
 obtain⟨nc,hnc⟩:∃n,EC.length=n:=⟨_,rfl⟩
 obtain⟨nl,hnl⟩:∃n,EL.length=n:=⟨_,rfl⟩
 obtain⟨ac,cc,evc⟩:=own_shape h1.crow
 rw[hnc]at evc
 have hncm:nc≤9223372036854775807:=by have:=own_max h1.crow;omega
 have HEC:=Lib.hid evc
 have HNC:=Lib.hid hnc
 have HNL:=Lib.hid hnl
 have H1:=Lib.hid h1
 have H3:=Lib.hid h3
 have hcall:=burn_at h1
 unfold Dv.sync
 clear h1 h3 hdead evc hnc hnl
 cases hbn:D.burn.1 with
 | false=>
  rw[hbn]at hcall
  have HC:=Lib.hid hcall
  clear hcall
  go_enter Tryz.func126,Tryz.ntmps126
  go_wp2_with fail
  refine HC.out.mono ?_
  rintro e w2 ⟨rfl,hat,hgr⟩
  have HA:=Lib.hid hat
  have HG:=Lib.hid hgr
  clear hat hgr
  simp only[eDead]
  go_wp2_with fail
  go_ret
  refine⟨rfl,_,⟨_,_,EL,EC,K,HA.out,h2,H3.out.trans (HG.out.below (fun k hk=>⟨Nat.lt_of_lt_of_le hk H3.out.size,fun e=>by omega⟩)),rfl⟩,⟨HG.out.mono (fun k e=>.inl e),fun k h=>.inl h⟩⟩
 | true=>
  rw[hbn]at hcall
  have HC:=Lib.hid hcall
  clear hcall
  go_enter Tryz.func126,Tryz.ntmps126
  go_wp2_with fail
  refine HC.out.mono ?_
  rintro e w2 ⟨rfl,hat,hgr⟩
  have HA:=Lib.hid hat
  have HG:=Lib.hid hgr
  have c1:=hat.box.cell 1 _ rfl
  rw[HEC.out]at c1
  have hlt2:=hat.box.lt
  clear hat hgr
  simp only[eDead]
  go_wp2_with fail
  go_loopw [20] (fun z wr=>∃j:Nat,j≤nc∧z=.int .i64 j∧DvAt wr W0.heap.size d { D.burn.2 with l:=setAll D.burn.2.l (D.burn.2.c.take j) } vl vc (setAllE EL (EC.take j)) EC K∧GrowX (fun k=>k=d∨vl.ownBlock=some k) w2 wr) (fun z _=>nc-(intOf z).toNat)
  case atStart=>exact⟨0,Nat.zero_le _,rfl,HA.out,GrowX.refl _⟩
  case round=>
   obtain⟨j,hj,rfl,hat,hgw⟩:=hrel
   have HAT:=Lib.hid hat
   have HGW:=Lib.hid hgw
   clear hat hgw
   by_cases hjn:j<nc
   case neg=>
    have hjb:decide (j<nc)=false:=by simpa using hjn
    have hbx:=HAT.out.box
    have cx1:=hbx.cell 1 _ rfl
    have cxf:=hbx.free
    have hltx:=hbx.lt
    clear hbx
    go_wp2_with fail
    go_ret
    obtain⟨k1,k2⟩:=HAT.out.drop
    have e1:D.burn.2.c.take j=D.burn.2.c:=List.take_of_length_le (by rw[HA.out.cis,List.length_map,HNC.out];omega)
    have e2:EC.take j=EC:=List.take_of_length_le (by rw[HNC.out];omega)
    rw[e1,e2]at k1
    have hs1:=HG.out.size
    have hs2:=HGW.out.size
    refine⟨rfl,_,⟨_,_,_,_,_,k1,h2,?_,rfl⟩,⟨((HG.out.mono (fun k e=>.inl e)).step HGW.out (fun q _ e=>e.elim .inl (fun e=>.inr (.inl e)))).step k2 (fun q _ e=>.inl e),?_⟩⟩
    ·refine H3.out.trans (Below.trans (HG.out.below (fun k hk=>⟨Nat.lt_of_lt_of_le hk H3.out.size,fun e=>by omega⟩)) (Below.trans (HGW.out.below (fun k hk=>⟨by have:=H3.out.size;omega,fun e=>e.elim (fun e=>by omega) (fun e=>by have:=(H1.out.lrow.lt k e).1;omega)⟩)) (k2.below (fun k hk=>⟨by have:=H3.out.size;omega,fun e=>by omega⟩))))
    ·rintro k (e|e|e|e)
     ·exact .inl (.inl e)
     ·exact .inl (.inr (.inl e))
     ·cases e
     ·exact .inl (.inr (.inr (.inr e)))
   have hjb:decide (j<nc)=true:=by simpa using hjn
   have HJN:=Lib.hid hjn
   have hje:j<EC.length:=by rw[HNC.out];exact hjn
   have hjc:j<D.burn.2.c.length:=by rw[HA.out.cis,List.length_map];exact hje
   have htk:D.burn.2.c.take (j+1)=D.burn.2.c.take j++[(EC[j].1,EC[j].2.1)]:=by
    rw[List.take_succ_eq_append_getElem hjc]
    congr 2
    simp only[HA.out.cis,List.getElem_map]
   have htk2:EC.take (j+1)=EC.take j++[EC[j]]:=List.take_succ_eq_append_getElem hje
   have hmem:EC[j]∈EC:=List.getElem_mem hje
   have hctx:=HAT.out.ctx EC[j] hmem
   have hok:=HA.out.ok.c (EC[j].1,EC[j].2.1) (by rw[HA.out.cis];exact List.mem_map_of_mem (f:=fun e:Ce=>(e.1,e.2.1)) hmem)
   rw[HA.out.lis,List.length_map,HNL.out]at hok
   obtain⟨b2,o2,c2,e2,hb2l,_,hc1,hc2⟩:=Ces.at (Reads.of_own HAT.out.crow) j hje EC[j] (List.getElem?_eq_getElem hje)
   have hll:=setAllE_length EL (EC.take j)
   obtain⟨gl,cl,evl,_,hgl,_,_⟩:=own_some HAT.out.lrow (fun e=>by
    rcases HAT.out.lrow.2 with ⟨_,h0⟩|⟨g,cap,cur,h',_⟩
    ·rw[hll,HNL.out]at h0;have:=hok.1;omega
    ·rw[e]at h';cases h')
   rw[hll,HNL.out]at evl
   rw[HEC.out]at e2
   injection e2 with e21 e22 e23
   subst e21 e23
   clear e22
   have HM:=Lib.hid hmem
   have HTK:=Lib.hid htk
   have HTK2:=Lib.hid htk2
   have HCX:=Lib.hid hctx
   generalize EC[j]=y at *
   obtain⟨yi,yl,yv⟩:=y
   obtain⟨ay,cy,hyv⟩:=hctx.1.shape
   simp only at hc1 hc2 hyv hok
   rw[hok.2]at hyv
   rw[hyv]at hc2
   have hyn:=hok.1
   have HVL:=Lib.hid evl
   have HYV:=Lib.hid hyv
   clear htk htk2 hctx hyv hok hjc hje hmem hll evl
   have hal:GrowX (fun _=>False) wr (wr.alloc (.cells #[.int .i64 (yi:Nat),.slice ay 128 cy] 130)):=grow_below ((Below.refl _ _).alloc (Nat.le_refl _) _)
   have bx:=Box.new wr #[.int .i64 (yi:Nat),.slice ay 128 cy] 130 rfl
   have hA6:=HAT.out.grow hal (fun h=>h) (fun _ _ h=>h) (fun _ _ h=>h) (fun _ _ h=>h)
   have HG6:=Lib.hid (HGW.out.step hal (fun _ _ h=>h.elim))
   obtain⟨fu,hfu⟩:∃f,D.burn.2.fuse=f:=⟨_,rfl⟩
   obtain⟨ca,hca⟩:∃f,D.burn.2.calls=f:=⟨_,rfl⟩
   obtain⟨de,hde⟩:∃f,D.burn.2.dead=f:=⟨_,rfl⟩
   have bd:=hA6.box
   simp only[hfu,hca,hde]at bd
   rw[HVL.out]at bd
   have HA6:=Lib.hid hA6
   clear hal hfu hca hde hA6
   go_upto_region 9 with (fail)
   obtain⟨gx,hgx⟩:∃g,wr.heap.size=g:=⟨_,rfl⟩
   rw[hgx]at bx⊢
   clear hgx
   generalize wr.alloc (.cells #[.int .i64 (yi:Nat),.slice ay 128 cy] 130)=w6 at *
   replace bx:Box w6 gx [.int .i64 (yi:Nat),.slice ay 128 cy]:=bx
   have hB:Below w6.heap.size w6 w6:=Below.refl _ _
   refine wp_region_partsDC (WDs9 d gx gl nl cl yi cy ay vc fu ca de) 9 [[],[0],[0,1],[0,1,2],[],[4],[],[6],[0,1,2,3,4,5,6,7]] [some 24,some 25,some 26,some 27,some 28,some 29,some 30,some 31,some 32,none] (by kernel_rfl) (by kernel_rfl) rfl (PDs9 d gx gl nl cl yi cy ay vc fu ca de) (PDs9_stable d gx gl nl cl yi cy ay vc fu ca de) ?pDs9 ?_
   case pDs9=>
    intro i hi o ho vs lo hx_ w' hg hp
    match i,hi with
    | 0,_|4,_|6,_=>
     obtain rfl:=Option.some.inj ho
     clear ho
     simp only[actsD,Act.put,actL]
     have hsz:=hg.size
     have hgB:Below w6.heap.size w6 w':=hg.below (fun k hk=>⟨hk,fun o=>by rintro⟨j,_,_,_,hw⟩;exact False.elim hw⟩)
     go_wp2
     exact⟨_,rfl,GrowC.refl _,rfl⟩
    | 1,_=>
     obtain rfl:=Option.some.inj ho
     clear ho
     simp only[actsD,Act.put,actL]
     obtain⟨_,_,_,h0⟩:=hp 0 (by simp)
     simp only[PDs9]at h0
     have hsz:=hg.size
     have hgB:Below w6.heap.size w6 w':=hg.below (fun k hk=>⟨hk,fun o=>by rintro⟨j,_,_,_,hw⟩;exact False.elim hw⟩)
     rw[h0]
     go_wp2
     exact⟨_,rfl,GrowC.refl _,rfl⟩
    | 2,_=>
     obtain rfl:=Option.some.inj ho
     clear ho
     simp only[actsD,Act.put,actL]
     obtain⟨_,_,_,h1⟩:=hp 1 (by simp)
     simp only[PDs9]at h1
     have hsz:=hg.size
     have hgB:Below w6.heap.size w6 w':=hg.below (fun k hk=>⟨hk,fun o=>by rintro⟨j,_,_,_,hw⟩;exact False.elim hw⟩)
     rw[h1]
     go_wp2
     exact⟨_,rfl,GrowC.refl _,rfl⟩
    | 3,_=>
     obtain rfl:=Option.some.inj ho
     clear ho
     simp only[actsD,Act.put,actL]
     obtain⟨_,_,_,h2⟩:=hp 2 (by simp)
     simp only[PDs9]at h2
     have hsz:=hg.size
     have hgB:Below w6.heap.size w6 w':=hg.below (fun k hk=>⟨hk,fun o=>by rintro⟨j,_,_,_,hw⟩;exact False.elim hw⟩)
     rw[h2]
     have e0:=(hg.cell (d) 0 bd.lt (by rintro⟨j,_,hne,hb,hw⟩;exact False.elim hw)).trans (bd.cell 0 _ rfl)
     go_wp2
     exact⟨_,rfl,GrowC.refl _,rfl⟩
    | 5,_=>
     obtain rfl:=Option.some.inj ho
     clear ho
     simp only[actsD,Act.put,actL]
     obtain⟨_,_,_,h4⟩:=hp 4 (by simp)
     simp only[PDs9]at h4
     have hsz:=hg.size
     have hgB:Below w6.heap.size w6 w':=hg.below (fun k hk=>⟨hk,fun o=>by rintro⟨j,_,_,_,hw⟩;exact False.elim hw⟩)
     rw[h4]
     have e0:=(hg.cell (gx) 0 bx.lt (by rintro⟨j,_,hne,hb,hw⟩;exact False.elim hw)).trans (bx.cell 0 _ rfl)
     go_wp2
     exact⟨_,rfl,GrowC.refl _,rfl⟩
    | 7,_=>
     obtain rfl:=Option.some.inj ho
     clear ho
     simp only[actsD,Act.put,actL]
     obtain⟨_,_,_,h6⟩:=hp 6 (by simp)
     simp only[PDs9]at h6
     have hsz:=hg.size
     have hgB:Below w6.heap.size w6 w':=hg.below (fun k hk=>⟨hk,fun o=>by rintro⟨j,_,_,_,hw⟩;exact False.elim hw⟩)
     rw[h6]
     have e0:=(hg.cell (gx) 1 bx.lt (by rintro⟨j,_,hne,hb,hw⟩;exact False.elim hw)).trans (bx.cell 1 _ rfl)
     go_wp2
     exact⟨_,rfl,GrowC.refl _,rfl⟩
    | 8,_=>
     obtain rfl:=Option.some.inj ho
     clear ho
     simp only[actsD,Act.put,actL]
     obtain⟨_,_,_,h3⟩:=hp 3 (by simp)
     simp only[PDs9]at h3
     obtain⟨_,_,_,h5⟩:=hp 5 (by simp)
     simp only[PDs9]at h5
     have hsz:=hg.size
     have hgB:Below w6.heap.size w6 w':=hg.below (fun k hk=>⟨hk,fun o=>by rintro⟨j,_,_,_,hw⟩;exact False.elim hw⟩)
     rw[h3,h5]
     have hq1:decide ((yi:Int)<(nl:Int))=true:=by simp;omega
     have hq2:decide ((yi:Int)<0)=false:=by simp
     have hq3:decide (yi<nl)=true:=by simp;omega
     go_wp2
     exact⟨_,rfl,GrowC.refl _,rfl⟩
    | (q+9),hq=>exact absurd hq (by omega)
   intro vS lo hi w5 hg hp hd
   obtain⟨_,_,_,h0⟩:=hp 0 (by decide)
   obtain⟨_,_,_,h1⟩:=hp 1 (by decide)
   obtain⟨_,_,_,h2⟩:=hp 2 (by decide)
   obtain⟨_,_,_,h3⟩:=hp 3 (by decide)
   obtain⟨_,_,_,h4⟩:=hp 4 (by decide)
   obtain⟨_,_,_,h5⟩:=hp 5 (by decide)
   obtain⟨_,_,_,h6⟩:=hp 6 (by decide)
   obtain⟨_,_,_,h7⟩:=hp 7 (by decide)
   obtain⟨_,_,_,h8⟩:=hp 8 (by decide)
   simp only[PDs9]at h0 h1 h2 h3 h4 h5 h6 h7 h8
   clear hp hd
   have hsz:=hg.size
   replace bd:=bd.grow hg (by intro i _;rintro⟨j,_,hw⟩;exact False.elim hw)
   replace bx:=bx.grow hg (by intro i _;rintro⟨j,_,hw⟩;exact False.elim hw)
   replace hB:=hB.trans (hg.below (fun k hk=>⟨by omega,fun o=>by rintro⟨j,_,hw⟩;exact False.elim hw⟩))
   have hr:List.range 9=[0,1,2,3,4,5,6,7,8]:=rfl
   rw[hr]
   clear hr
   simp only[List.drop_succ_cons,List.drop_zero,List.drop_nil,actsD,Act.put,actL,h0,h1,h2,h3,h4,h5,h6,h7,h8]
   clear h0 h1 h2 h3 h4 h5 h6 h7 h8
   have HA5:=Lib.hid (HA6.out.grow (X:=fun _=>False) (grow_below hB) (fun h=>h) (fun _ _ h=>h) (fun _ _ h=>h) (fun _ _ h=>h))
   have HG5:=Lib.hid (HG6.out.step (Y:=fun _=>False) (grow_below hB) (fun _ _ h=>h.elim))
   have hyE:yi<(setAllE EL (EC.take j)).length:=by rw[setAllE_length,HNL.out];exact hyn
   obtain⟨b3,o3,c3,e3,_,_,hcold⟩:=Reads.at (Reads.of_own HA5.out.lrow) yi hyE _ (by rw[List.getElem?_map,List.getElem?_eq_getElem hyE];rfl)
   rw[HVL.out]at e3
   injection e3 with e31 e32 e33
   injection e31 with e31
   injection e31 with e31 e34
   subst e31 e34
   simp only[Nat.zero_add]at hcold
   have hvl5:vl=.slice (some ⟨gl,0,none⟩) (setAllE EL (EC.take j)).length cl:=by rw[setAllE_length,HNL.out];exact HVL.out
   have hfz:=fun o=>own_free HA5.out.lrow hvl5 o
   clear hvl5
   have hgl5:gl<w5.heap.size:=HA5.out.lrow.lt gl (by rw[HVL.out];rfl) |>.2
   generalize ((setAllE EL (EC.take j))[yi]).2=vold at hcold
   have HYE:=Lib.hid hyE
   clear hB bx bd hyE e32 e33
   go_wp2_with fail
   go_roundw
   case rel=>
    refine⟨j+1,by have:=HJN.out;omega,by go_num,?_,?_⟩
    ·have:=HA5.out.lset (gl:=gl) (cl:=cl) (by rw[setAllE_length,HNL.out];exact HVL.out) yi HYE.out (yi,yl,yv) HM.out
     rw[HTK.out,setAll_snoc,HTK2.out,setAllE_snoc]
     simp only[HYV.out]at this
     simp only[HYV.out]
     exact this
    ·exact HG5.out.step (growX_setCell w5 gl yi _) (fun q _ e=>.inr (by rw[HVL.out,e];rfl))
   case measure=>have:=HJN.out;simp[intOf];omega
end
section
open Go.RowKit
def FileBox(w:World)(f d:Nat)(fr pg:Nat)(de:Bool):Prop:=Box w f [.pointer (some ⟨d,0,none⟩),.int .i64 (fr:Nat),.int .i64 (pg:Nat),.bool de]
theorem home_at{w:World}{f d fr pg:Nat}{de:Bool}(h:FileBox w f d fr pg de)(hf:fr≤1048576)(p:Nat)(hp:p≤1048576):
  Calls Tryz.prog 114 #[.pointer (some ⟨f,0,none⟩),.int .i64 (p:Nat)] w fun e w'=>e=.returned (.int .i64 ((fr+5+4*p:Nat):Int))∧w'=w:=by
 have c1:=h.cell 1 _ rfl
 have hlt:=h.lt
 clear h
 go_enter Tryz.func114,Tryz.ntmps114
 go_wp2_with fail
 go_ret
 refine⟨ret_v ?_,rfl⟩
 show Value.int .i64 _=_
 congr 1
theorem pages_at{w:World}{f d fr pg:Nat}{de:Bool}(h:FileBox w f d fr pg de):
  Calls Tryz.prog 51 #[.pointer (some ⟨f,0,none⟩)] w fun e w'=>e=.returned (.int .i64 (pg:Nat))∧w'=w:=by
 have c1:=h.cell 2 _ rfl
 have hlt:=h.lt
 clear h
 go_enter Tryz.func51,Tryz.ntmps51
 go_wp2_with fail
 go_ret
 exact⟨rfl,rfl⟩
end
section
open Go.RowKit
def secsD(D:Dv)(q:Nat):Nat→List UInt8
 | 0=>[]
 | k+1=>secsD D q k++D.sec (q+k)
theorem secsD_len{D:Dv}(h:D.ok){q:Nat}:∀{k:Nat},q+k≤D.l.length→(secsD D q k).length=128*k
 | 0,_=>rfl
 | k+1,hk=>by
  rw[secsD,List.length_append,secsD_len h (by omega),Dv.sec_len h (by omega)]
  omega
theorem Buf.cell{w:World}{g:Nat}{l:List UInt8}(h:Buf w g l)(j:Nat)(u:Value)(hu:(l.map B)[j]? = some u):w.cell? ⟨g,j,none⟩=some u:=by
 have h':w.heap[g]? = some (.cells (l.map B).toArray 5 (0,0)):=h
 simp[World.cell?,h',←hu]
set_option maxRecDepth 100000 in
set_option maxHeartbeats 1600000 in
theorem gather_dv{W0 w:World}{f d fr pg:Nat}{de:Bool}{D:Dv}{S:Nat→Prop}(hf:FileBox w f d fr pg de)(hfS:¬S f)(h:DV W0 d D S w)(hdead:D.dead=false)(q:Nat)(hq:q+4≤D.l.length):
  Calls Tryz.prog 112 #[.pointer (some ⟨f,0,none⟩),.int .i64 (q:Nat)] w fun e w'=>∃(v:Value)(cc:Int),e=.returned (.tuple #[v,.int .i64 0])∧w'.ownsRow w.heap.size 5 1 v 512 ((secsD D q 4).map B)∧DV W0 d { D with calls:=cc } S w'∧GrowX (fun k=>k=d) w w':=by
 have hq2:q≤8192:=by have:=h.ok.n;omega
 have HQ:=Lib.hid hq
 have HF:=Lib.hid hf
 have HD:=Lib.hid h
 have HDD:=Lib.hid hdead
 have hfd:f≠d:=by
  rintro rfl
  obtain⟨_,_,_,_,_,_,_,_,rfl⟩:=h
  exact hfS (.inl rfl)
 clear hq hf h hdead
 go_enter Tryz.func112,Tryz.ntmps112
 go_wp2_with fail
 go_loopw [6,10] (fun s z wr=>∃(k m cb:Nat)(bo:Option Addr)(cc:Int),k≤4∧z=.int .i64 k∧s=.slice bo m cb∧m=128*k∧wr.ownsRow w.heap.size 5 1 (.slice bo m cb) m ((secsD D q k).map B)∧DV W0 d { D with calls:=cc } S wr∧GrowX (fun k=>k=d) w wr) (fun _ z _=>4-(intOf z).toNat)
 case atStart=>exact⟨0,0,0,none,D.calls,Nat.zero_le _,rfl,rfl,rfl,World.ownsRow_nil _ _ _ _,HD.out,GrowX.refl _⟩
 case round=>
  obtain⟨k,m,cb,bo,cc,hk,rfl,rfl,hm,hown,hdv,hgw⟩:=hrel
  have HM:=Lib.hid hm
  have hm512:m≤512:=by omega
  clear hm
  have HO:=Lib.hid hown
  have HV:=Lib.hid hdv
  have HG:=Lib.hid hgw
  have c1:=(HF.out.growx hgw hfd).cell 0 _ rfl
  have hlf:=(HF.out.growx hgw hfd).lt
  clear hown hdv hgw
  by_cases hk4:k<4
  case neg=>
   have hb:decide ((k:Int)<4)=false:=by simp;omega
   obtain rfl:k=4:=by omega
   go_wp2_with fail
   go_ret2
   obtain rfl:=HM.out
   exact⟨_,cc,rfl,HO.out,HV.out,HG.out⟩
  have hb:decide ((k:Int)<4)=true:=by simp;omega
  have hwr:wrap64 ((q:Int)+(k:Int))=((q+k:Nat):Int):=by rw[wrap64];omega
  go_wp2_with fail
  refine(dread_dv HV.out HDD.out (q+k) (by have:=HQ.out;show q+k<D.l.length;omega)).mono ?_
  rintro e w3 ⟨g,rfl,hdv3,hbuf,hg,hgr⟩
  have HV3:=Lib.hid hdv3
  have HB3:=Lib.hid hbuf
  have HG3:=Lib.hid (HG.out.step hgr (fun _ _ e=>e))
  have hdl:=(HV.out.lt d (by obtain⟨_,_,_,_,_,_,_,_,rfl⟩:=HV.out;exact .inl rfl)).2
  have HO3:Hid (w3.ownsRow w.heap.size 5 1 (.slice bo m cb) m ((secsD D q k).map B)):=Lib.hid (own_growx HO.out hgr (fun a e1 e2=>by
   have h1:=(HO.out.lt a e1).1
   have h2:d<w.heap.size:=(HD.out.lt d (by obtain⟨_,_,_,_,_,_,_,_,rfl⟩:=HD.out;exact .inl rfl)).2
   omega))
  have hsl:(D.sec (q+k)).length=128:=Dv.sec_len HD.out.ok (by have:=HQ.out;omega)
  have HSL:=Lib.hid hsl
  have hws:w.heap.size≤w3.heap.size:=HG3.out.size
  clear hdv3 hbuf hgr hsl c1 hlf
  go_wp2_with (at_builtin;refine wpList_append_k bytesOf (.tmp 27) (.tmp 28) rfl rfl (base:=w.heap.size) rfl HO3.out (m:=128) (c:=128) rfl (by rw[List.length_map,HSL.out]) (news:=(D.sec (q+k)).map B) (by intro j u hu;rw[Addr.add_lit,Nat.zero_add];exact HB3.out.cell j u hu) (Bs_one _) (by omega) (by omega) (by omega) (by omega) ?_;intro ob cp wq hownq hgrq horq)
  have hgx:GrowX (fun b=>(Value.slice bo m cb).ownBlock=some b) w3 wq:=GrowX.of_growC hgrq (fun k o h=>h.1)
  have hgnew:∀k,(Value.slice bo m cb).ownBlock=some k→w.heap.size≤k:=fun k e=>(HO3.out.lt k e).1
  have HQW:=Lib.hid hownq
  have HQV:Hid (DV W0 d { D with calls:=wrapC cc } S wq):=Lib.hid (HV3.out.grow hgx (fun k hs e=>by have:=hgnew k e;have:=(HD.out.lt k hs).2;omega)
   (HV3.out.bel.trans (hgx.below (fun k hk=>⟨Nat.lt_of_lt_of_le hk HV3.out.bel.size,fun e=>by have:=hgnew k e;have:=HD.out.bel.size;omega⟩))))
  have HQG:Hid (GrowX (fun k=>k=d) w wq):=Lib.hid (HG3.out.step hgx (fun k hk e=>by have:=hgnew k e;omega))
  clear hownq hgrq horq hgx hgnew
  go_roundw
  ·refine⟨k+1,m+128,cp,some ⟨ob,0,none⟩,wrapC cc,by omega,by simp,rfl,by have:=HM.out;omega,?_,HQV.out,HQG.out⟩
   have:=HQW.out
   rw[secsD,List.map_append]
   exact this
  ·simp[intOf];omega
end
section
open Go.RowKit
def chunk(b:List UInt8)(k:Nat):List UInt8:=(b.drop (128*k)).take 128
theorem chunk_len{b:List UInt8}{n k:Nat}(h:b.length=128*n)(hk:k<n):(chunk b k).length=128:=by
 rw[chunk,List.length_take,List.length_drop];omega
theorem Reads.growx{X:Nat→Prop}{K n:Nat}{w w':World}{v:Value}{xs:List Value}(h:Reads K w v n xs)(hg:GrowX X w w')(hX:∀b,v.ownBlock=some b→¬X b):Reads K w' v n xs:=by
 obtain⟨ao,c,rfl,hl,hc,hr⟩:=h
 refine⟨ao,c,rfl,hl,hc,fun h0=>?_⟩
 obtain⟨b,o,rfl,hb,hcell⟩:=hr h0
 refine⟨b,o,rfl,Nat.lt_of_lt_of_le hb hg.size,fun j u hj=>?_⟩
 rw[←hcell j u hj]
 exact World.cell?_of_block (w:=w) (hg.block b hb (hX b rfl))
theorem Dv.write_facts{D:Dv}(h:D.burn.1=true)(i:Nat)(l:List UInt8):(D.write i l).dead=D.dead∧(D.write i l).l=D.l∧(D.write i l).c=D.c++[(i,l)]:=by
 have hb:=Dv.burn_l D
 have hc:=Dv.burn_cases D
 unfold Dv.write
 rw[if_pos h]
 refine⟨?_,hb.1,by rw[hb.2]⟩
 rcases hc with hc|hc|hc
 ·rw[hc.2.1]at h;cases h
 ·exact hc.2.2.2.1
 ·exact hc.2.2.2.2.1
def Dv.layR(q:Nat)(b:List UInt8):Nat→Nat→Dv→Bool×Dv
 | 0,_,D=>(D.burn.1,D.sync)
 | m+1,k,D=>if D.burn.1 then Dv.layR q b m (k+1) (D.write (q+k) (chunk b k))else(false,D.write (q+k) (chunk b k))
theorem Reads.sub{w:World}{bq oq cv n k:Nat}{b:List UInt8}(hb:b.length=128*n)(h:Reads 1 w (.slice (some ⟨bq,oq,none⟩) (128*n) cv) (128*n) (b.map B))(hk:k<n):Reads 1 w (.slice (some ⟨bq,oq+128*k,none⟩) 128 (cv-128*k)) 128 ((chunk b k).map B):=by
 obtain⟨a,c,e,hl,hc,hr⟩:=h
 injection e with e1 e2 e3
 subst e1;subst e3
 obtain⟨b2,o2,e4,hlt,hcell⟩:=hr (by omega)
 injection e4 with e5
 injection e5 with e5 e6
 subst e5;subst e6
 refine⟨_,_,rfl,by rw[List.length_map,chunk_len hb hk],by omega,fun _=>⟨bq,oq+128*k,rfl,hlt,fun j u hu=>?_⟩⟩
 rw[Nat.add_assoc]
 apply hcell
 rw[←hu,List.getElem?_map,List.getElem?_map,chunk,List.getElem?_take,List.getElem?_drop]
 have hj:j<128:=by
  apply Classical.byContradiction
  intro hc
  rw[List.getElem?_eq_none (by rw[List.length_map,chunk_len hb hk];omega)]at hu
  cases hu
 rw[if_pos hj]
def WFl4(f d fr pg q nn k bq oq cv:Nat)(de:Bool)(j b o:Nat):Prop:=False
def PFl4(f d fr pg q nn k bq oq cv:Nat)(de:Bool)(i:Nat)(v:Value)(lo hi:Nat)(w:World):Prop:=
 match i with
 | 0=>v=.pointer (some ⟨f,0,none⟩)
 | 1=>v=.pointer (some ⟨f,0,none⟩)
 | 2=>v=.pointer (some ⟨f,0,none⟩)
 | 3=>v=.pointer (some ⟨d,0,none⟩)
 | 4=>v=.int .i64 ((q:Nat):Int)
 | 5=>v=.int .i64 ((k:Nat):Int)
 | 6=>v=.int .i64 ((q+k:Nat):Int)
 | 7=>v=.slice (some ⟨bq,oq,none⟩) nn cv
 | 8=>v=.int .i64 ((k:Nat):Int)
 | 9=>v=.int .i64 ((128*k:Nat):Int)
 | 10=>v=.int .i64 ((k:Nat):Int)
 | 11=>v=.int .i64 ((128*k:Nat):Int)
 | 12=>v=.int .i64 ((128*k+128:Nat):Int)
 | 13=>v=.slice (some ⟨bq,oq+128*k,none⟩) 128 (cv-128*k)
 | _=>True
theorem PFl4_stable(f d fr pg q nn k bq oq cv:Nat)(de:Bool)  : ∀i j,i<14→j<14→j≠i→j∉([[],[0],[0,1],[0,1,2],[],[],[4,5],[],[],[8],[],[10],[10,11],[7,8,9,10,11,12]]:List (List Nat)).getD i []→∀v lo hi w w',PFl4 f d fr pg q nn k bq oq cv de i v lo hi w→GrowC (WFl4 f d fr pg q nn k bq oq cv de j) w w'→PFl4 f d fr pg q nn k bq oq cv de i v lo hi w':=by
 intro i j hi hj hne hbs v lo hj2 w w' h hg
 match i,hi with
 | 0,_|1,_|2,_|3,_|4,_|5,_|6,_|7,_|8,_|9,_|10,_|11,_|12,_|13,_=>
  simp only[PFl4]at h⊢
  exact h
 | (q+14),hq=>exact absurd hq (by omega)
set_option maxRecDepth 100000 in
set_option maxHeartbeats 3200000 in
theorem lay_dv{W0 w:World}{f d fr pg:Nat}{de:Bool}{D:Dv}{S:Nat→Prop}(hf:FileBox w f d fr pg de)(hfS:¬S f)(h:DV W0 d D S w)(hdead:D.dead=false)(q n:Nat)(hn:0<n)(hq:q+n≤D.l.length)(hcl:D.c.length+n≤1048576)
  (b:List UInt8) (hb:b.length=128*n) (v:Value) (hv:Reads 1 w v (128*n) (b.map B)) (hsl:∀k,v.ownBlock=some k→¬S k):
  Calls Tryz.prog 113 #[.pointer (some ⟨f,0,none⟩),.int .i64 (q:Nat),v] w fun e w'=>∃S',e=.returned (.int .i64 (eDead (Dv.layR q b n 0 D).1))∧DV W0 d (Dv.layR q b n 0 D).2 S' w'∧Foot S S' w w':=by
 obtain⟨av,cv,rfl,hlm,hvc,hvr⟩:=hv
 obtain⟨bq,oq,rfl,hbq,hcell⟩:=hvr (by omega)
 have hv:Reads 1 w (.slice (some ⟨bq,oq,none⟩) (128*n) cv) (128*n) (b.map B):=⟨_,_,rfl,hlm,hvc,fun _=>⟨bq,oq,rfl,hbq,hcell⟩⟩
 have hln:=h.ok.n
 have hvm:128*n≤cv:=hvc
 obtain⟨nn,hnn⟩:∃k,128*n=k:=⟨_,rfl⟩
 rw[hnn]at hv hvm⊢
 have hfw:f<w.heap.size:=hf.lt
 have hnn2:nn≤1048576:=by omega
 have HN:=Lib.hid hnn
 have HV:=Lib.hid hv
 have HF:=Lib.hid hf
 have HD:=Lib.hid h
 have HB:=Lib.hid hb
 have HSL:=Lib.hid (hsl bq rfl)
 have HFS:=Lib.hid hfS
 have HQ:=Lib.hid hq
 have hq2:q≤8192:=by omega
 clear hvc hvr hcell hlm hv hf h hb hsl hfS
 go_enter Tryz.func113,Tryz.ntmps113
 go_wp2_with fail
 go_loopw [7] (fun z wr=>∃(k:Nat)(Dk:Dv)(Sk:Nat→Prop),k≤n∧z=.int .i64 k∧Dv.layR q b n 0 D=Dv.layR q b (n-k) k Dk∧Dk.dead=false∧Dk.l.length=D.l.length∧Dk.c.length+(n-k)≤1048576∧DV W0 d Dk Sk wr∧Foot S Sk w wr) (fun z _=>n-(intOf z).toNat)
 case atStart=>exact⟨0,D,S,Nat.zero_le _,rfl,by rw[Nat.sub_zero],hdead,rfl,hcl,HD.out,Foot.below (GrowX.refl _)⟩
 case round=>
  obtain⟨k,Dk,Sk,hk,rfl,hlay,hdk,hlk,hck,hdv,hft⟩:=hrel
  have HLY:=Lib.hid hlay
  have HDK:=Lib.hid hdk
  have HLK:=Lib.hid hlk
  have HCK:=Lib.hid hck
  have HDV:=Lib.hid hdv
  have HFT:=Lib.hid hft
  have hfS2:¬Sk f:=fun hs=>(hft.new f hs).elim HFS.out (fun e=>by omega)
  have hbS2:¬Sk bq:=fun hs=>(hft.new bq hs).elim HSL.out (fun e=>by omega)
  have HFK:Hid (FileBox wr f d fr pg de):=Lib.hid (HF.out.growx hft.grow HFS.out)
  have HFS2:=Lib.hid hfS2
  have HBS2:=Lib.hid hbS2
  clear hlay hdk hlk hck hdv hft hfS2 hbS2
  have bf:Box wr f [.pointer (some ⟨d,0,none⟩),.int .i64 (fr:Nat),.int .i64 (pg:Nat),.bool de]:=HFK.out
  have c0:=bf.cell 0 _ rfl
  have hlf:=bf.lt
  by_cases hkn:k<n
  case neg=>
   obtain rfl:k=n:=by omega
   have hwr:wrap64 ((k:Int)*128)=(nn:Int):=by have:=HN.out;rw[wrap64];omega
   go_wp2_with fail
   refine(dsync_dv HDV.out HDK.out).mono ?_
   rintro e w2 ⟨S2,rfl,hdv2,hft2⟩
   have H2:=Lib.hid hdv2
   have H3:=Lib.hid hft2
   clear hdv2 hft2
   go_wp2_with fail
   go_ret
   rw[HLY.out,Nat.sub_self]
   exact⟨S2,rfl,H2.out,HFT.out.trans H3.out⟩
  have hwr:wrap64 ((k:Int)*128)=((128*k:Nat):Int):=by rw[wrap64];omega
  have hb1:decide (128*(k:Int)<(nn:Int))=true:=by have:=HN.out;simp;omega
  have hb2:decide (((128*k:Nat):Int)<(nn:Int))=true:=by have:=HN.out;simp;omega
  have hkn2:128*k+128≤nn:=by have:=HN.out;omega
  go_upto_region 4 with (fail)
  have hB:Below wr.heap.size wr wr:=Below.refl _ _
  clear c0 hlf hwr hb1 hb2
  refine wp_region_partsDC (WFl4 f d fr pg q nn k bq oq cv de) 14 [[],[0],[0,1],[0,1,2],[],[],[4,5],[],[],[8],[],[10],[10,11],[7,8,9,10,11,12]] [some 16,some 17,some 18,some 19,some 20,some 21,some 22,some 23,some 24,some 25,some 26,some 27,some 28,some 29,some 30,some 8] (by kernel_rfl) (by kernel_rfl) rfl (PFl4 f d fr pg q nn k bq oq cv de) (PFl4_stable f d fr pg q nn k bq oq cv de) ?pFl4 ?_
  case pFl4=>
   intro i hi o ho vs lo hx_ w' hg hp
   match i,hi with
   | 0,_|4,_|5,_|7,_|8,_|10,_=>
    obtain rfl:=Option.some.inj ho
    clear ho
    simp only[actsD,Act.put,actL]
    have hsz:=hg.size
    have hgB:Below wr.heap.size wr w':=hg.below (fun k hk=>⟨hk,fun o=>by rintro⟨j,_,_,_,hw⟩;exact False.elim hw⟩)
    go_wp2
    exact⟨_,rfl,GrowC.refl _,rfl⟩
   | 1,_=>
    obtain rfl:=Option.some.inj ho
    clear ho
    simp only[actsD,Act.put,actL]
    obtain⟨_,_,_,h0⟩:=hp 0 (by simp)
    simp only[PFl4]at h0
    have hsz:=hg.size
    have hgB:Below wr.heap.size wr w':=hg.below (fun k hk=>⟨hk,fun o=>by rintro⟨j,_,_,_,hw⟩;exact False.elim hw⟩)
    rw[h0]
    go_wp2
    exact⟨_,rfl,GrowC.refl _,rfl⟩
   | 2,_=>
    obtain rfl:=Option.some.inj ho
    clear ho
    simp only[actsD,Act.put,actL]
    obtain⟨_,_,_,h1⟩:=hp 1 (by simp)
    simp only[PFl4]at h1
    have hsz:=hg.size
    have hgB:Below wr.heap.size wr w':=hg.below (fun k hk=>⟨hk,fun o=>by rintro⟨j,_,_,_,hw⟩;exact False.elim hw⟩)
    rw[h1]
    go_wp2
    exact⟨_,rfl,GrowC.refl _,rfl⟩
   | 3,_=>
    obtain rfl:=Option.some.inj ho
    clear ho
    simp only[actsD,Act.put,actL]
    obtain⟨_,_,_,h2⟩:=hp 2 (by simp)
    simp only[PFl4]at h2
    have hsz:=hg.size
    have hgB:Below wr.heap.size wr w':=hg.below (fun k hk=>⟨hk,fun o=>by rintro⟨j,_,_,_,hw⟩;exact False.elim hw⟩)
    rw[h2]
    have e0:=(hg.cell (f) 0 bf.lt (by rintro⟨j,_,hne,hb,hw⟩;exact False.elim hw)).trans (bf.cell 0 _ rfl)
    go_wp2
    exact⟨_,rfl,GrowC.refl _,rfl⟩
   | 6,_=>
    obtain rfl:=Option.some.inj ho
    clear ho
    simp only[actsD,Act.put,actL]
    obtain⟨_,_,_,h4⟩:=hp 4 (by simp)
    simp only[PFl4]at h4
    obtain⟨_,_,_,h5⟩:=hp 5 (by simp)
    simp only[PFl4]at h5
    have hsz:=hg.size
    have hgB:Below wr.heap.size wr w':=hg.below (fun k hk=>⟨hk,fun o=>by rintro⟨j,_,_,_,hw⟩;exact False.elim hw⟩)
    rw[h4,h5]
    go_wp2
    refine⟨_,rfl,GrowC.refl _,?_⟩
    simp only[PFl4]
    congr 1
    try rw[wrap64]
    first|done|omega
   | 9,_=>
    obtain rfl:=Option.some.inj ho
    clear ho
    simp only[actsD,Act.put,actL]
    obtain⟨_,_,_,h8⟩:=hp 8 (by simp)
    simp only[PFl4]at h8
    have hsz:=hg.size
    have hgB:Below wr.heap.size wr w':=hg.below (fun k hk=>⟨hk,fun o=>by rintro⟨j,_,_,_,hw⟩;exact False.elim hw⟩)
    rw[h8]
    go_wp2
    refine⟨_,rfl,GrowC.refl _,?_⟩
    simp only[PFl4]
    congr 1
    try rw[wrap64]
    first|done|omega
   | 11,_=>
    obtain rfl:=Option.some.inj ho
    clear ho
    simp only[actsD,Act.put,actL]
    obtain⟨_,_,_,h10⟩:=hp 10 (by simp)
    simp only[PFl4]at h10
    have hsz:=hg.size
    have hgB:Below wr.heap.size wr w':=hg.below (fun k hk=>⟨hk,fun o=>by rintro⟨j,_,_,_,hw⟩;exact False.elim hw⟩)
    rw[h10]
    go_wp2
    refine⟨_,rfl,GrowC.refl _,?_⟩
    simp only[PFl4]
    congr 1
    try rw[wrap64]
    first|done|omega
   | 12,_=>
    obtain rfl:=Option.some.inj ho
    clear ho
    simp only[actsD,Act.put,actL]
    obtain⟨_,_,_,h11⟩:=hp 11 (by simp)
    simp only[PFl4]at h11
    have hsz:=hg.size
    have hgB:Below wr.heap.size wr w':=hg.below (fun k hk=>⟨hk,fun o=>by rintro⟨j,_,_,_,hw⟩;exact False.elim hw⟩)
    rw[h11]
    go_wp2
    refine⟨_,rfl,GrowC.refl _,?_⟩
    simp only[PFl4]
    congr 1
    try rw[wrap64]
    first|done|omega
   | 13,_=>
    obtain rfl:=Option.some.inj ho
    clear ho
    simp only[actsD,Act.put,actL]
    obtain⟨_,_,_,h7⟩:=hp 7 (by simp)
    simp only[PFl4]at h7
    obtain⟨_,_,_,h9⟩:=hp 9 (by simp)
    simp only[PFl4]at h9
    obtain⟨_,_,_,h12⟩:=hp 12 (by simp)
    simp only[PFl4]at h12
    have hsz:=hg.size
    have hgB:Below wr.heap.size wr w':=hg.below (fun k hk=>⟨hk,fun o=>by rintro⟨j,_,_,_,hw⟩;exact False.elim hw⟩)
    rw[h7,h9,h12]
    go_wp2
    have e13:128*k+128-128*k=128:=by omega
    rw[e13]
    exact⟨_,rfl,GrowC.refl _,rfl⟩
   | (q+14),hq=>exact absurd hq (by omega)
  intro vS lo hi w5 hg hp hd
  obtain⟨_,_,_,h0⟩:=hp 0 (by decide)
  obtain⟨_,_,_,h1⟩:=hp 1 (by decide)
  obtain⟨_,_,_,h2⟩:=hp 2 (by decide)
  obtain⟨_,_,_,h3⟩:=hp 3 (by decide)
  obtain⟨_,_,_,h4⟩:=hp 4 (by decide)
  obtain⟨_,_,_,h5⟩:=hp 5 (by decide)
  obtain⟨_,_,_,h6⟩:=hp 6 (by decide)
  obtain⟨_,_,_,h7⟩:=hp 7 (by decide)
  obtain⟨_,_,_,h8⟩:=hp 8 (by decide)
  obtain⟨_,_,_,h9⟩:=hp 9 (by decide)
  obtain⟨_,_,_,h10⟩:=hp 10 (by decide)
  obtain⟨_,_,_,h11⟩:=hp 11 (by decide)
  obtain⟨_,_,_,h12⟩:=hp 12 (by decide)
  obtain⟨_,_,_,h13⟩:=hp 13 (by decide)
  simp only[PFl4]at h0 h1 h2 h3 h4 h5 h6 h7 h8 h9 h10 h11 h12 h13
  clear hp hd
  have hsz:=hg.size
  replace bf:=bf.grow hg (by intro i _;rintro⟨j,_,hw⟩;exact False.elim hw)
  replace hB:=hB.trans (hg.below (fun k hk=>⟨by omega,fun o=>by rintro⟨j,_,hw⟩;exact False.elim hw⟩))
  have hr:List.range 14=[0,1,2,3,4,5,6,7,8,9,10,11,12,13]:=rfl
  rw[hr]
  clear hr
  simp only[List.drop_succ_cons,List.drop_zero,List.drop_nil,actsD,Act.put,actL,h0,h1,h2,h3,h4,h5,h6,h7,h8,h9,h10,h11,h12,h13]
  clear h0 h1 h2 h3 h4 h5 h6 h7 h8 h9 h10 h11 h12 h13
  have hgr5:GrowX (fun _=>False) wr w5:=grow_below hB
  have HV5:Hid (DV W0 d Dk Sk w5):=Lib.hid (HDV.out.below hB)
  have HR5:Hid (Reads 1 w5 (.slice (some ⟨bq,oq+128*k,none⟩) 128 (cv-128*k)) 128 ((chunk b k).map B)):=Lib.hid (Reads.sub HB.out (by have h1:=HN.out;have h2:=HV.out;rw[←h1]at h2;exact((show Reads 1 w _ _ _ from h2).growx HFT.out.grow (fun q e=>by have e2:bq=q:=(by simpa[Value.ownBlock]using e);exact e2▸HSL.out)).growx hgr5 (fun _ _ h=>h)) hkn)
  have HFT5:Hid (Foot S Sk w w5):=Lib.hid (HFT.out.trans (Foot.below hgr5))
  have HSZ:Hid (w.heap.size≤wr.heap.size):=Lib.hid HFT.out.grow.size
  have hm1:n-k=(n-(k+1))+1:=by omega
  have HM1:=Lib.hid hm1
  clear hgr5 hB bf hg hsz hm1
  cases hbn:Dk.burn.1 with
  | false=>
   go_wp2_with fail
   refine(dwrite_dv HV5.out HDK.out (by have:=HCK.out;omega) (q+k) (by have:=HLK.out;have:=HQ.out;omega) (chunk b k) (chunk_len HB.out hkn) _ HR5.out (fun e he=>by have e2:bq=e:=(by simpa[Value.ownBlock]using he);exact e2▸HBS2.out)).mono ?_
   rw[hbn]
   rintro e w6 ⟨S6,rfl,hdv6,hft6⟩
   have H6:=Lib.hid hdv6
   have F6:=Lib.hid hft6
   clear hdv6 hft6
   simp only[eDead]
   go_wp2_with fail
   go_ret
   rw[HLY.out,HM1.out,Dv.layR,hbn]
   exact⟨rfl,S6,H6.out,HFT5.out.trans F6.out⟩
  | true=>
   go_wp2_with fail
   refine(dwrite_dv HV5.out HDK.out (by have:=HCK.out;omega) (q+k) (by have:=HLK.out;have:=HQ.out;omega) (chunk b k) (chunk_len HB.out hkn) _ HR5.out (fun e he=>by have e2:bq=e:=(by simpa[Value.ownBlock]using he);exact e2▸HBS2.out)).mono ?_
   rw[hbn]
   rintro e w6 ⟨S6,rfl,hdv6,hft6⟩
   have H6:=Lib.hid hdv6
   have F6:=Lib.hid (HFT5.out.trans hft6)
   clear hdv6 hft6
   simp only[eDead]
   go_wp2_with fail
   go_roundw
   ·refine⟨k+1,Dk.write (q+k) (chunk b k),S6,by omega,by simp,?_,?_,?_,?_,H6.out,F6.out⟩
    ·rw[HLY.out,HM1.out,Dv.layR,hbn];rfl
    ·exact(Dv.write_facts hbn (q+k) (chunk b k)).1.trans HDK.out
    ·rw[(Dv.write_facts hbn (q+k) (chunk b k)).2.1];exact HLK.out
    ·rw[(Dv.write_facts hbn (q+k) (chunk b k)).2.2,List.length_append]
     have:=HCK.out
     simp only[List.length_cons,List.length_nil];omega
   ·simp[intOf];omega
end
section
structure Dv.good(D:Dv):Prop where
 ok:D.ok
 fuse:D.fuse = -1
 dead:D.dead=false
theorem Dv.good.burn{D:Dv}(h:D.good):D.burn.1=true∧D.burn.2.fuse=D.fuse∧D.burn.2.dead=D.dead:=by
 have hf:=h.fuse
 rcases Dv.burn_cases D with hc|hc|hc
 ·omega
 ·omega
 ·exact⟨hc.2.2.1,hc.2.2.2.1,hc.2.2.2.2.1⟩
theorem Dv.good.write{D:Dv}(h:D.good)(i:Nat)(l:List UInt8)(hi:i<D.l.length)(hl:l.length=128):(D.write i l).good∧(D.write i l).l=D.l∧(D.write i l).c=D.c++[(i,l)]:=by
 obtain⟨h1,h2,h3⟩:=h.burn
 obtain⟨f1,f2,f3⟩:=Dv.write_facts h1 i l
 refine⟨⟨?_,?_,f1.trans h.dead⟩,f2,f3⟩
 ·have hok:=Dv.burn_ok h.ok
  obtain⟨b1,b2⟩:=Dv.burn_l D
  unfold Dv.write
  rw[if_pos h1]
  refine⟨hok.l,fun x hx=>?_,hok.n,hok.f1,hok.f2⟩
  rcases List.mem_append.1 hx with hx|hx
  ·exact hok.c x hx
  ·rw[List.mem_singleton.1 hx];exact⟨by rw[b1];exact hi,hl⟩
 ·unfold Dv.write
  rw[if_pos h1]
  exact h2.trans h.fuse
theorem Dv.good.sync{D:Dv}(h:D.good):D.sync.good∧D.sync.l.length=D.l.length∧D.sync.c=[]∧∀i,D.sync.sec i=D.sec i:=by
 obtain⟨h1,h2,h3⟩:=h.burn
 obtain⟨b1,b2⟩:=Dv.burn_l D
 have hok:=Dv.burn_ok h.ok
 have hsec:∀i,padS ((setAll D.burn.2.l D.burn.2.c).getD i [])=overC i D.burn.2.c (padS (D.burn.2.l.getD i [])):=setAll_sec _ _ hok.c
 unfold Dv.sync
 rw[if_pos h1]
 refine⟨⟨⟨?_,(fun x hx=>by cases hx),?_,hok.f1,hok.f2⟩,h2.trans h.fuse,h3.trans h.dead⟩,?_,rfl,fun i=>?_⟩
 ·have hc:=hok.c
  have hl:=hok.l
  revert hc hl
  generalize D.burn.2.c=c
  generalize D.burn.2.l=l
  induction c generalizing l with
  | nil=>intro _ hl;exact hl
  | cons x r ih=>
   intro hc hl
   refine ih (l.set x.1 x.2) (fun y hy=>?_) (fun s hs=>?_)
   ·rw[List.length_set];exact hc y (List.mem_cons_of_mem _ hy)
   ·rcases List.mem_or_eq_of_mem_set hs with hs|rfl
    ·exact hl s hs
    ·exact .inr (hc x (List.mem_cons_self ..)).2
 ·show(setAll D.burn.2.l D.burn.2.c).length≤8192
  rw[setAll_length];exact hok.n
 ·show(setAll D.burn.2.l D.burn.2.c).length=_
  rw[setAll_length,b1]
 ·show padS ((setAll D.burn.2.l D.burn.2.c).getD i [])=_
  rw[hsec,b1,b2];rfl
theorem Dv.good.layR{q:Nat}{b:List UInt8}:∀(m k:Nat)(D:Dv),D.good→q+k+m≤D.l.length→b.length=128*(k+m)→
  (Dv.layR q b m k D).1=true∧(Dv.layR q b m k D).2.good∧(Dv.layR q b m k D).2.l.length=D.l.length∧(Dv.layR q b m k D).2.c=[]∧
  ∀i,(Dv.layR q b m k D).2.sec i=if q+k≤i∧i<q+k+m then chunk b (i-q)else D.sec i
 | 0,k,D,h,hq,hb=>by
  obtain⟨h1,h2,h3,h4⟩:=h.sync
  refine⟨h.burn.1,h1,h2,h3,fun i=>?_⟩
  rw[if_neg (by omega)]
  exact h4 i
 | m+1,k,D,h,hq,hb=>by
  rw[Dv.layR,if_pos h.burn.1]
  have hc:(chunk b k).length=128:=chunk_len hb (by omega)
  obtain⟨w1,w2,w3⟩:=h.write (q+k) (chunk b k) (by omega) hc
  obtain⟨h1,h2,h3,h4,h5⟩:=Dv.good.layR (q:=q) (b:=b) m (k+1) _ w1 (by rw[w2];omega) (by omega)
  refine⟨h1,h2,h3.trans (by rw[w2]),h4,fun i=>?_⟩
  rw[h5]
  have hs:(D.write (q+k) (chunk b k)).sec i=if q+k=i then chunk b k else D.sec i:=by
   unfold Dv.sec
   rw[w2,w3,overC_snoc]
  rw[hs]
  by_cases e1:q+k=i
  ·subst e1
   rw[if_neg (by omega),if_pos rfl,if_pos (by omega)]
   congr 1;omega
  ·rw[if_neg e1]
   by_cases e2:q+(k+1)≤i∧i<q+(k+1)+m
   ·rw[if_pos e2,if_pos (by omega)]
   ·rw[if_neg e2,if_neg (by omega)]
theorem secsD_ext{D D':Dv}{q:Nat}:∀{n:Nat},(∀i,q≤i→i<q+n→D.sec i=D'.sec i)→secsD D q n=secsD D' q n
 | 0,_=>rfl
 | n+1,h=>by
  rw[secsD,secsD,secsD_ext (fun i h1 h2=>h i h1 (by omega)),h (q+n) (by omega) (by omega)]
theorem secsD_chunks{D:Dv}{q:Nat}{b:List UInt8}:∀{n:Nat},128*n≤b.length→(∀k,k<n→D.sec (q+k)=chunk b k)→secsD D q n=b.take (128*n)
 | 0,_,_=>by simp[secsD]
 | n+1,hb,h=>by
  rw[secsD,secsD_chunks (by omega) (fun k hk=>h k (by omega)),h n (by omega),chunk]
  rw[show 128*(n+1)=128*n+128 by omega,List.take_add]
end
section
open Go.RowKit
def hbyte(n i:Nat):UInt8:=UInt8.ofNat (n / 2 ^ (56-8*i))
def headL(n k:Nat):List UInt8:=(List.range k).map (hbyte n)++List.replicate (128-k) 0
theorem headL_len(n:Nat){k:Nat}(hk:k≤128):(headL n k).length=128:=by simp[headL];omega
theorem Buf.set{w:World}{g:Nat}{l:List UInt8}(h:Buf w g l)(j:Nat)(hj:j<l.length)(x:UInt8):Buf (w.setCell ⟨g,j,none⟩ (B x)) g (l.set j x):=by
 unfold Buf
 have h':w.heap[g]? = some (.cells (l.map B).toArray 5 (0,0)):=h
 rw[setCell_row h' (B x)]
 simp[List.map_set]
theorem headL_step(n:Nat){k:Nat}(hk:k<8):headL n (k+1)=(headL n k).set k (hbyte n k):=by
 unfold headL
 rw[List.range_succ,List.map_append,show 128-k=(128-(k+1))+1 by omega,List.replicate_succ,List.set_append_right _ _ (by simp)]
 simp
theorem B_hbyte(n k:Nat):B (hbyte n k)=.int .u8 ((n:Int) / 2 ^ (56-8*k) % 256):=by
 show Value.int .u8 (((UInt8.ofNat (n / 2 ^ (56-8*k))).toNat:Nat):Int)=_
 rw[UInt8.toNat_ofNat']
 simp
theorem headL_at(n:Nat){k:Nat}(hk:k<8):((headL n k).map B)[k]? = some (B 0):=by
 unfold headL
 rw[List.map_append,List.getElem?_append_right (by simp)]
 simp only[List.length_map,List.length_range,Nat.sub_self,List.map_replicate]
 rw[show 128-k=(127-k)+1 by omega,List.replicate_succ]
 rfl
theorem headL_zero(k:Nat)(hk:k≤128):headL 0 k=zsec:=by
 unfold headL zsec
 rw[show(128:Nat)=k+(128-k) by omega,←List.replicate_append_replicate]
 congr 1
 ·apply List.ext_getElem
  ·simp
  ·intro i h1 h2
   simp[hbyte]
 ·congr 1;omega
set_option maxRecDepth 100000 in
set_option maxHeartbeats 1600000 in
theorem head_any(w:World)(a:Int)(n:Nat)(ha:a+1=(n:Nat))(hn:n≤1048576):
  Calls Tryz.prog 115 #[.int .i64 a] w fun e w'=>∃g,e=.returned (.slice (some ⟨g,0,none⟩) 128 128)∧Buf w' g (headL n 8)∧w.heap.size≤g∧GrowX (fun _=>False) w w':=by
 have hmk:=make128
 go_enter Tryz.func115,Tryz.ntmps115
 go_wp2_with fail
 have hg0:GrowX (fun _=>False) w (w.alloc (.cells Z128 5)):=grow_below ((Below.refl _ _).alloc (Nat.le_refl _) _)
 have hb0:=Buf.zero w
 obtain⟨g,hg⟩:∃g,w.heap.size=g:=⟨_,rfl⟩
 rw[hg]at hb0⊢
 generalize w.alloc (.cells Z128 5)=w1 at *
 go_loopw [6] (fun z wr=>∃k:Nat,k≤8∧z=.int .i64 k∧Buf wr g (headL n k)∧GrowX (fun _=>False) w wr) (fun z _=>8-(intOf z).toNat)
 case atStart=>exact⟨0,Nat.zero_le _,rfl,hb0,hg0⟩
 case round=>
  obtain⟨k,hk,rfl,hbuf,hgw⟩:=hrel
  have HB:=Lib.hid hbuf
  have HG:=Lib.hid hgw
  by_cases hk8:k<8
  case neg=>
   obtain rfl:k=8:=by omega
   go_wp2_with fail
   go_ret
   exact⟨g,rfl,HB.out,by omega,HG.out⟩
  have hkb:decide ((k:Int)<8)=true:=by simp;omega
  have hcold:=hbuf.cell k (B 0) (headL_at n hk8)
  have hfz:=fun o=>frozen_of_row' hbuf o
  have hlt:=hbuf.lt
  clear hbuf hgw
  go_wp2_with fail
  rw[←B_hbyte]
  refine⟨⟨k+1,by omega,by simp,?_,?_⟩,?_⟩
  ·rw[headL_step n hk8]
   exact HB.out.set k (by rw[headL_len n (by omega)];omega) _
  ·exact HG.out.step (growX_setCell _ _ _ _) (fun q h1 h2=>by omega)
  ·simp[intOf];omega
end
section
open Go.RowKit
theorem wp_scope_fwd{P:Program}{a:Act}{w:World}{Q:Exit→Act→World→Prop}{c rest:Code}(l:Nat)(hf:findLabel c l=some rest)
  (first:c.wp P (Exit.jump l (fun a w=>rest.wp P (Exit.jump l (fun _ _=>False) Q) a w) Q) a w):(Code.scope c).wp P Q a w:=by
 refine wp_scope_jumps l _ (fun _ _=>0) hf first (fun a w h=>wp_mono h ?_)
 intro e a w h
 cases e with
 | goto l'=>exact absurd h.2 id
 | _=>exact h
theorem Dv.layR_facts{q:Nat}{b:List UInt8}:∀(m k:Nat)(D:Dv),(Dv.layR q b m k D).1=true→(Dv.layR q b m k D).2.dead=D.dead∧(Dv.layR q b m k D).2.l.length=D.l.length∧(Dv.layR q b m k D).2.c=[]
 | 0,k,D,h=>by
  have h1:D.burn.1=true:=h
  show D.sync.dead=_∧D.sync.l.length=_∧D.sync.c=_
  obtain⟨b1,b2⟩:=Dv.burn_l D
  unfold Dv.sync
  rw[if_pos h1]
  refine⟨?_,?_,rfl⟩
  ·rcases Dv.burn_cases D with hc|hc|hc
   ·rw[hc.2.1]at h1;cases h1
   ·exact hc.2.2.2.1
   ·exact hc.2.2.2.2.1
  ·show(setAll D.burn.2.l D.burn.2.c).length=_
   rw[setAll_length,b1]
 | m+1,k,D,h=>by
  rw[Dv.layR]at h⊢
  by_cases hb:D.burn.1=true
  ·rw[if_pos hb]at h⊢
   obtain⟨h1,h2,h3⟩:=Dv.layR_facts m (k+1) _ h
   obtain⟨f1,f2,f3⟩:=Dv.write_facts hb (q+k) (chunk b k)
   exact⟨h1.trans f1,h2.trans (by rw[f2]),h3⟩
  ·rw[if_neg hb]at h;cases h
def Dv.fwrite (D:Dv) (fr p:Nat) (b:List UInt8):Bool×Dv:=
 if (Dv.layR (fr+1) b 4 0 D).1 then
  if (Dv.layR fr (headL (p+1) 8) 1 0 (Dv.layR (fr+1) b 4 0 D).2).1 then
   if (Dv.layR (fr+5+4*p) b 4 0 (Dv.layR fr (headL (p+1) 8) 1 0 (Dv.layR (fr+1) b 4 0 D).2).2).1 then
    Dv.layR fr (headL 0 8) 1 0 (Dv.layR (fr+5+4*p) b 4 0 (Dv.layR fr (headL (p+1) 8) 1 0 (Dv.layR (fr+1) b 4 0 D).2).2).2
   else(false,(Dv.layR (fr+5+4*p) b 4 0 (Dv.layR fr (headL (p+1) 8) 1 0 (Dv.layR (fr+1) b 4 0 D).2).2).2)
  else(false,(Dv.layR fr (headL (p+1) 8) 1 0 (Dv.layR (fr+1) b 4 0 D).2).2)
 else(false,(Dv.layR (fr+1) b 4 0 D).2)
theorem Dv.fwrite1{D D1:Dv}{fr p:Nat}{b:List UInt8}(h1:Dv.layR (fr+1) b 4 0 D=(false,D1)):D.fwrite fr p b=(false,D1):=by simp[Dv.fwrite,h1]
theorem Dv.fwrite2{D D1 D2:Dv}{fr p:Nat}{b:List UInt8}(h1:Dv.layR (fr+1) b 4 0 D=(true,D1))(h2:Dv.layR fr (headL (p+1) 8) 1 0 D1=(false,D2)):D.fwrite fr p b=(false,D2):=by simp[Dv.fwrite,h1,h2]
theorem Dv.fwrite3{D D1 D2 D3:Dv}{fr p:Nat}{b:List UInt8}(h1:Dv.layR (fr+1) b 4 0 D=(true,D1))(h2:Dv.layR fr (headL (p+1) 8) 1 0 D1=(true,D2))(h3:Dv.layR (fr+5+4*p) b 4 0 D2=(false,D3)):D.fwrite fr p b=(false,D3):=by simp[Dv.fwrite,h1,h2,h3]
theorem Dv.fwrite4{D D1 D2 D3:Dv}{fr p:Nat}{b:List UInt8}(h1:Dv.layR (fr+1) b 4 0 D=(true,D1))(h2:Dv.layR fr (headL (p+1) 8) 1 0 D1=(true,D2))(h3:Dv.layR (fr+5+4*p) b 4 0 D2=(true,D3)):D.fwrite fr p b=Dv.layR fr (headL 0 8) 1 0 D3:=by simp[Dv.fwrite,h1,h2,h3]
theorem Buf.reads{w:World}{g:Nat}{l:List UInt8}(h:Buf w g l)(hl:l.length=128):Reads 1 w (.slice (some ⟨g,0,none⟩) 128 128) (128*1) (l.map B):=
 ⟨_,_,rfl,by rw[List.length_map,hl],Nat.le_refl _,fun _=>⟨g,0,rfl,h.lt,fun j u hu=>by rw[Nat.zero_add];exact h.cell j u hu⟩⟩
def WFw3(f d fr pg p HS:Nat)(de:Bool)(v2:Value)(j b o:Nat):Prop:=False
def PFw3(f d fr pg p HS:Nat)(de:Bool)(v2:Value)(i:Nat)(v:Value)(lo hi:Nat)(w:World):Prop:=
 match i with
 | 0=>v=.pointer (some ⟨f,0,none⟩)
 | 1=>v=.pointer (some ⟨f,0,none⟩)
 | 2=>v=.pointer (some ⟨f,0,none⟩)
 | 3=>v=.pointer (some ⟨f,1,none⟩)
 | 4=>v=.int .i64 ((fr:Nat):Int)
 | 5=>v=.int .i64 ((p:Nat):Int)
 | 6=>∃g,v=.slice (some ⟨g,0,none⟩) 128 128∧HS≤g∧Buf w g (headL (p+1) 8)
 | _=>True
theorem PFw3_stable(f d fr pg p HS:Nat)(de:Bool)(v2:Value)  : ∀i j,i<7→j<7→j≠i→j∉([[],[],[1],[1,2],[1,2,3],[],[5]]:List (List Nat)).getD i []→∀v lo hi w w',PFw3 f d fr pg p HS de v2 i v lo hi w→GrowC (WFw3 f d fr pg p HS de v2 j) w w'→PFw3 f d fr pg p HS de v2 i v lo hi w':=by
 intro i j hi hj hne hbs v lo hj2 w w' h hg
 match i,hi with
 | 0,_|1,_|2,_|3,_|4,_|5,_=>
  simp only[PFw3]at h⊢
  exact h
 | 6,_=>
  simp only[PFw3]at h⊢
  obtain⟨g,h1,h2,h3⟩:=h
  exact⟨g,h1,h2,h3.growx (GrowX.of_growC hg (Y:=fun _=>False) (fun k o h=>h)) (fun h=>h)⟩
 | (q+7),hq=>exact absurd hq (by omega)
def WFw7(f d fr pg p HS:Nat)(de:Bool)(v2:Value)(j b o:Nat):Prop:=False
def PFw7(f d fr pg p HS:Nat)(de:Bool)(v2:Value)(i:Nat)(v:Value)(lo hi:Nat)(w:World):Prop:=
 match i with
 | 0=>v=.pointer (some ⟨f,0,none⟩)
 | 1=>v=.pointer (some ⟨f,0,none⟩)
 | 2=>v=.pointer (some ⟨f,0,none⟩)
 | 3=>v=.pointer (some ⟨f,1,none⟩)
 | 4=>v=.int .i64 ((fr:Nat):Int)
 | 5=>∃g,v=.slice (some ⟨g,0,none⟩) 128 128∧HS≤g∧Buf w g (headL 0 8)
 | _=>True
theorem PFw7_stable(f d fr pg p HS:Nat)(de:Bool)(v2:Value)  : ∀i j,i<6→j<6→j≠i→j∉([[],[],[1],[1,2],[1,2,3],[]]:List (List Nat)).getD i []→∀v lo hi w w',PFw7 f d fr pg p HS de v2 i v lo hi w→GrowC (WFw7 f d fr pg p HS de v2 j) w w'→PFw7 f d fr pg p HS de v2 i v lo hi w':=by
 intro i j hi hj hne hbs v lo hj2 w w' h hg
 match i,hi with
 | 0,_|1,_|2,_|3,_|4,_=>
  simp only[PFw7]at h⊢
  exact h
 | 5,_=>
  simp only[PFw7]at h⊢
  obtain⟨g,h1,h2,h3⟩:=h
  exact⟨g,h1,h2,h3.growx (GrowX.of_growC hg (Y:=fun _=>False) (fun k o h=>h)) (fun h=>h)⟩
 | (q+6),hq=>exact absurd hq (by omega)
set_option maxRecDepth 100000 in
set_option maxHeartbeats 3200000 in
theorem fwrite_dv{W0 w:World}{f d fr pg:Nat}{de:Bool}{D:Dv}{S:Nat→Prop}(hf:FileBox w f d fr pg de)(hfS:¬S f)(h:DV W0 d D S w)(hdead:D.dead=false)(p:Nat)(hp:p<pg)(hq:fr+5+4*pg≤D.l.length)(hcl:D.c.length≤1000)
  (b:List UInt8) (hb:b.length=512) (v:Value) (hv:Reads 1 w v 512 (b.map B)) (hsl:∀k,v.ownBlock=some k→¬S k):
  Calls Tryz.prog 162 #[.pointer (some ⟨f,0,none⟩),.int .i64 (p:Nat),v] w fun e w'=>∃S',e=.returned (.int .i64 (eDead (D.fwrite fr p b).1))∧DV W0 d (D.fwrite fr p b).2 S' w'∧Foot S S' w w':=by
 have hln:=h.ok.n
 have hfw:f<w.heap.size:=hf.lt
 obtain⟨av,cv,rfl,hlm,hvc,hvr⟩:=hv
 obtain⟨bq,oq,rfl,hbq,hcell⟩:=hvr (by omega)
 have hv:Reads 1 w (.slice (some ⟨bq,oq,none⟩) 512 cv) 512 (b.map B):=⟨_,_,rfl,hlm,hvc,fun _=>⟨bq,oq,rfl,hbq,hcell⟩⟩
 obtain⟨v2,hv2⟩:∃v,Value.slice (some ⟨bq,oq,none⟩) 512 cv=v:=⟨_,rfl⟩
 have hob:∀k,v2.ownBlock=some k→k=bq:=by subst hv2;intro k e;exact(show bq=k from by simpa[Value.ownBlock]using e).symm
 rw[hv2]at hv⊢
 have HFS:=Lib.hid hfS
 have HF:=Lib.hid hf
 have HD:=Lib.hid h
 have HV:=Lib.hid hv
 have HSL:Hid (¬S bq):=Lib.hid (hsl bq (by subst hv2;rfl))
 have HB:=Lib.hid hb
 have HQ:=Lib.hid hq
 have HDD:=Lib.hid hdead
 have hfr:fr≤8192:=by omega
 have hp2:p≤8192:=by omega
 have c1:=hf.cell 1 _ rfl
 have hlay:=lay_dv hf hfS h hdead (fr+1) 4 (by omega) (by omega) (by omega) b hb v2 hv (fun k e hs=>HSL.out (hob k e▸hs))
 have hwr1:wrap64 ((fr:Int)+1)=((fr+1:Nat):Int):=by rw[wrap64];omega
 have HLAY:=Lib.hid hlay
 clear hlay hf h hv hsl hb hq hfS hdead hv2 hlm hvc hvr hcell
 go_enter Tryz.func162,Tryz.ntmps162
 go_wp2_with fail
 refine wp_scope_fwd 0 rfl ?_
 go_wp2_with fail
 obtain⟨r1,hr1⟩:∃r,Dv.layR (fr+1) b 4 0 D=r:=⟨_,rfl⟩
 have FC1:Hid (r1.1=true→r1.2.dead=D.dead∧r1.2.l.length=D.l.length∧r1.2.c=[]):=Lib.hid (by rw[←hr1];exact Dv.layR_facts _ _ _)
 rw[hr1]at HLAY
 have E1:=Lib.hid hr1
 clear hr1
 obtain⟨b1,D1⟩:=r1
 refine HLAY.out.mono ?_
 clear HLAY
 rintro e y1 ⟨S1,rfl,hdv,hft⟩
 have H1:Hid (DV W0 d D1 S1 y1):=Lib.hid hdv
 have G1:=Lib.hid (hft)
 clear hdv hft
 cases b1 with
 | false=>
  simp only[eDead]
  go_wp2_with fail
  go_step3
  refine⟨rfl,?_⟩
  go_wp2
  simp only[Exit.jump]
  go_ret
  rw[Dv.fwrite1 E1.out]
  exact⟨S1,rfl,H1.out,G1.out⟩
 | true=>
  simp only[eDead]
  have hfs:¬S1 f:=fun hs=>(G1.out.new f hs).elim HFS.out (fun e=>by omega)
  have hbs:¬S1 bq:=fun hs=>(G1.out.new bq hs).elim HSL.out (fun e=>by omega)
  have HFS1:=Lib.hid hfs
  have HBS1:=Lib.hid hbs
  have HF1:Hid (FileBox y1 f d fr pg de):=Lib.hid (HF.out.growx G1.out.grow HFS.out)
  have HV1:Hid (Reads 1 y1 v2 512 (b.map B)):=Lib.hid (HV.out.growx G1.out.grow (fun q e hs=>HSL.out (hob q e▸hs)))
  have bf:Box y1 f [.pointer (some ⟨d,0,none⟩),.int .i64 (fr:Nat),.int .i64 (pg:Nat),.bool de]:=HF1.out
  have DF1:Hid (D1.dead=false∧D1.l.length=D.l.length∧D1.c=[]):=Lib.hid (by have:=FC1.out rfl;exact⟨this.1.trans HDD.out,this.2.1,this.2.2⟩)
  clear hfs hbs FC1
  clear c1 hwr1
  go_upto_region 3 with (fail)
  have hB:Below y1.heap.size y1 y1:=Below.refl _ _
  obtain⟨HS,hHS⟩:∃n,y1.heap.size=n:=⟨_,rfl⟩
  refine wp_region_partsDC (WFw3 f d fr pg p HS de v2) 7 [[],[],[1],[1,2],[1,2,3],[],[5]] [some 17,some 18,some 19,some 20,some 21,some 22,some 23,some 24,some 6] (by kernel_rfl) (by kernel_rfl) rfl (PFw3 f d fr pg p HS de v2) (PFw3_stable f d fr pg p HS de v2) ?pFw3 ?_
  case pFw3=>
   intro i hi o ho vs lo hx_ w' hg hp
   match i,hi with
   | 0,_|1,_|5,_=>
    obtain rfl:=Option.some.inj ho
    clear ho
    simp only[actsD,Act.put,actL]
    have hsz:=hg.size
    have hgB:Below y1.heap.size y1 w':=hg.below (fun k hk=>⟨hk,fun o=>by rintro⟨j,_,_,_,hw⟩;exact False.elim hw⟩)
    go_wp2
    exact⟨_,rfl,GrowC.refl _,rfl⟩
   | 2,_=>
    obtain rfl:=Option.some.inj ho
    clear ho
    simp only[actsD,Act.put,actL]
    obtain⟨_,_,_,h1⟩:=hp 1 (by simp)
    simp only[PFw3]at h1
    have hsz:=hg.size
    have hgB:Below y1.heap.size y1 w':=hg.below (fun k hk=>⟨hk,fun o=>by rintro⟨j,_,_,_,hw⟩;exact False.elim hw⟩)
    rw[h1]
    go_wp2
    exact⟨_,rfl,GrowC.refl _,rfl⟩
   | 3,_=>
    obtain rfl:=Option.some.inj ho
    clear ho
    simp only[actsD,Act.put,actL]
    obtain⟨_,_,_,h2⟩:=hp 2 (by simp)
    simp only[PFw3]at h2
    have hsz:=hg.size
    have hgB:Below y1.heap.size y1 w':=hg.below (fun k hk=>⟨hk,fun o=>by rintro⟨j,_,_,_,hw⟩;exact False.elim hw⟩)
    rw[h2]
    go_wp2
    exact⟨_,rfl,GrowC.refl _,rfl⟩
   | 4,_=>
    obtain rfl:=Option.some.inj ho
    clear ho
    simp only[actsD,Act.put,actL]
    obtain⟨_,_,_,h3⟩:=hp 3 (by simp)
    simp only[PFw3]at h3
    have hsz:=hg.size
    have hgB:Below y1.heap.size y1 w':=hg.below (fun k hk=>⟨hk,fun o=>by rintro⟨j,_,_,_,hw⟩;exact False.elim hw⟩)
    rw[h3]
    have e0:=(hg.cell (f) 1 bf.lt (by rintro⟨j,_,hne,hb,hw⟩;exact False.elim hw)).trans (bf.cell 1 _ rfl)
    go_wp2
    exact⟨_,rfl,GrowC.refl _,rfl⟩
   | 6,_=>
    obtain rfl:=Option.some.inj ho
    clear ho
    simp only[actsD,Act.put,actL]
    obtain⟨_,_,_,h5⟩:=hp 5 (by simp)
    simp only[PFw3]at h5
    have hsz:=hg.size
    have hgB:Below y1.heap.size y1 w':=hg.below (fun k hk=>⟨hk,fun o=>by rintro⟨j,_,_,_,hw⟩;exact False.elim hw⟩)
    rw[h5]
    go_wp2_with fail
    refine(head_any w' ((p:Nat):Int) (p+1) (by omega) (by omega)).mono ?_
    rintro e wh ⟨g,rfl,h1,h2,h3⟩
    go_wp2
    exact⟨_,rfl,GrowC.of_grow ⟨h3.os,h3.tape,h3.output,h3.size,fun k hk=>h3.block k hk (fun h=>h)⟩,g,rfl,by have:=hHS;omega,h1⟩
   | (q+7),hq=>exact absurd hq (by omega)
  intro vS lo hi w5 hg hp hd
  obtain⟨_,_,_,h0⟩:=hp 0 (by decide)
  obtain⟨_,_,_,h1⟩:=hp 1 (by decide)
  obtain⟨_,_,_,h2⟩:=hp 2 (by decide)
  obtain⟨_,_,_,h3⟩:=hp 3 (by decide)
  obtain⟨_,_,_,h4⟩:=hp 4 (by decide)
  obtain⟨_,_,_,h5⟩:=hp 5 (by decide)
  obtain⟨_,_,_,h6⟩:=hp 6 (by decide)
  simp only[PFw3]at h0 h1 h2 h3 h4 h5 h6
  clear hp hd
  have hsz:=hg.size
  replace bf:=bf.grow hg (by intro i _;rintro⟨j,_,hw⟩;exact False.elim hw)
  replace hB:=hB.trans (hg.below (fun k hk=>⟨by omega,fun o=>by rintro⟨j,_,hw⟩;exact False.elim hw⟩))
  have hr:List.range 7=[0,1,2,3,4,5,6]:=rfl
  rw[hr]
  clear hr
  simp only[List.drop_succ_cons,List.drop_zero,List.drop_nil,actsD,Act.put,actL,h0,h1,h2,h3,h4,h5]
  clear h0 h1 h2 h3 h4 h5
  have hgr5:GrowX (fun _=>False) y1 w5:=grow_below hB
  have HV5:Hid (DV W0 d D1 S1 w5):=Lib.hid (H1.out.below hB)
  have HB5:Hid (FileBox w5 f d fr pg de):=Lib.hid bf
  obtain⟨gh,eh,hgh,hbh⟩:=h6
  rw[eh]
  have HLAY2:=Lib.hid (lay_dv HB5.out HFS1.out HV5.out DF1.out.1 fr 1 (by omega) (by have:=HQ.out;have:=DF1.out.2.1;omega) (by have:=DF1.out.2.2;rw[this];simp) (headL (p+1) 8) (headL_len _ (by omega)) (.slice (some ⟨gh,0,none⟩) 128 128) (hbh.reads (headL_len _ (by omega))) (fun q e hs=>by have e2:gh=q:=(by simpa[Value.ownBlock]using e);have:=(H1.out.lt q hs).2;omega))
  have HGH:=Lib.hid hgh
  clear hbh bf hB hg hsz hgh
  go_wp2_with fail
  obtain⟨r2,hr2⟩:∃r,Dv.layR fr (headL (p+1) 8) 1 0 D1=r:=⟨_,rfl⟩
  have FC2:Hid (r2.1=true→r2.2.dead=D1.dead∧r2.2.l.length=D1.l.length∧r2.2.c=[]):=Lib.hid (by rw[←hr2];exact Dv.layR_facts _ _ _)
  rw[hr2]at HLAY2
  have E2:=Lib.hid hr2
  clear hr2
  obtain⟨b2,D2⟩:=r2
  refine HLAY2.out.mono ?_
  clear HLAY2
  rintro e y2 ⟨S2,rfl,hdv,hft⟩
  have H2:Hid (DV W0 d D2 S2 y2):=Lib.hid hdv
  have G2:=Lib.hid (G1.out.trans ((Foot.below hgr5).trans hft))
  clear hdv hft
  cases b2 with
  | false=>
   simp only[eDead]
   go_wp2_with fail
   go_step3
   refine⟨rfl,?_⟩
   go_wp2
   simp only[Exit.jump]
   go_ret
   rw[Dv.fwrite2 E1.out E2.out]
   exact⟨S2,rfl,H2.out,G2.out⟩
  | true=>
   simp only[eDead]
   have hfs:¬S2 f:=fun hs=>(G2.out.new f hs).elim HFS.out (fun e=>by omega)
   have hbs:¬S2 bq:=fun hs=>(G2.out.new bq hs).elim HSL.out (fun e=>by omega)
   have HFS2:=Lib.hid hfs
   have HBS2:=Lib.hid hbs
   have HF2:Hid (FileBox y2 f d fr pg de):=Lib.hid (HF.out.growx G2.out.grow HFS.out)
   have HV2:Hid (Reads 1 y2 v2 512 (b.map B)):=Lib.hid (HV.out.growx G2.out.grow (fun q e hs=>HSL.out (hob q e▸hs)))
   have bf:Box y2 f [.pointer (some ⟨d,0,none⟩),.int .i64 (fr:Nat),.int .i64 (pg:Nat),.bool de]:=HF2.out
   have DF2:Hid (D2.dead=false∧D2.l.length=D.l.length∧D2.c=[]):=Lib.hid (by have:=FC2.out rfl;exact⟨this.1.trans DF1.out.1,this.2.1.trans DF1.out.2.1,this.2.2⟩)
   clear hfs hbs FC2
   have c0:=bf.cell 0 _ rfl
   have HLAY3:=Lib.hid (lay_dv HF2.out HFS2.out H2.out DF2.out.1 (fr+5+4*p) 4 (by decide) (by have:=HQ.out;have:=DF2.out.2.1;omega) (by have:=DF2.out.2.2;rw[this];simp) b HB.out v2 HV2.out (fun k e hs=>HBS2.out (hob k e▸hs)))
   go_wp2_with fail
   refine(home_at HF2.out (by omega) p (by omega)).mono ?_
   rintro e wh ⟨rfl,rfl⟩
   clear c0 bf
   go_wp2_with fail
   obtain⟨r3,hr3⟩:∃r,Dv.layR (fr+5+4*p) b 4 0 D2=r:=⟨_,rfl⟩
   have FC3:Hid (r3.1=true→r3.2.dead=D2.dead∧r3.2.l.length=D2.l.length∧r3.2.c=[]):=Lib.hid (by rw[←hr3];exact Dv.layR_facts _ _ _)
   rw[hr3]at HLAY3
   have E3:=Lib.hid hr3
   clear hr3
   obtain⟨b3,D3⟩:=r3
   refine HLAY3.out.mono ?_
   clear HLAY3
   rintro e y3 ⟨S3,rfl,hdv,hft⟩
   have H3:Hid (DV W0 d D3 S3 y3):=Lib.hid hdv
   have G3:=Lib.hid (G2.out.trans hft)
   clear hdv hft
   cases b3 with
   | false=>
    simp only[eDead]
    go_wp2_with fail
    go_step3
    refine⟨rfl,?_⟩
    go_wp2
    simp only[Exit.jump]
    go_ret
    rw[Dv.fwrite3 E1.out E2.out E3.out]
    exact⟨S3,rfl,H3.out,G3.out⟩
   | true=>
    simp only[eDead]
    have hfs:¬S3 f:=fun hs=>(G3.out.new f hs).elim HFS.out (fun e=>by omega)
    have hbs:¬S3 bq:=fun hs=>(G3.out.new bq hs).elim HSL.out (fun e=>by omega)
    have HFS3:=Lib.hid hfs
    have HBS3:=Lib.hid hbs
    have HF3:Hid (FileBox y3 f d fr pg de):=Lib.hid (HF.out.growx G3.out.grow HFS.out)
    have HV3:Hid (Reads 1 y3 v2 512 (b.map B)):=Lib.hid (HV.out.growx G3.out.grow (fun q e hs=>HSL.out (hob q e▸hs)))
    have bf:Box y3 f [.pointer (some ⟨d,0,none⟩),.int .i64 (fr:Nat),.int .i64 (pg:Nat),.bool de]:=HF3.out
    have DF3:Hid (D3.dead=false∧D3.l.length=D.l.length∧D3.c=[]):=Lib.hid (by have:=FC3.out rfl;exact⟨this.1.trans DF2.out.1,this.2.1.trans DF2.out.2.1,this.2.2⟩)
    clear hfs hbs FC3
    go_upto_region 7 with (fail)
    have hB:Below y3.heap.size y3 y3:=Below.refl _ _
    obtain⟨HS,hHS⟩:∃n,y3.heap.size=n:=⟨_,rfl⟩
    refine wp_region_partsDC (WFw7 f d fr pg p HS de v2) 6 [[],[],[1],[1,2],[1,2,3],[]] [some 35,some 36,some 37,some 38,some 39,some 40,some 41,some 6] (by kernel_rfl) (by kernel_rfl) rfl (PFw7 f d fr pg p HS de v2) (PFw7_stable f d fr pg p HS de v2) ?pFw7 ?_
    case pFw7=>
     intro i hi o ho vs lo hx_ w' hg hp
     match i,hi with
     | 0,_|1,_=>
      obtain rfl:=Option.some.inj ho
      clear ho
      simp only[actsD,Act.put,actL]
      have hsz:=hg.size
      have hgB:Below y3.heap.size y3 w':=hg.below (fun k hk=>⟨hk,fun o=>by rintro⟨j,_,_,_,hw⟩;exact False.elim hw⟩)
      go_wp2
      exact⟨_,rfl,GrowC.refl _,rfl⟩
     | 2,_=>
      obtain rfl:=Option.some.inj ho
      clear ho
      simp only[actsD,Act.put,actL]
      obtain⟨_,_,_,h1⟩:=hp 1 (by simp)
      simp only[PFw7]at h1
      have hsz:=hg.size
      have hgB:Below y3.heap.size y3 w':=hg.below (fun k hk=>⟨hk,fun o=>by rintro⟨j,_,_,_,hw⟩;exact False.elim hw⟩)
      rw[h1]
      go_wp2
      exact⟨_,rfl,GrowC.refl _,rfl⟩
     | 3,_=>
      obtain rfl:=Option.some.inj ho
      clear ho
      simp only[actsD,Act.put,actL]
      obtain⟨_,_,_,h2⟩:=hp 2 (by simp)
      simp only[PFw7]at h2
      have hsz:=hg.size
      have hgB:Below y3.heap.size y3 w':=hg.below (fun k hk=>⟨hk,fun o=>by rintro⟨j,_,_,_,hw⟩;exact False.elim hw⟩)
      rw[h2]
      go_wp2
      exact⟨_,rfl,GrowC.refl _,rfl⟩
     | 4,_=>
      obtain rfl:=Option.some.inj ho
      clear ho
      simp only[actsD,Act.put,actL]
      obtain⟨_,_,_,h3⟩:=hp 3 (by simp)
      simp only[PFw7]at h3
      have hsz:=hg.size
      have hgB:Below y3.heap.size y3 w':=hg.below (fun k hk=>⟨hk,fun o=>by rintro⟨j,_,_,_,hw⟩;exact False.elim hw⟩)
      rw[h3]
      have e0:=(hg.cell (f) 1 bf.lt (by rintro⟨j,_,hne,hb,hw⟩;exact False.elim hw)).trans (bf.cell 1 _ rfl)
      go_wp2
      exact⟨_,rfl,GrowC.refl _,rfl⟩
     | 5,_=>
      obtain rfl:=Option.some.inj ho
      clear ho
      simp only[actsD,Act.put,actL]
      have hsz:=hg.size
      have hgB:Below y3.heap.size y3 w':=hg.below (fun k hk=>⟨hk,fun o=>by rintro⟨j,_,_,_,hw⟩;exact False.elim hw⟩)
      go_wp2_with fail
      refine(head_any w' (-1) 0 (by omega) (by omega)).mono ?_
      rintro e wh ⟨g,rfl,h1,h2,h3⟩
      go_wp2
      exact⟨_,rfl,GrowC.of_grow ⟨h3.os,h3.tape,h3.output,h3.size,fun k hk=>h3.block k hk (fun h=>h)⟩,g,rfl,by have:=hHS;omega,h1⟩
     | (q+6),hq=>exact absurd hq (by omega)
    intro vS lo hi w5 hg hp hd
    obtain⟨_,_,_,h0⟩:=hp 0 (by decide)
    obtain⟨_,_,_,h1⟩:=hp 1 (by decide)
    obtain⟨_,_,_,h2⟩:=hp 2 (by decide)
    obtain⟨_,_,_,h3⟩:=hp 3 (by decide)
    obtain⟨_,_,_,h4⟩:=hp 4 (by decide)
    obtain⟨_,_,_,h5⟩:=hp 5 (by decide)
    simp only[PFw7]at h0 h1 h2 h3 h4 h5
    clear hp hd
    have hsz:=hg.size
    replace bf:=bf.grow hg (by intro i _;rintro⟨j,_,hw⟩;exact False.elim hw)
    replace hB:=hB.trans (hg.below (fun k hk=>⟨by omega,fun o=>by rintro⟨j,_,hw⟩;exact False.elim hw⟩))
    have hr:List.range 6=[0,1,2,3,4,5]:=rfl
    rw[hr]
    clear hr
    simp only[List.drop_succ_cons,List.drop_zero,List.drop_nil,actsD,Act.put,actL,h0,h1,h2,h3,h4]
    clear h0 h1 h2 h3 h4
    have hgr5:GrowX (fun _=>False) y3 w5:=grow_below hB
    have HV5:Hid (DV W0 d D3 S3 w5):=Lib.hid (H3.out.below hB)
    have HB5:Hid (FileBox w5 f d fr pg de):=Lib.hid bf
    obtain⟨gh,eh,hgh,hbh⟩:=h5
    rw[eh]
    have HLAY4:=Lib.hid (lay_dv HB5.out HFS3.out HV5.out DF3.out.1 fr 1 (by omega) (by have:=HQ.out;have:=DF3.out.2.1;omega) (by have:=DF3.out.2.2;rw[this];simp) (headL 0 8) (headL_len _ (by omega)) (.slice (some ⟨gh,0,none⟩) 128 128) (hbh.reads (headL_len _ (by omega))) (fun q e hs=>by have e2:gh=q:=(by simpa[Value.ownBlock]using e);have:=(H3.out.lt q hs).2;omega))
    have HGH:=Lib.hid hgh
    clear hbh bf hB hg hsz hgh
    go_wp2_with fail
    obtain⟨r4,hr4⟩:∃r,Dv.layR fr (headL 0 8) 1 0 D3=r:=⟨_,rfl⟩
    have FC4:Hid (r4.1=true→r4.2.dead=D3.dead∧r4.2.l.length=D3.l.length∧r4.2.c=[]):=Lib.hid (by rw[←hr4];exact Dv.layR_facts _ _ _)
    rw[hr4]at HLAY4
    have E4:=Lib.hid hr4
    clear hr4
    obtain⟨b4,D4⟩:=r4
    refine HLAY4.out.mono ?_
    clear HLAY4
    rintro e y4 ⟨S4,rfl,hdv,hft⟩
    have H4:Hid (DV W0 d D4 S4 y4):=Lib.hid hdv
    have G4:=Lib.hid (G3.out.trans ((Foot.below hgr5).trans hft))
    clear hdv hft
    go_wp2_with fail
    refine wp_label ?_
    go_wp2
    simp only[Exit.jump]
    go_ret
    rw[Dv.fwrite4 E1.out E2.out E3.out,E4.out]
    exact⟨S4,rfl,H4.out,G4.out⟩
end
section
open Go.RowKit
theorem Dv.good.fwrite{D:Dv}(h:D.good)(fr p:Nat)(b:List UInt8)(hb:b.length=512)(hq:fr+5+4*(p+1)≤D.l.length):
  (D.fwrite fr p b).1=true∧(D.fwrite fr p b).2.good∧(D.fwrite fr p b).2.l.length=D.l.length∧(D.fwrite fr p b).2.c=[]∧
  ∀i,fr+5≤i→(D.fwrite fr p b).2.sec i=if fr+5+4*p≤i∧i<fr+5+4*p+4 then chunk b (i-(fr+5+4*p))else D.sec i:=by
 obtain⟨a1,a2,a3,a4,a5⟩:=Dv.good.layR (q:=fr+1) (b:=b) 4 0 D h (by omega) (by omega)
 obtain⟨b1,b2,b3,b4,b5⟩:=Dv.good.layR (q:=fr) (b:=headL (p+1) 8) 1 0 _ a2 (by omega) (by rw[headL_len _ (by omega)])
 obtain⟨c1,c2,c3,c4,c5⟩:=Dv.good.layR (q:=fr+5+4*p) (b:=b) 4 0 _ b2 (by omega) (by omega)
 obtain⟨d1,d2,d3,d4,d5⟩:=Dv.good.layR (q:=fr) (b:=headL 0 8) 1 0 _ c2 (by omega) (by rw[headL_len _ (by omega)])
 unfold Dv.fwrite
 rw[if_pos a1,if_pos b1,if_pos c1]
 refine⟨d1,d2,d3.trans (c3.trans (b3.trans a3)),d4,fun i hi=>?_⟩
 rw[d5,if_neg (by omega),c5]
 by_cases hr:fr+5+4*p≤i∧i<fr+5+4*p+4
 ·rw[if_pos hr,if_pos (by omega)]
 ·rw[if_neg hr,if_neg (by omega),b5,if_neg (by omega),a5,if_neg (by omega)]
theorem Dv.good.fwrite_pages{D:Dv}(h:D.good)(fr p:Nat)(b:List UInt8)(hb:b.length=512)(hq:fr+5+4*(p+1)≤D.l.length)(q:Nat):
  secsD (D.fwrite fr p b).2 (fr+5+4*q) 4=if q=p then b else secsD D (fr+5+4*q) 4:=by
 obtain⟨_,_,_,_,hs⟩:=h.fwrite fr p b hb hq
 by_cases e:q=p
 ·subst e
  rw[if_pos rfl,secsD_chunks (b:=b) (by omega) (fun k hk=>?_)]
  ·exact List.take_of_length_le (by omega)
  ·rw[hs _ (by omega),if_pos (by omega)]
   congr 1;omega
 ·rw[if_neg e]
  exact secsD_ext (fun i h1 h2=>by rw[hs i (by omega),if_neg (by omega)])
def FV(W0:World)(f d fr pg:Nat)(P:Nat→List UInt8)(S:Nat→Prop)(w:World):Prop:=
 ∃D S0,FileBox w f d fr pg false∧¬S0 f∧W0.heap.size≤f∧DV W0 d D S0 w∧D.good∧D.c.length≤1000∧fr+5+4*pg≤D.l.length∧(∀q,q<pg→secsD D (fr+5+4*q) 4=P q)∧S=fun k=>k=f∨S0 k
theorem FV.lt{W0 w:World}{f d fr pg:Nat}{P:Nat→List UInt8}{S:Nat→Prop}(h:FV W0 f d fr pg P S w):∀k,S k→W0.heap.size≤k∧k<w.heap.size:=by
 obtain⟨D,S0,h1,h2,h3,h4,h5,h6,h7,h8,rfl⟩:=h
 rintro k (rfl|hk)
 ·exact⟨h3,h1.lt⟩
 ·exact h4.lt k hk
theorem FV.bel{W0 w:World}{f d fr pg:Nat}{P:Nat→List UInt8}{S:Nat→Prop}(h:FV W0 f d fr pg P S w):Below W0.heap.size W0 w:=by
 obtain⟨D,S0,h1,h2,h3,h4,h5,h6,h7,h8,rfl⟩:=h
 exact h4.bel
theorem FV.grow{W0 w w':World}{f d fr pg:Nat}{P:Nat→List UInt8}{S X:Nat→Prop}(h:FV W0 f d fr pg P S w)(hg:GrowX X w w')(hX:Disj S X)(hB:Below W0.heap.size W0 w'):FV W0 f d fr pg P S w':=by
 obtain⟨D,S0,h1,h2,h3,h4,h5,h6,h7,h8,rfl⟩:=h
 exact⟨D,S0,h1.growx hg (fun hx=>hX f (.inl rfl) hx),h2,h3,h4.grow hg (fun k hk hx=>hX k (.inr hk) hx) hB,h5,h6,h7,h8,rfl⟩
theorem FV.below{W0 w w':World}{f d fr pg:Nat}{P:Nat→List UInt8}{S:Nat→Prop}(h:FV W0 f d fr pg P S w)(hb:Below w.heap.size w w'):FV W0 f d fr pg P S w':=
 h.grow (X:=fun _=>False) (grow_below hb) (fun _ _ h=>h) (h.bel.trans (hb.mono h.bel.size))
theorem FV.box{W0 w:World}{f d fr pg:Nat}{P:Nat→List UInt8}{S:Nat→Prop}(h:FV W0 f d fr pg P S w):FileBox w f d fr pg false:=by
 obtain⟨D,S0,h1,_⟩:=h
 exact h1
theorem FV.self{W0 w:World}{f d fr pg:Nat}{P:Nat→List UInt8}{S:Nat→Prop}(h:FV W0 f d fr pg P S w):S f:=by
 obtain⟨D,S0,h1,h2,h3,h4,h5,h6,h7,h8,rfl⟩:=h
 exact .inl rfl
theorem FV.small{W0 w:World}{f d fr pg:Nat}{P:Nat→List UInt8}{S:Nat→Prop}(h:FV W0 f d fr pg P S w):fr+5+4*pg≤8192:=by
 obtain⟨D,S0,h1,h2,h3,h4,h5,h6,h7,h8,rfl⟩:=h
 have:=h5.ok.n
 omega
theorem FV.len{W0 w:World}{f d fr pg:Nat}{P:Nat→List UInt8}{S:Nat→Prop}(h:FV W0 f d fr pg P S w){q:Nat}(hq:q<pg):(P q).length=512:=by
 obtain⟨D,S0,h1,h2,h3,h4,h5,h6,h7,h8,rfl⟩:=h
 rw[←h8 q hq,secsD_len h5.ok (by omega)]
end
section
open Go.RowKit
theorem DV.size{W0 w:World}{d:Nat}{D:Dv}{S:Nat→Prop}(h:DV W0 d D S w):
  Calls Tryz.prog 77 #[.pointer (some ⟨d,0,none⟩)] w fun e w'=>e=.returned (.int .i64 (D.l.length:Nat))∧w'=w:=by
 obtain⟨vl,vc,EL,EC,K,h1,h2,h3,rfl⟩:=h
 exact size_at h1
theorem DV.self{W0 w:World}{d:Nat}{D:Dv}{S:Nat→Prop}(h:DV W0 d D S w):S d:=by
 obtain⟨_,_,_,_,_,_,_,_,rfl⟩:=h
 exact .inl rfl
end
section
def Dv.reads(D:Dv):Nat→Dv
 | 0=>D
 | k+1=>{ Dv.reads D k with calls:=wrapC (Dv.reads D k).calls }
structure Fm where
 page:Int
 b:List UInt8
 dirty:Bool
 marked:Bool
 rc:Int
 lsn:Int
instance:Inhabited Fm:=⟨⟨-1,[],false,false,0,0⟩⟩
def Fm.free:Fm:=⟨-1,[],false,false,0,0⟩
structure Pq where
 F:List Fm
 hand:Nat
 wr:Nat
structure IoF(T:Type) where
 step:T→Int→Int×T
 wr:T→Nat→List UInt8→T
 rd:T→T
 pgs:T→Nat→List UInt8
def isP(m:Int)(x:Fm):Bool:=if x.page=m then decide (0≤m)else false
def isE(x:Fm):Bool:=decide (x.page<0)
def findL(F:List Fm)(m:Int):Option Nat:=F.findIdx? (isP m)
def freeL(F:List Fm):Option Nat:=F.findIdx? isE
section
variable{T:Type}(O:IoF T)
def Pq.clean(p:Pq)(s:T)(i:Nat):Int×Pq×T:=
 if (p.F.getD i Fm.free).dirty then
  if (O.step s (p.F.getD i Fm.free).lsn).1=0 then
   (0,{ p with F:=p.F.set i { p.F.getD i Fm.free with dirty:=false },wr:=p.wr+1 },O.wr (O.step s (p.F.getD i Fm.free).lsn).2 (p.F.getD i Fm.free).page.toNat (p.F.getD i Fm.free).b)
  else((O.step s (p.F.getD i Fm.free).lsn).1,p,(O.step s (p.F.getD i Fm.free).lsn).2)
 else(0,p,s)
def sweep(n:Nat):Nat→List Fm→Nat→List Fm×Nat×Nat
 | 0,F,h=>(F,h,h)
 | m+1,F,h=>if (F.getD h Fm.free).marked then sweep n m (F.set h { F.getD h Fm.free with marked:=false }) ((h+1) % n)else(F,(h+1) % n,h)
def Pq.swept(p:Pq):List Fm×Nat×Nat:=sweep p.F.length (p.F.length+1) p.F p.hand
def Pq.freed(r:Nat)(c:Int×Pq×T):Int×Nat×Pq×T:=
 if c.1=0 then(0,r,{ c.2.1 with F:=c.2.1.F.set r Fm.free },c.2.2)else(c.1,0,c.2.1,c.2.2)
def Pq.free(p:Pq)(s:T):Int×Nat×Pq×T:=
 match freeL p.F with
 | some i=>(0,i,p,s)
 | none=>Pq.freed p.swept.2.2 (Pq.clean O { p with F:=p.swept.1,hand:=p.swept.2.1 } s p.swept.2.2)
def Pq.evict(p:Pq)(s:T)(m:Int):Int×Pq×T:=
 match findL p.F m with
 | none=>(0,p,s)
 | some i=>if (p.clean O s i).1=0 then(0,{ (p.clean O s i).2.1 with F:=(p.clean O s i).2.1.F.set i Fm.free },(p.clean O s i).2.2)else p.clean O s i
def Pq.got(m:Int)(b:List UInt8)(r:Int×Nat×Pq×T):Int×List UInt8×Pq×T:=
 if r.1=0 then(0,b,{ r.2.2.1 with F:=r.2.2.1.F.set r.2.1 ⟨m,b,false,true,0,0⟩ },r.2.2.2)else(r.1,[],r.2.2.1,r.2.2.2)
def Pq.get(pg:Nat)(p:Pq)(s:T)(m:Int):Int×List UInt8×Pq×T:=
 match findL p.F m with
 | some i=>(0,(p.F.getD i Fm.free).b,{ p with F:=p.F.set i { p.F.getD i Fm.free with marked:=true } },s)
 | none=>if 0≤m∧m<(pg:Int)then Pq.got m (O.pgs s m.toNat) (p.free O (O.rd s))else(1,[],p,s)
def Pq.putAt(q:Pq)(i:Nat)(m:Int)(b:List UInt8)(l:Int):Pq:=
 { q with F:=q.F.set i ⟨m,b,true,true,if (q.F.getD i Fm.free).page=m∧(q.F.getD i Fm.free).dirty=true then(q.F.getD i Fm.free).rc else l,l⟩ }
def Pq.put(pg:Nat)(p:Pq)(s:T)(m:Int)(b:List UInt8)(l:Int):Int×Pq×T:=
 if 0≤m∧m<(pg:Int)∧b.length=512∧1≤l then
  match findL p.F m with
  | some i=>(0,p.putAt i m b l,s)
  | none=>if (p.free O s).1=0 then(0,(p.free O s).2.2.1.putAt (p.free O s).2.1 m b l,(p.free O s).2.2.2)else((p.free O s).1,(p.free O s).2.2.1,(p.free O s).2.2.2)
 else(1,p,s)
def Pq.new(n:Nat):Pq:=⟨List.replicate n Fm.free,0,0⟩
end
end
end Go.Proofs.YtpajagkhmodbnaaGreat

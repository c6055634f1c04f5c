/- Pk: texts of the store seat laid together by program: ScMaps ScCount ScTake. Conditions: each theorem names its own. -/
import Derived.Test.YtpajagkhmodbnaaGreatPk28
import Derived.Deep.DeepCutAuto
import Derived.Deep.CutBlock
namespace Go.Proofs.YtpajagkhmodbnaaGreat
set_option linter.unusedSimpArgs false
set_option linter.unusedVariables false
section
open Go.RowKit
def mapsI(n:Int):Int:=if n<1 then 0 else(n-1) / 504+1
theorem mapsI_one(n:Nat)(h1:1≤n)(h2:n≤504):mapsI (n:Int)=1:=by
  unfold mapsI
  rw[if_neg (by omega)]
  omega
set_option maxRecDepth 100000 in
set_option maxHeartbeats 3200000 in
theorem maps_any(w:World)(n:Int)(h1 : -9223372036854775808≤n)(h2:n≤9223372036854775807):
    Calls Tryz.prog 19 #[.int .i64 n] w fun e w'=>e=.returned (.int .i64 (mapsI n))∧w'=w:=by
  by_cases h:n<1
  · have hE:=Lib.hid (show mapsI n=0 by unfold mapsI;rw[if_pos h])
    have hb:decide (n<1)=true:=by simpa using h
    rw[hE.out]
    go_enter Tryz.func19,Tryz.ntmps19
    go_wp2_with fail
    go_ret
    exact⟨rfl,rfl⟩
  · have hE:=Lib.hid (show mapsI n=(n-1) / 504+1 by unfold mapsI;rw[if_neg h])
    have hb:decide (n<1)=false:=by simpa using h
    rw[hE.out]
    go_enter Tryz.func19,Tryz.ntmps19
    go_wp2_with fail
    go_ret
    exact⟨rfl,rfl⟩
theorem maps_one(w:World)(n:Nat)(h1:1≤n)(h2:n≤504):
    Calls Tryz.prog 19 #[.int .i64 (n:Nat)] w fun e w'=>e=.returned (.int .i64 1)∧w'=w:=by
  have h:=maps_any w (n:Int) (by omega) (by omega)
  rw[mapsI_one n h1 h2]at h
  exact h
theorem make1(w:World):(Instr.makeSlice 48 (.int .i64 1) (.int .i64 1)).run Tryz.prog w=.ok (.slice (some ⟨w.heap.size,0,none⟩) 1 1) (w.alloc (.cells #[B 0] 5)):=by
  obtain⟨i0,hi,hz0,hz1,hz2⟩:=info_parts (P:=Tryz.prog) (e:=5) (z:=.int .u8 0) (size:=1) (bytes:=1) (by kernel_rfl)
  have h:=run_make (P:=Tryz.prog) w 48 5 i0 (.int .u8 0) Tryz.underlying48 hi hz0 .i64 .i64 1 1 (by decide) (by decide) (by rw[hz2];decide) (by decide)
  rw[h,hz1]
  have e:madeCells (Value.int .u8 0).cells (Int.toNat 1*1)=#[B 0]:=by
    apply Array.ext'
    have e1:=toList_madeCells_one (.int .u8 0) 1
    show(madeCells #[.int .u8 0] 1).toList=_
    rw[e1]
    rfl
  rw[e]
  rfl
theorem Box.one{w:World}{g:Nat}{a:UInt8}(bx:Box w g [B a]):Reads 1 w (.slice (some ⟨g,0,none⟩) 1 1) 1 ([a].map B):=
  ⟨_,_,rfl,rfl,Nat.le_refl _,fun _=>⟨g,0,rfl,bx.lt,fun j u hu=>by rw[Nat.zero_add];exact bx.cell j u hu⟩⟩
section
variable{W0 w w' w2:World}{A:Adr}{c:Cf}{σ:St}{S X:Nat→Prop}{k b:Nat}{W:Nat→List UInt8}
def Wrote(σ σ':St)(i:Nat)(x:Tx)(W:Nat→List UInt8)(p off:Nat)(bs:List UInt8):Prop:=
  σ'.next=σ.next∧((((W p).drop off).take bs.length=bs∧σ'.opn=σ.opn∧σ'.lines=σ.lines∧σ'.io.R.tail=σ.io.R.tail)∨
       (((W p).drop off).take bs.length≠bs∧σ'.opn=σ.opn.set i { x with last:=σ.io.R.tail+1,l:=x.l++[⟨σ.io.R.tail+1,x.last,p,off,((W p).drop off).take bs.length⟩] }∧σ'.lines=σ.lines++[(σ.io.R.tail+1,wrRc x.id x.last p off (((W p).drop off).take bs.length) bs)]∧σ'.io.R.tail=σ.io.R.tail+(96+2*bs.length)))
theorem Wrote.like{σ0:St}{i:Nat}{x:Tx}{p off:Nat}{bs:List UInt8}{σ':St}(h:Wrote σ σ' i x W p off bs)(hl:Like σ0 σ):Wrote σ0 σ' i x W p off bs:=by
  unfold Wrote at h⊢
  rw[hl.opn,hl.next,hl.lines,hl.tail]at h
  exact h
theorem write1_st(h:Sto W0 A c k b σ W S w)(hk:k≤900000){i:Nat}{x:Tx}(hx:σ.opn[i]? = some x)(p off:Nat)(a:UInt8)(g:Nat)(hv:Box w g [B a])(hpg:p<c.pg)(hoff:off<504)
    (hbusy:σ.busy (x.id:Int) p off 1=false) (harg:¬S g) (hb:b+195+2048≤(c.n-1)*118):
    Calls Tryz.prog 31 #[.pointer (some ⟨A.sb,0,none⟩),.int .i64 (x.id:Nat),.int .i64 (p:Nat),.int .i64 (off:Nat),.slice (some ⟨g,0,none⟩) 1 1] w fun er w'=>∃σ' S',er=.returned (.int .i64 0)∧Sto W0 A c (k+3) (b+195) σ' (updV W p (overB (W p) off [a])) S' w'∧Foot S S' w w'∧Wrote σ σ' i x W p off [a]:=by
  refine(write_st h hk hx p off [a] (some ⟨g,0,none⟩) 1 1 hv.one rfl hpg (by omega) hbusy (fun q e=>by have e2:g=q:=(by simpa[Value.ownBlock]using e);exact e2▸⟨harg,hv.lt⟩) hb).mono ?_
  rintro e w' ⟨σ',S',rfl,h1,h2,h3,h4⟩
  exact⟨σ',S',rfl,h1,h2,h3,h4⟩
set_option maxRecDepth 100000 in
set_option maxHeartbeats 3200000 in
theorem format_st (h:Sto W0 A c k b σ W S w) (hk:k≤900000) {i:Nat} {x:Tx} (hx:σ.opn[i]? = some x) (hp1:1≤c.pg) (hp2:c.pg≤504) (hbusy:σ.busy (x.id:Int) 0 0 1=false) (hb:b+195+2048≤(c.n-1)*118):
    Calls Tryz.prog 93 #[.pointer (some ⟨A.sb,0,none⟩),.int .i64 (x.id:Nat)] w fun er w'=>∃σ' S',er=.returned (.int .i64 0)∧Sto W0 A c (k+3) (b+195) σ' (updV W 0 (overB (W 0) 0 [1])) S' w'∧Foot S S' w w'∧Wrote σ σ' i x W 0 0 [1]:=by
  have hlt:=h.lt
  have HP:=Lib.hid (pages_st h)
  have HM:=Lib.hid (maps_one w c.pg hp1 hp2)
  have HW:=Lib.hid (fun(w1:World) (hbl:Below w.heap.size w w1) (g:Nat) (bx:Box w1 g [B 1]) (hg:¬S g)=>write1_st (h.below hbl) hk hx 0 0 1 g bx (by omega) (by decide) hbusy hg hb)
  obtain⟨t,ht⟩:∃t:Nat,x.id=t:=⟨_,rfl⟩
  rw[ht]at HW⊢
  have HLT:=Lib.hid hlt
  have hmk:=make1
  clear h hx hbusy hlt hb ht
  go_enter Tryz.func93,Tryz.ntmps93
  go_wp2_with fail
  refine HP.out.mono ?_
  rintro e y ⟨rfl,rfl⟩
  go_wp2_with fail
  refine HM.out.mono ?_
  rintro e y ⟨rfl,rfl⟩
  go_wp2_with fail
  go_loopw [6,7,8,9,10,15] (fun z6 z7 z8 z9 z10 j wr=>(j=.int .i64 0∧wr=y)∨(j=.int .i64 1∧∃σ' S',Sto W0 A c (k+3) (b+195) σ' (updV W 0 (overB (W 0) 0 [1])) S' wr∧Foot S S' y wr∧Wrote σ σ' i x W 0 0 [1])) (fun _ _ _ _ _ j _=>1-(intOf j).toNat)
  case atStart=>exact .inl ⟨rfl,rfl⟩
  case round=>
    rcases hrel with ⟨rfl,rfl⟩|⟨rfl,σ',S',h1,h2,h3⟩
    · have hmin:min (1:Int) 504=1:=by decide
      obtain⟨g,hg⟩:∃g,wr.heap.size=g:=⟨_,rfl⟩
      have bx:=Box.new wr #[B 0] 5 rfl
      have hal:=(Below.refl wr.heap.size wr).alloc (Nat.le_refl _) (.cells #[B 0] 5)
      have HG:=Lib.hid hg
      have hm1:=hmk wr
      rw[hg]at bx hm1
      clear hmk
      have HBX:=Lib.hid bx
      have HAL:=Lib.hid hal
      have cx:=bx.cell 0 _ rfl
      have lx:=bx.lt
      have fx:=bx.free
      clear bx hal
      go_wp2_with fail
      clear hm1
      generalize wr.alloc (.cells #[B 0] 5)=y1 at *
      go_loopw [9,29] (fun z9 z29 wq=>(z29=.int .i64 0∧wq=y1)∨(z29=.int .i64 1∧wq=y1.setCell ⟨g,0,none⟩ (B 1))) (fun _ q _=>1-(intOf q).toNat)
      case atStart=>exact .inl ⟨rfl,rfl⟩
      case round=>
        rcases hrel with ⟨rfl,rfl⟩|⟨rfl,rfl⟩
        · go_wp2_with fail
          go_roundw
          · exact .inr ⟨by rfl,rfl⟩
          · simp[intOf]
        · obtain⟨bx1,gc1⟩:=HBX.out.set1 0 (B 1)
          have hb1:Below wr.heap.size wr (y1.setCell ⟨g,0,none⟩ (B 1)):=HAL.out.trans ((growX_setCell y1 g 0 (B 1)).below (fun q hq=>⟨by have:=HAL.out.size;omega,fun e=>by have:=HG.out;omega⟩))
          have HWW:=Lib.hid (HW.out _ hb1 g bx1 (fun hs=>by have:=(HLT.out g hs).2;have:=HG.out;omega))
          have HB1:=Lib.hid hb1
          clear bx1 gc1 hb1 cx fx lx
          go_wp2_with fail
          refine HWW.out.mono ?_
          rintro er y2 ⟨σ',S',rfl,h1,h2,h3⟩
          have H1:=Lib.hid h1
          have H2:=Lib.hid h2
          have H3:=Lib.hid h3
          clear h1 h2 h3 HWW
          go_wp2_with fail
          go_roundw
          · exact .inr ⟨by rfl,σ',S',H1.out,Foot.step_below HB1.out H2.out,H3.out⟩
          · simp[intOf]
    · have H1:=Lib.hid h1
      have H2:=Lib.hid h2
      have H3:=Lib.hid h3
      clear h1 h2 h3
      go_wp2_with fail
      go_ret
      exact⟨σ',S',rfl,H1.out,H2.out,H3.out⟩
end
end
section
open Go.RowKit
def cntB(l:List UInt8):Nat:=l.countP (fun b=>decide (b≠0))
theorem cntB_succ(l:List UInt8)(q:Nat)(a:UInt8)(h:l[q]? = some a):cntB (l.take (q+1))=cntB (l.take q)+if a=0 then 0 else 1:=by
  unfold cntB
  rw[List.take_add_one,h,List.countP_append]
  by_cases e:a=0
  · subst e;simp
  · simp[e]
theorem cntB_le(l:List UInt8):cntB l≤l.length:=List.countP_le_length
section
variable{W0 w w' w2:World}{A:Adr}{c:Cf}{σ:St}{S X:Nat→Prop}{k b:Nat}{W:Nat→List UInt8}
set_option maxRecDepth 100000 in
set_option maxHeartbeats 3200000 in
theorem count_st (h:Sto W0 A c k b σ W S w) (hk:k≤900000) (hp1:1≤c.pg) (hp2:c.pg≤504):
    Calls Tryz.prog 26 #[.pointer (some ⟨A.sb,0,none⟩)] w fun er w'=>∃σ' S',er=.returned (.tuple #[.int .i64 (cntB ((W 0).take c.pg):Nat),.int .i64 0])∧Sto W0 A c (k+1) b σ' W S' w'∧Foot S S' w w'∧Like σ σ':=by
  have HP:=Lib.hid (pages_st h)
  have HM:=Lib.hid (maps_one w c.pg hp1 hp2)
  have hrd:=read_st h 0 0 c.pg (by omega) (by omega) hk
  simp only[List.drop_zero]at hrd
  obtain⟨l,hl⟩:∃l,(W 0).take c.pg=l:=⟨_,rfl⟩
  rw[hl]at hrd⊢
  obtain⟨pg,hpg⟩:∃x,c.pg=x:=⟨_,rfl⟩
  rw[hpg]at hrd HP HM hp1 hp2
  have HR:=Lib.hid hrd
  have hmin:min (504:Int) ((pg:Nat):Int)=(pg:Int):=by omega
  clear h hrd hl hpg
  go_enter Tryz.func26,Tryz.ntmps26
  go_wp2_with fail
  refine HP.out.mono ?_
  rintro e y ⟨rfl,rfl⟩
  go_wp2_with fail
  refine HM.out.mono ?_
  rintro e y ⟨rfl,rfl⟩
  go_wp2_with fail
  go_loopw [4,5,6,7,9,13] (fun z4 z5 z6 z7 z9 j wr=>(j=.int .i64 0∧z4=.int .i64 0∧wr=y)∨(j=.int .i64 1∧z4=.int .i64 (cntB l:Nat)∧∃σ' S',Sto W0 A c (k+1) b σ' W S' wr∧Foot S S' y wr∧Like σ σ')) (fun _ _ _ _ _ j _=>1-(intOf j).toNat)
  case atStart=>exact .inl ⟨rfl,rfl,rfl⟩
  case round=>
    rcases hrel with ⟨rfl,rfl,rfl⟩|⟨rfl,rfl,σ',S',h1,h2,h3⟩
    · go_wp2_with fail
      refine HP.out.mono ?_
      rintro e y2 ⟨rfl,rfl⟩
      go_wp2_with fail
      refine HR.out.mono ?_
      rintro e y3 ⟨v,σ',S',rfl,hrow,hlen,hns,hst,hft,hlk⟩
      obtain⟨g,cap,rfl,_,hcap⟩:=own_slice hrow (by omega)
      have HROW:=Lib.hid hrow
      have HST:=Lib.hid hst
      have HFT:=Lib.hid hft
      have HLK:=Lib.hid hlk
      have HLEN:=Lib.hid hlen
      clear hrow hst hft hlk hns hlen HR
      go_wp2_with fail
      go_loopw [4,9,33] (fun z4 z9 j wq=>∃q:Nat,q≤pg∧j=.int .i64 (q:Nat)∧z4=.int .i64 (cntB (l.take q):Nat)∧wq=y3) (fun _ _ j _=>pg-(intOf j).toNat)
      case atStart=>exact⟨0,Nat.zero_le _,rfl,rfl,rfl⟩
      case round=>
        obtain⟨q,hq,rfl,rfl,rfl⟩:=hrel
        have hcq:cntB (l.take q)≤504:=by have h1:=cntB_le (l.take q);rw[List.length_take]at h1;omega
        by_cases hqn:q<pg
        · obtain⟨a,ha⟩:∃a,l[q]? = some a:=⟨_,List.getElem?_eq_getElem (by rw[HLEN.out];exact hqn)⟩
          have hc0:World.cell? _ ⟨g,q,none⟩=some (Value.int .u8 (a.toNat:Int)):=own_at HROW.out q (B a) (by rw[List.getElem?_map,ha];rfl)
          have hlg:=(HROW.out.lt g rfl).2
          have hsc:=cntB_succ l q a ha
          by_cases h0:a=0
          · subst h0
            replace hc0:World.cell? _ ⟨g,q,none⟩=some (Value.int .u8 0):=hc0
            rw[if_pos rfl,Nat.add_zero]at hsc
            have HSC:=Lib.hid hsc
            clear hsc ha
            go_wp2_with fail
            go_roundw
            · exact⟨q+1,by omega,by go_num,by rw[HSC.out];rfl,trivial⟩
            · simp[intOf];omega
          · rw[if_neg h0]at hsc
            have hbn:=byte_bne h0 (show((0:UInt8).toNat:Int)=0 by decide)
            have hbm:=byte_ne h0 (show((0:UInt8).toNat:Int)=0 by decide)
            have HSC:=Lib.hid hsc
            have hd:decide ((a.toNat:Int)=0)=false:=by simpa using hbm
            clear hsc ha
            go_wp2_with fail
            go_roundw
            · exact⟨q+1,by omega,by go_num,by rw[HSC.out];go_num,trivial⟩
            · simp[intOf];omega
        · obtain rfl:q=pg:=by omega
          have htk:l.take q=l:=List.take_of_length_le (by rw[HLEN.out];exact Nat.le_refl _)
          rw[htk]
          go_wp2_with fail
          go_roundw
          · exact .inr ⟨by rfl,rfl,σ',S',HST.out,HFT.out,HLK.out⟩
          · simp[intOf]
    · have H1:=Lib.hid h1
      have H2:=Lib.hid h2
      have H3:=Lib.hid h3
      clear h1 h2 h3
      go_wp2_with fail
      go_ret2
      exact⟨σ',S',rfl,H1.out,H2.out,H3.out⟩
def takenI(l:List UInt8)(pg:Nat)(p:Int):Bool×Int:=if p<0∨(pg:Int)≤p then(false,1)else(decide (l.getD p.toNat 0≠0),0)
set_option maxRecDepth 100000 in
set_option maxHeartbeats 3200000 in
theorem taken_st (h:Sto W0 A c k b σ W S w) (hk:k≤900000) (hp1:1≤c.pg) (hp2:c.pg≤504) (p:Int) (hi1 : -9223372036854775808≤p) (hi2:p≤9223372036854775807):
    Calls Tryz.prog 25 #[.pointer (some ⟨A.sb,0,none⟩),.int .i64 p] w fun er w'=>∃σ' S',er=.returned (.tuple #[.bool (takenI (W 0) c.pg p).1,.int .i64 (takenI (W 0) c.pg p).2])∧Sto W0 A c (k+1) b σ' W S' w'∧Foot S S' w w'∧Like σ σ':=by
  have HP:=Lib.hid (pages_st h)
  have H0:=Lib.hid (h.more (k+1) (by omega))
  by_cases hn:p<0
  · have hE:=Lib.hid (show takenI (W 0) c.pg p=(false,1) by unfold takenI;rw[if_pos (.inl hn)])
    have hb1:decide (p<0)=true:=by simpa using hn
    rw[hE.out]
    clear h
    go_enter Tryz.func25,Tryz.ntmps25
    go_wp2_with fail
    go_ret2
    exact⟨σ,S,rfl,H0.out,Foot.below (GrowX.refl _),Like.refl _⟩
  · have hb1:decide (p<0)=false:=by simpa using hn
    by_cases hq:(c.pg:Int)≤p
    · have hE:=Lib.hid (show takenI (W 0) c.pg p=(false,1) by unfold takenI;rw[if_pos (.inr hq)])
      have hb2:decide ((c.pg:Int)≤p)=true:=by simpa using hq
      have hb3:decide (p≥(c.pg:Int))=true:=by simpa using hq
      rw[hE.out]
      clear h
      go_enter Tryz.func25,Tryz.ntmps25
      go_wp2_with fail
      refine HP.out.mono ?_
      rintro e y ⟨rfl,rfl⟩
      go_wp2_with fail
      go_ret2
      exact⟨σ,S,rfl,H0.out,Foot.below (GrowX.refl _),Like.refl _⟩
    · obtain⟨q,rfl⟩:∃q:Nat,p=(q:Int):=⟨p.toNat,by omega⟩
      have hq2:q<c.pg:=by omega
      have hb2:decide ((c.pg:Int)≤(q:Int))=false:=by simp;omega
      have hb4:decide (c.pg≤q)=false:=by simp;omega
      have hwl:=h.std.len (show 0<c.pg by omega)
      obtain⟨a,ha⟩:∃a,(W 0)[q]? = some a:=⟨_,List.getElem?_eq_getElem (by omega)⟩
      obtain⟨bo,hbo⟩:∃bo,decide (a≠0)=bo:=⟨_,rfl⟩
      have hE:=Lib.hid (show takenI (W 0) c.pg (q:Int)=(bo,0) by unfold takenI;rw[if_neg (by omega),Int.toNat_natCast,List.getD_eq_getElem?_getD,ha,←hbo];rfl)
      have hrd:=read_st h 0 q 1 (by omega) (by omega) hk
      have h1:((W 0).drop q).take 1=[a]:=by
        obtain⟨hi,he⟩:=List.getElem?_eq_some_iff.1 ha
        rw[List.drop_eq_getElem_cons hi,he];rfl
      rw[h1]at hrd
      have HR:=Lib.hid hrd
      have hdv:(q:Int) / 504=0:=by omega
      have hmd:(q:Int) % 504=(q:Int):=by omega
      have hdv2:Int.tdiv (q:Int) 504=0:=by rw[Int.tdiv_eq_ediv_of_nonneg (by omega)];exact hdv
      have hmd2:Int.tmod (q:Int) 504=(q:Int):=by rw[Int.tmod_eq_emod_of_nonneg (by omega)];exact hmd
      rw[hE.out]
      clear h hrd h1
      go_enter Tryz.func25,Tryz.ntmps25
      go_wp2_with fail
      refine HP.out.mono ?_
      rintro e y ⟨rfl,rfl⟩
      go_wp2_with fail
      refine HR.out.mono ?_
      rintro e y3 ⟨v,σ',S',rfl,hrow,hlen,hns,hst,hft,hlk⟩
      obtain⟨g,cap,rfl,_,hcap⟩:=own_slice hrow (by decide)
      have hc0:World.cell? _ ⟨g,0,none⟩=some (Value.int .u8 (a.toNat:Int)):=own_at hrow 0 (B a) rfl
      have hlg:=(hrow.lt g rfl).2
      have HST:=Lib.hid hst
      have HFT:=Lib.hid hft
      have HLK:=Lib.hid hlk
      clear hrow hst hft hlk hns hlen HR HP
      by_cases h0:a=0
      · subst h0
        replace hc0:World.cell? _ ⟨g,0,none⟩=some (Value.int .u8 0):=hc0
        obtain rfl:bo=false:=by rw[←hbo];simp
        clear hbo
        go_wp2_with fail
        go_ret2
        exact⟨σ',S',rfl,HST.out,HFT.out,HLK.out⟩
      · have hbn:=byte_bne h0 (show((0:UInt8).toNat:Int)=0 by decide)
        have hbm:=byte_ne h0 (show((0:UInt8).toNat:Int)=0 by decide)
        have hd:decide ((a.toNat:Int)=0)=false:=by simpa using hbm
        obtain rfl:bo=true:=by rw[←hbo];simpa using h0
        clear hbo
        go_wp2_with fail
        go_ret2
        exact⟨σ',S',rfl,HST.out,HFT.out,HLK.out⟩
def giveB(l:List UInt8)(pg:Nat)(p:Int):Bool:=(takenI l pg p).1&&decide (1≤p)
set_option maxRecDepth 100000 in
set_option maxHeartbeats 3200000 in
theorem give_no(h:Sto W0 A c k b σ W S w)(hk:k≤900000)(hp1:1≤c.pg)(hp2:c.pg≤504)(t:Nat)(p:Int)(hi1 : -9223372036854775808≤p)(hi2:p≤9223372036854775807)(hg:giveB (W 0) c.pg p=false):
    Calls Tryz.prog 24 #[.pointer (some ⟨A.sb,0,none⟩),.int .i64 (t:Nat),.int .i64 p] w fun er w'=>∃σ' S',er=.returned (.int .i64 1)∧Sto W0 A c (k+1) b σ' W S' w'∧Foot S S' w w'∧Like σ σ':=by
  have hT:=taken_st h hk hp1 hp2 p hi1 hi2
  have hcase:(takenI (W 0) c.pg p).2=1∧(takenI (W 0) c.pg p).1=false∨(takenI (W 0) c.pg p).2=0:=by
    unfold takenI
    split
    · exact .inl ⟨rfl,rfl⟩
    · exact .inr rfl
  have HM:=Lib.hid (fun w'=>maps_one w' c.pg hp1 hp2)
  have HPG:=Lib.hid (fun(σ':St) (S':Nat→Prop) (w':World) (hs:Sto W0 A c (k+1) b σ' W S' w')=>pages_st hs)
  rcases hcase with ⟨h1,h2⟩|h1
  · rw[h1,h2]at hT
    have HT:=Lib.hid hT
    clear h hT hg h1 h2
    go_enter Tryz.func24,Tryz.ntmps24
    go_wp2_with fail
    refine HT.out.mono ?_
    rintro e y ⟨σ',S',rfl,hst,hft,hlk⟩
    have HST:=Lib.hid hst
    have HFT:=Lib.hid hft
    have HLK:=Lib.hid hlk
    clear hst hft hlk
    go_wp2_with fail
    go_ret
    exact⟨σ',S',rfl,HST.out,HFT.out,HLK.out⟩
  · rw[h1]at hT
    unfold giveB at hg
    cases hx:(takenI (W 0) c.pg p).1 with
    | false=>
      rw[hx]at hT
      have HT:=Lib.hid hT
      clear h hT hg h1 hx
      go_enter Tryz.func24,Tryz.ntmps24
      go_wp2_with fail
      refine HT.out.mono ?_
      rintro e y ⟨σ',S',rfl,hst,hft,hlk⟩
      have HST:=Lib.hid hst
      have HFT:=Lib.hid hft
      have HLK:=Lib.hid hlk
      clear hst hft hlk
      go_wp2_with fail
      go_ret
      exact⟨σ',S',rfl,HST.out,HFT.out,HLK.out⟩
    | true=>
      rw[hx]at hT hg
      have hp0:p<1:=by simp at hg;omega
      have hb:decide (p<1)=true:=by simpa using hp0
      have HT:=Lib.hid hT
      clear h hT hg h1 hx hp0
      go_enter Tryz.func24,Tryz.ntmps24
      go_wp2_with fail
      refine HT.out.mono ?_
      rintro e y ⟨σ',S',rfl,hst,hft,hlk⟩
      have HST:=Lib.hid hst
      have HFT:=Lib.hid hft
      have HLK:=Lib.hid hlk
      clear hst hft hlk
      go_wp2_with fail
      refine(HPG.out _ _ _ HST.out).mono ?_
      rintro e y2 ⟨rfl,rfl⟩
      go_wp2_with fail
      refine(HM.out _).mono ?_
      rintro e y2 ⟨rfl,rfl⟩
      go_wp2_with fail
      go_ret
      exact⟨σ',S',rfl,HST.out,HFT.out,HLK.out⟩
set_option maxRecDepth 100000 in
set_option maxHeartbeats 3200000 in
theorem give_yes(h:Sto W0 A c k b σ W S w)(hk:k≤800000){i:Nat}{x:Tx}(hx:σ.opn[i]? = some x)(hp1:1≤c.pg)(hp2:c.pg≤504)(p:Nat)(hg:giveB (W 0) c.pg (p:Int)=true)(hbusy:σ.busy (x.id:Int) 0 p 1=false)(hb:b+195+2048≤(c.n-1)*118):
    Calls Tryz.prog 24 #[.pointer (some ⟨A.sb,0,none⟩),.int .i64 (x.id:Nat),.int .i64 (p:Nat)] w fun er w'=>∃σ' S',er=.returned (.int .i64 0)∧Sto W0 A c (k+4) (b+195) σ' (updV W 0 (overB (W 0) p [0])) S' w'∧Foot S S' w w'∧Wrote σ σ' i x W 0 p [0]:=by
  have hpp:1≤p∧p<c.pg∧takenI (W 0) c.pg (p:Int)=(true,0):=by
    unfold giveB at hg
    rw[Bool.and_eq_true,decide_eq_true_eq]at hg
    obtain⟨h1,h2⟩:=hg
    unfold takenI at h1⊢
    by_cases hc:(p:Int)<0∨(c.pg:Int)≤(p:Int)
    · rw[if_pos hc]at h1;cases h1
    · rw[if_neg hc]at h1⊢
      refine⟨by omega,by omega,?_⟩
      rw[Prod.mk.injEq]
      exact⟨h1,rfl⟩
  obtain⟨hp3,hp4,ht⟩:=hpp
  have hT:=taken_st h (by omega) hp1 hp2 (p:Int) (by omega) (by omega)
  rw[ht]at hT
  have HT:=Lib.hid hT
  have HM:=Lib.hid (fun w'=>maps_one w' c.pg hp1 hp2)
  have HPG:=Lib.hid (fun(σ':St) (S':Nat→Prop) (w':World) (hs:Sto W0 A c (k+1) b σ' W S' w')=>pages_st hs)
  have HW:=Lib.hid (fun(σ1:St) (S1:Nat→Prop) (w1:World) (h1:Sto W0 A c (k+1) b σ1 W S1 w1) (hl:Like σ σ1)=>write1_st (h1.below ((Below.refl w1.heap.size w1).alloc (Nat.le_refl _) (.cells #[B 0] 5))) (by omega) (i:=i) (x:=x) (by rw[hl.opn];exact hx) 0 p 0 w1.heap.size (Box.new w1 #[B 0] 5 rfl) (by omega) (by omega)
    (by unfold St.busy;rw[hl.opn];exact hbusy) (fun hs=>by have:=(h1.lt _ hs).2;omega) hb)
  have hdv:(p:Int) / 504=0:=by omega
  have hmd:(p:Int) % 504=(p:Int):=by omega
  have hdv2:Int.tdiv (p:Int) 504=0:=by rw[Int.tdiv_eq_ediv_of_nonneg (by omega)];exact hdv
  have hmd2:Int.tmod (p:Int) 504=(p:Int):=by rw[Int.tmod_eq_emod_of_nonneg (by omega)];exact hmd
  have hb1:decide ((p:Int)<1)=false:=by simp;omega
  have hb2:decide (p<1)=false:=by simp;omega
  obtain⟨t,htt⟩:∃t:Nat,x.id=t:=⟨_,rfl⟩
  rw[htt]at HW⊢
  clear h hT hg hx hbusy ht hb htt
  go_enter Tryz.func24,Tryz.ntmps24
  go_wp2_with fail
  refine HT.out.mono ?_
  rintro e y ⟨σ',S',rfl,hst,hft,hlk⟩
  have HST:=Lib.hid hst
  have HFT:=Lib.hid hft
  have HLK:=Lib.hid hlk
  clear hst hft hlk HT
  go_wp2_with fail
  refine(HPG.out _ _ _ HST.out).mono ?_
  rintro e y2 ⟨rfl,rfl⟩
  go_wp2_with fail
  refine(HM.out _).mono ?_
  rintro e y2 ⟨rfl,rfl⟩
  go_wp2_with fail
  refine(HW.out _ _ _ HST.out HLK.out).mono ?_
  rintro e y3 ⟨σ2,S2,rfl,h1,h2,h3⟩
  have H1:=Lib.hid h1
  have H2:=Lib.hid h2
  have H3:=Lib.hid h3
  clear h1 h2 h3 HW
  go_wp2_with fail
  go_ret
  exact⟨σ2,S2,rfl,H1.out,HFT.out.trans (Foot.step_below ((Below.refl y2.heap.size y2).alloc (Nat.le_refl _) _) H2.out),H3.out.like HLK.out⟩
end
end
section
open Go.RowKit
def freeP(σ:St)(l:List UInt8)(id:Nat)(j:Nat):Bool:=decide (l[j]? = some 0) && !(σ.busy (id:Int) 0 j 1)
def takeJ(σ:St)(l:List UInt8)(id pg:Nat):Option Nat:=(List.range pg).find? (freeP σ l id)
theorem find_skip{p:Nat→Bool}{n:Nat}:∀(q:Nat),q≤n→(∀j,j<q→p j=false)→(List.range n).find? p=((List.range n).drop q).find? p
  | 0,_,_=>rfl
  | q+1,hq,h=>by
    rw[find_skip q (by omega) (fun j hj=>h j (by omega))]
    have hl:q<(List.range n).length:=by simp;omega
    rw[List.drop_eq_getElem_cons hl,List.find?_cons,List.getElem_range,h q (by omega)]
theorem take_hit{σ:St}{l:List UInt8}{id pg q:Nat}(hq:q<pg)(h:∀j,j<q→freeP σ l id j=false)(hf:freeP σ l id q=true):takeJ σ l id pg=some q:=by
  unfold takeJ
  rw[find_skip q (by omega) h]
  have hl:q<(List.range pg).length:=by simp;omega
  rw[List.drop_eq_getElem_cons hl,List.find?_cons,List.getElem_range,hf]
theorem take_miss{σ:St}{l:List UInt8}{id pg:Nat}(h:∀j,j<pg→freeP σ l id j=false):takeJ σ l id pg=none:=by
  unfold takeJ
  rw[List.find?_eq_none]
  intro j hj
  rw[h j (by simpa using hj)]
  simp
section
variable{W0 w w' w2:World}{A:Adr}{c:Cf}{σ:St}{S X:Nat→Prop}{k b:Nat}{W:Nat→List UInt8}
def TakeEnd (W0 w:World) (A:Adr) (c:Cf) (k b:Nat) (σ:St) (W:Nat→List UInt8) (S:Nat→Prop) (i:Nat) (x:Tx) (e:Ending) (w':World):Prop:=
  ∃ σ' S',Foot S S' w w'∧((∃q,q<c.pg∧takeJ σ (W 0) x.id c.pg=some q∧e=.returned (.tuple #[.int .i64 (q:Nat),.int .i64 0])∧Sto W0 A c (k+4) (b+195) σ' (updV W 0 (overB (W 0) q [1])) S' w'∧Wrote σ σ' i x W 0 q [1])∨
    (takeJ σ (W 0) x.id c.pg=none∧e=.returned (.tuple #[.int .i64 0,.int .i64 60])∧Sto W0 A c (k+4) (b+195) σ' W S' w'∧Like σ σ'))
set_option maxRecDepth 100000 in
set_option maxHeartbeats 6400000 in
theorem take_st (h:Sto W0 A c k b σ W S w) (hk:k≤800000) {i:Nat} {x:Tx} (hx:σ.opn[i]? = some x) (hp1:1≤c.pg) (hp2:c.pg≤504) (hb:b+195+2048≤(c.n-1)*118):
    Calls Tryz.prog 23 #[.pointer (some ⟨A.sb,0,none⟩),.int .i64 (x.id:Nat)] w (TakeEnd W0 w A c k b σ W S i x):=by
  have hwl:=h.std.len (show 0<c.pg by omega)
  have HP:=Lib.hid (pages_st h)
  have HM:=Lib.hid (maps_one w c.pg hp1 hp2)
  have hrd:=read_st h 0 0 c.pg (by omega) (by omega) (by omega)
  simp only[List.drop_zero]at hrd
  have hlt:∀j a,((W 0).take c.pg)[j]? = some a→j<c.pg→(W 0)[j]? = some a:=fun j a h1 h2=>by rw[List.getElem?_take,if_pos h2]at h1;exact h1
  have HLT:=Lib.hid hlt
  obtain⟨l,hl⟩:∃l,(W 0).take c.pg=l:=⟨_,rfl⟩
  rw[hl]at hrd HLT
  obtain⟨pg,hpg⟩:∃x,c.pg=x:=⟨_,rfl⟩
  have HPG:=Lib.hid hpg
  rw[hpg]at hrd HP HM hp1 hp2 HLT
  have HR:=Lib.hid hrd
  have hmin:min (504:Int) ((pg:Nat):Int)=(pg:Int):=by omega
  have HWR:=Lib.hid (fun(σ1:St) (S1:Nat→Prop) (w1:World) (h1:Sto W0 A c (k+1) b σ1 W S1 w1) (hl:Like σ σ1) (q:Nat) (hq:q<pg) (hbu:σ.busy (x.id:Int) 0 q 1=false)=>write1_st (h1.below ((Below.refl w1.heap.size w1).alloc (Nat.le_refl _) (.cells #[B 1] 5))) (by omega) (i:=i) (x:=x) (by rw[hl.opn];exact hx) 0 q 1 w1.heap.size (Box.new w1 #[B 1] 5 rfl) (by omega) (by omega)
    (by unfold St.busy;rw[hl.opn];exact hbu) (fun hs=>by have:=(h1.lt _ hs).2;omega) hb)
  have HBU:=Lib.hid (fun(σ1:St) (S1:Nat→Prop) (w1:World) (h1:Sto W0 A c (k+1) b σ1 W S1 w1) (hl:Like σ σ1) (q:Nat) (hq:q<pg) (hbu:σ.busy (x.id:Int) 0 q 1=true)=>busy_st (h1.below ((Below.refl w1.heap.size w1).alloc (Nat.le_refl _) (.cells #[B 1] 5))) (by omega) (i:=i) (x:=x) (by rw[hl.opn];exact hx) 0 q (some ⟨w1.heap.size,0,none⟩) 1 1 (by omega) (by omega)
    (by unfold St.busy;rw[hl.opn];exact hbu))
  have HB5:=Lib.hid hb
  obtain⟨t,ht⟩:∃t:Nat,x.id=t:=⟨_,rfl⟩
  have HT:=Lib.hid ht
  rw[ht]at HWR HBU⊢
  clear h hrd hl hlt hx hb hpg ht hwl
  go_enter Tryz.func23,Tryz.ntmps23
  go_wp2_with fail
  refine HP.out.mono ?_
  rintro e y ⟨rfl,rfl⟩
  go_wp2_with fail
  refine HM.out.mono ?_
  rintro e y ⟨rfl,rfl⟩
  go_wp2_with fail
  go_loopw [6,7,8,9,10,11,15] (fun z6 z7 z8 z9 z10 z11 j wr=>(j=.int .i64 0∧wr=y)∨(j=.int .i64 1∧(∀j,j<pg→freeP σ (W 0) t j=false)∧∃σ' S',Sto W0 A c (k+1) b σ' W S' wr∧Foot S S' y wr∧Like σ σ')) (fun _ _ _ _ _ _ j _=>1-(intOf j).toNat)
  case atStart=>exact .inl ⟨rfl,rfl⟩
  case round=>
    rcases hrel with ⟨rfl,rfl⟩|⟨rfl,hno,σ',S',h1,h2,h3⟩
    · go_wp2_with fail
      refine HP.out.mono ?_
      rintro e y2 ⟨rfl,rfl⟩
      go_wp2_with fail
      refine HR.out.mono ?_
      rintro e y3 ⟨v,σ',S',rfl,hrow,hlen,hns,hst,hft,hlk⟩
      obtain⟨g,cap,rfl,hgb,hcap⟩:=own_slice hrow (by omega)
      have HROW:=Lib.hid hrow
      have HST:=Lib.hid hst
      have HFT:=Lib.hid hft
      have HLK:=Lib.hid hlk
      have HLEN:=Lib.hid hlen
      have HNS:=Lib.hid hns
      clear hrow hst hft hlk hns hlen HR
      go_wp2_with fail
      go_loopw [9,10,11,35] (fun z9 z10 z11 j wq=>∃q:Nat,q≤pg∧j=.int .i64 (q:Nat)∧(∀j,j<q→freeP σ (W 0) t j=false)∧Sto W0 A c (k+1) b σ' W S' wq∧wq.ownsRow y2.heap.size 5 1 (.slice (some ⟨g,0,none⟩) pg cap) pg (l.map B)∧Foot S S' y2 wq) (fun _ _ _ j _=>pg-(intOf j).toNat)
      case atStart=>exact⟨0,Nat.zero_le _,rfl,fun j hj=>absurd hj (Nat.not_lt_zero _),HST.out,HROW.out,HFT.out⟩
      case round=>
        obtain⟨q,hq,rfl,hno,hst,hrow,hft⟩:=hrel
        have HNO:=Lib.hid hno
        have HST:=Lib.hid hst
        have HFT:=Lib.hid hft
        have HROW:=Lib.hid hrow
        clear hno hst hft hrow
        by_cases hqn:q<pg
        · obtain⟨a,ha⟩:∃a,l[q]? = some a:=⟨_,List.getElem?_eq_getElem (by rw[HLEN.out];exact hqn)⟩
          have hw:=HLT.out q a ha hqn
          have hc0:World.cell? _ ⟨g,q,none⟩=some (Value.int .u8 (a.toNat:Int)):=own_at HROW.out q (B a) (by rw[List.getElem?_map,ha];rfl)
          have hlg:=(HROW.out.lt g rfl).2
          have HHW:=Lib.hid hw
          clear ha hw
          by_cases h0:a=0
          · subst h0
            replace hc0:World.cell? _ ⟨g,q,none⟩=some (Value.int .u8 0):=hc0
            cases hbu:σ.busy (t:Int) 0 q 1 with
            | true=>
              have HW2:=Lib.hid (HBU.out _ _ _ HST.out HLK.out q hqn hbu)
              have HF:=Lib.hid (show freeP σ (W 0) t q=false by unfold freeP;rw[hbu];simp)
              clear hbu
              go_wp2_with fail
              refine HW2.out.mono ?_
              rintro e y4 ⟨rfl,h1,h2⟩
              have H1:=Lib.hid h1
              have H2:=Lib.hid h2
              clear h1 h2 HW2 hc0 hlg
              go_wp2_with fail
              go_roundw
              · have hbel:=below_then (Below.refl _ _) H2.out
                exact⟨q+1,by omega,by go_num,fun j hj=>(by rcases Nat.lt_succ_iff_lt_or_eq.1 hj with h|rfl<;>first|exact HNO.out _ h|exact HF.out),H1.out,own_growx HROW.out (grow_below hbel) (fun _ _ h=>h),HFT.out.trans (Foot.below (grow_below hbel))⟩
              · simp[intOf];omega
            | false=>
              have HW2:=Lib.hid (HWR.out _ _ _ HST.out HLK.out q hqn hbu)
              have HF:=Lib.hid (show freeP σ (W 0) t q=true by unfold freeP;rw[hbu,HHW.out];rfl)
              clear hbu
              go_wp2_with fail
              refine HW2.out.mono ?_
              rintro e y4 ⟨σ2,S2,rfl,h1,h2,h3⟩
              have H1:=Lib.hid h1
              have H2:=Lib.hid h2
              have H3:=Lib.hid h3
              clear h1 h2 h3 HW2 hc0 hlg
              go_wp2_with fail
              go_ret2
              refine⟨σ2,S2,?_,.inl ⟨q,by rw[HPG.out];exact hqn,?_,rfl,H1.out,H3.out.like HLK.out⟩⟩
              · exact HFT.out.trans (Foot.step_below ((Below.refl _ _).alloc (Nat.le_refl _) _) H2.out)
              · rw[HPG.out,HT.out]
                exact take_hit hqn HNO.out HF.out
          · have hbn:=byte_bne h0 (show((0:UInt8).toNat:Int)=0 by decide)
            have hbm:=byte_ne h0 (show((0:UInt8).toNat:Int)=0 by decide)
            have hd:decide ((a.toNat:Int)=0)=false:=by simpa using hbm
            have HF:=Lib.hid (show freeP σ (W 0) t q=false by unfold freeP;rw[HHW.out];simp[h0])
            go_wp2_with fail
            go_roundw
            · exact⟨q+1,by omega,by go_num,fun j hj=>(by rcases Nat.lt_succ_iff_lt_or_eq.1 hj with h|rfl<;>first|exact HNO.out _ h|exact HF.out),HST.out,HROW.out,HFT.out⟩
            · simp[intOf];omega
        · obtain rfl:q=pg:=by omega
          go_wp2_with fail
          go_roundw
          · exact .inr ⟨by rfl,HNO.out,σ',S',HST.out,HFT.out,HLK.out⟩
          · simp[intOf]
    · have H1:=Lib.hid h1
      have H2:=Lib.hid h2
      have H3:=Lib.hid h3
      have HNO:=Lib.hid hno
      clear h1 h2 h3 hno
      go_wp2_with fail
      go_ret2
      refine⟨σ',S',H2.out,.inr ⟨?_,rfl,?_,H3.out⟩⟩
      · rw[HPG.out,HT.out]
        exact take_miss HNO.out
      · have:=H1.out.fine.top
        exact H1.out.le (by omega) (by omega) HB5.out
end
end
end Go.Proofs.YtpajagkhmodbnaaGreat

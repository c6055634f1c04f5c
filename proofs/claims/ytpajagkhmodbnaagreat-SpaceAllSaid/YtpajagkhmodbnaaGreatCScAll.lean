/- The law SpaceAll. Conditions: none. -/
import Derived.Test.YtpajagkhmodbnaaGreatPk37
import Derived.Test.YtpajagkhmodbnaaGreatPk38
import Derived.Deep.DeepCutAuto
namespace Go.Proofs.YtpajagkhmodbnaaGreat
set_option linter.unusedSimpArgs false
set_option linter.unusedVariables false
open Go.RowKit
theorem At8.below{W0 w w':World}{A:Adr}{σ:St}{S:Nat→Prop}{k b n:Nat}{W:Nat→List UInt8}{T:List Bool}(h:At8 W0 A k b σ S T n w W)(hb:Below w.heap.size w w'):At8 W0 A k b σ S T n w' W:=⟨h.st.below hb,h.so,h.rel,h.pg,h.p1⟩
set_option maxRecDepth 100000 in
set_option maxHeartbeats 25600000 in
theorem all8_any (nn:Int) (hn1 : -9223372036854775808≤nn) (hn2:nn≤9223372036854775807) (l:List Int) (v:Value) (m:Nat) (hl:l.length=m∧∀x∈l,okInt x) (hm:m≤9223372036854775807) (w:World) (hr:Reads 1 w v m (l.map fun p=>Value.int .i64 p)):
  Calls Tryz.prog 14 #[.int .i64 nn,v] w fun e w'=>e=.returned (.bool true)∧Below w.heap.size w w':=by
 have hpg:(Cf.of 1024).pg=190:=by rw[cf1024a]
 have HO:=Lib.hid (formatted8 w 1024 8 (by decide) (by decide) (by decide) (by decide) (by rw[hpg];decide) (by rw[hpg];decide))
 rw[hpg,tkT_new]at HO
 have HR:=Lib.hid hr
 obtain⟨ao,cap,rfl⟩:=hr.shape
 have HL:=Lib.hid hl.1
 have HI:=Lib.hid hl.2
 clear hr hl hpg
 go_enter Tryz.func14,Tryz.ntmps14
 go_wp2_with fail
 refine HO.out.mono ?_
 rintro e y1 ⟨A,σ,S,rfl,hat,hS,hbl⟩
 have HAT:=Lib.hid hat
 have HBL:=Lib.hid hbl
 clear hat hS hbl HO
 by_cases hn0:nn<0
 ·have b1:decide (nn<0)=true:=by simpa using hn0
  go_wp2_with fail
  refine(awake8_any _).mono ?_
  rintro e y2 ⟨rfl,hb2⟩
  have HB2:=Lib.hid hb2
  clear hb2
  go_wp2_with fail
  go_ret
  exact⟨rfl,HBL.out.trans (HB2.out.mono HBL.out.size)⟩
 have b1:decide (nn<0)=false:=by simpa using hn0
 by_cases hn3:30<nn
 ·have b2:decide (nn>30)=true:=by simpa using hn3
  have b3:decide (30<nn)=true:=by simpa using hn3
  go_wp2_with fail
  refine(awake8_any _).mono ?_
  rintro e y2 ⟨rfl,hb2⟩
  have HB2:=Lib.hid hb2
  clear hb2
  go_wp2_with fail
  go_ret
  exact⟨rfl,HBL.out.trans (HB2.out.mono HBL.out.size)⟩
 obtain⟨n,rfl⟩:∃q:Nat,nn=(q:Int):=⟨nn.toNat,by omega⟩
 have hn30:n≤30:=by omega
 have b2:decide ((n:Int)>30)=false:=by simp;omega
 have b3:decide (30<(n:Int))=false:=by simp;omega
 have b3n:decide (30<n)=false:=by simp;omega
 clear hn1 hn2 hn0 hn3
 by_cases hm4:40<m
 ·have b4:decide ((m:Int)>40)=true:=by simp;omega
  have b5:decide (40<(m:Int))=true:=by simp;omega
  have b5n:decide (40<m)=true:=by simpa using hm4
  go_wp2_with fail
  refine(awake8_any _).mono ?_
  rintro e y2 ⟨rfl,hb2⟩
  have HB2:=Lib.hid hb2
  clear hb2
  go_wp2_with fail
  go_ret
  exact⟨rfl,HBL.out.trans (HB2.out.mono HBL.out.size)⟩
 have hm40:m≤40:=by omega
 have b4:decide ((m:Int)>40)=false:=by simp;omega
 have b5:decide (40<(m:Int))=false:=by simp;omega
 have b5n:decide (40<m)=false:=by simpa using hm4
 clear hm4 hm
 go_wp2_with fail
 go_loopw [7,8,9] (fun z7 z8 z9 wr=>∃q:Nat,q≤n∧z7=.int .i64 (q:Nat)∧∃σ S W,At8 w A (4+4*q) (483+195*q) σ S (tkT q) 1024 wr W) (fun z7 _ _ _=>n-(intOf z7).toNat)
 case atStart=>exact⟨0,Nat.zero_le _,rfl,σ,S,_,HAT.out⟩
 case round=>
  obtain⟨q,hq,rfl,σ',S',W',hat⟩:=hrel
  clear HAT
  by_cases hqn:q<n
  ·have hqb:decide ((q:Int)<(n:Int))=true:=by simpa using hqn
   have hqbn:decide (q<n)=true:=by simpa using hqn
   have HT:=Lib.hid (take8 hat (by omega) (b1024a (by omega)) (q+1) (fun j hj=>by rw[tkT_at (by omega),decide_eq_true (by omega)]) (by rw[tkT_at (by omega),decide_eq_false (by omega)]))
   rw[tkT_set (by omega)]at HT
   clear hat
   go_wp2_with fail
   refine HT.out.mono ?_
   rintro e y2 ⟨σ2,S2,W2,rfl,h1,_⟩
   have H1:=Lib.hid h1
   clear h1 HT
   go_wp2_with fail
   go_roundw
   ·exact⟨q+1,by omega,by go_num,σ2,S2,W2,H1.out⟩
   ·simp[intOf];omega
  ·obtain rfl:q=n:=by omega
   have hqb:decide ((q:Int)<(q:Int))=false:=by simp
   have HAT:=Lib.hid hat
   clear hat
   go_wp2_with fail
   go_loopw [10,11,12] (fun z10 z11 z12 wq=>∃i:Nat,i≤m∧z11=.int .i64 (i:Nat)∧z10=.bool (okN q (l.take i))∧At8 w A (4+4*q) (483+195*q) σ' S' (tkT q) 1024 wq W') (fun _ z11 _ _=>m-(intOf z11).toNat)
   case atStart=>exact⟨0,Nat.zero_le _,rfl,by simp[okN],HAT.out⟩
   case round=>
    obtain⟨i,hi,rfl,rfl,hbel⟩:=hrel
    have HBE:=Lib.hid hbel
    clear hbel HAT
    by_cases him:i<m
    ·have hib:decide ((i:Int)<(m:Int))=true:=by simpa using him
     have hibn:decide (i<m)=true:=by simpa using him
     obtain⟨p,hp⟩:∃p,l[i]? = some p:=⟨_,List.getElem?_eq_getElem (by rw[HL.out];exact him)⟩
     have HPI:=Lib.hid (HI.out p (List.mem_of_getElem? hp))
     have HOS:Hid (okN q (l.take (i+1))=((okN q (l.take i)&&decide (1≤p)&&decide (p≤(q:Int))) && !hasI (l.take i) p)):=Lib.hid (by rw[take_snoc hp,okN_snoc])
     have HCE:=Lib.hid (fun(wx:World) (hb:Below w.heap.size w wx)=>(HR.out.below hb (Nat.le_refl _)).at i him (.int .i64 p) (by rw[List.getElem?_map,hp];rfl))
     obtain⟨b2,o2,c2,e,hb2,hc2,hcell⟩:=HCE.out _ HBE.out.st.bel
     injection e with e1 e2 e3
     subst e1 e3
     clear hp e2
     generalize okN q (l.take i)=g at *
     obtain⟨r,hr⟩:∃r,(g&&decide (1≤p)&&decide (p≤(q:Int)))=r:=⟨_,rfl⟩
     rw[hr]at HOS
     have HRR:=Lib.hid hr
     clear hr
     go_upto_region 14 with (fail)
     go_cut [10] (fun z wx=>z=.bool r∧wx=wr)
     case first=>
      cases g with
      | false=>
       obtain rfl:r=false:=by rw[←HRR.out];rfl
       go_wp2
       go_meet
       exact⟨rfl,rfl⟩
      | true=>
       by_cases hp1:1≤p
       ·have c1:decide (p≥1)=true:=by simpa using hp1
        have c3:decide (1≤p)=true:=by simpa using hp1
        obtain rfl:r=decide (p≤(q:Int)):=by rw[←HRR.out,c3];rfl
        go_wp2
        go_meet
        exact⟨rfl,rfl⟩
       ·have c1:decide (p≥1)=false:=by simpa using hp1
        have c3:decide (1≤p)=false:=by simpa using hp1
        obtain rfl:r=false:=by rw[←HRR.out,c3];rfl
        go_wp2
        go_meet
        exact⟨rfl,rfl⟩
     case rest=>
      obtain⟨rfl,hw⟩:=hcut
      obtain rfl:=hw.symm
      clear hw HRR hcell
      go_wp2_with fail
      go_loopw [10,12] (fun z10 z12 wq=>∃j:Nat,j≤i∧z12=.int .i64 (j:Nat)∧z10=.bool (r && !hasI (l.take j) p)∧At8 w A (4+4*q) (483+195*q) σ' S' (tkT q) 1024 wq W') (fun _ z12 _=>i-(intOf z12).toNat)
      case atStart=>exact⟨0,Nat.zero_le _,rfl,by simp[hasI],HBE.out⟩
      case round=>
       obtain⟨j,hj,rfl,rfl,hbel⟩:=hrel
       have HBJ:=Lib.hid hbel
       clear hbel
       by_cases hji:j<i
       ·have hjb:decide ((j:Int)<(i:Int))=true:=by simpa using hji
        have hjbn:decide (j<i)=true:=by simpa using hji
        obtain⟨pj,hpj⟩:∃p,l[j]? = some p:=⟨_,List.getElem?_eq_getElem (by rw[HL.out];omega)⟩
        have HHS:Hid (hasI (l.take (j+1)) p=(hasI (l.take j) p || decide (pj=p))):=Lib.hid (by rw[take_snoc hpj,hasI_snoc])
        obtain⟨b3,o3,c3,e,hb3,hc3,hcell⟩:=HCE.out _ HBJ.out.st.bel
        injection e with e1 e2 e3
        injection e1 with e4
        injection e4 with e5 e6
        subst e5 e6 e3
        obtain⟨b4,o4,c4,e,hb4,hc4,hcell2⟩:=(HR.out.below HBJ.out.st.bel (Nat.le_refl _)).at j (by omega) (.int .i64 pj) (by rw[List.getElem?_map,hpj];rfl)
        injection e with e1 e2 e3
        injection e1 with e4
        injection e4 with e5 e6
        subst e5 e6 e3
        clear hpj e2
        have hjm:j<m:=by omega
        generalize hasI (l.take j) p=hj0 at *
        obtain⟨r2,hr2⟩:∃r2,(r && !hj0)=r2:=⟨_,rfl⟩
        have HR2:=Lib.hid hr2
        rw[hr2]
        clear hr2
        cases r2 with
        | false=>
         have HN2:Hid ((r && !hasI (l.take (j+1)) p)=false):=Lib.hid (by rw[HHS.out];have:=HR2.out;cases r<;>cases hj0<;>simp_all)
         go_wp2_with fail
         go_quiet (fail)
         have hq2:=below_dn (Below.refl wr.heap.size wr) nq
         have HQ2:=Lib.hid (HBJ.out.below hq2)
         clear hq2 hcell hcell2
         go_wp2_with fail
         go_roundw
         ·exact⟨j+1,by omega,by go_num,by rw[HN2.out],HQ2.out⟩
         ·simp[intOf];omega
        | true=>
         by_cases hpp:pj=p
         ·subst hpp
          have HN2:Hid ((r && !hasI (l.take (j+1)) pj)=false):=Lib.hid (by rw[HHS.out];simp)
          go_wp2_with fail
          go_quiet (fail)
          have hq2:=below_dn (Below.refl wr.heap.size wr) nq
          have HQ2:=Lib.hid (HBJ.out.below hq2)
          clear hq2 hcell hcell2
          go_wp2_with fail
          go_roundw
          ·exact⟨j+1,by omega,by go_num,by rw[HN2.out],HQ2.out⟩
          ·simp[intOf];omega
         ·have d1:decide (pj=p)=false:=by simpa using hpp
          have d2:(pj != p)=true:=by simpa using hpp
          have d3:(pj==p)=false:=by simpa using hpp
          have HN2:Hid ((r && !hasI (l.take (j+1)) p)=true):=Lib.hid (by rw[HHS.out,d1,Bool.or_false];exact HR2.out)
          go_wp2_with fail
          go_quiet (fail)
          have hq2:=below_dn (Below.refl wr.heap.size wr) nq
          have HQ2:=Lib.hid (HBJ.out.below hq2)
          clear hq2 hcell hcell2
          go_wp2_with fail
          go_roundw
          ·exact⟨j+1,by omega,by go_num,by rw[HN2.out],HQ2.out⟩
          ·simp[intOf];omega
       ·obtain rfl:j=i:=by omega
        have hjb:decide ((j:Int)<(j:Int))=false:=by simp
        go_wp2_with fail
        go_roundw
        ·exact⟨j+1,by omega,by go_num,by rw[HOS.out],HBJ.out⟩
        ·simp[intOf];omega
    ·obtain rfl:i=m:=by omega
     have hib:decide ((i:Int)<(i:Int))=false:=by simp
     have htk:l.take i=l:=List.take_of_length_le (Nat.le_of_eq HL.out)
     have HG:=Lib.hid (giveall8 HBE.out (by omega) (b1024a (by omega)) l (.slice ao i cap) i HL.out (by omega) HR.out (fun p hp=>HI.out p hp))
     rw[htk]
     clear htk
     go_wp2_with fail
     refine HG.out.mono ?_
     rintro e y4 ⟨σ4,S4,W4,_,h4⟩
     rcases h4 with ⟨hok,rfl,h4⟩|⟨hok,rfl,h4⟩
     ·have HH:=Lib.hid h4
      have hgd:=(okN_iff hn30).1 hok
      have HOK:=Lib.hid hok
      rw[hgd]
      clear h4 hok hgd HG
      have HC:=Lib.hid (count8 HH.out (by omega))
      have hcc:=clr_cnt l _ HOK.out
      rw[tkT_cnt q (by omega),HL.out]at hcc
      obtain⟨cc,hc0⟩:∃x,(clrT (tkT q) l).countP id=x:=⟨_,rfl⟩
      rw[hc0]at HC hcc
      clear hc0
      have hcc2:(q:Int)+1-(i:Int)=(cc:Int):=by omega
      have HCC:=Lib.hid hcc
      clear hcc
      go_wp2_with fail
      refine HC.out.mono ?_
      rintro e y5 ⟨σ5,S5,rfl,h5,_⟩
      have H5:=Lib.hid h5
      clear h5 HC HH
      go_wp2_with fail
      go_loopw [17,18,19] (fun z17 z18 z19 wq=>∃j:Nat,j≤i∧z17=.int .i64 (j:Nat)∧∃σ S,At8 w A (4+4*q+i+8+4+4*j) (483+195*q+1704) σ S (clrT (tkT q) l) 1024 wq W4) (fun z17 _ _ _=>i-(intOf z17).toNat)
      case atStart=>exact⟨0,Nat.zero_le _,rfl,σ5,S5,H5.out⟩
      case round=>
       obtain⟨j,hj,rfl,σ6,S6,h6⟩:=hrel
       have H6:=Lib.hid h6
       clear h6 H5
       by_cases hji:j<i
       ·have hjb:decide ((j:Int)<(i:Int))=true:=by simpa using hji
        have hjbn:decide (j<i)=true:=by simpa using hji
        obtain⟨p,hp⟩:∃p,l[j]? = some p:=⟨_,List.getElem?_eq_getElem (by rw[HL.out];exact hji)⟩
        have hpm:=List.mem_of_getElem? hp
        have hpo:=HOK.out.1 p hpm
        rw[tkT_len]at hpo
        have htk:=taken8 H6.out (by omega) p (HI.out p hpm).1 (HI.out p hpm).2
        rw[clrT_length,tkT_len,if_neg (by omega),clr_gone hpm]at htk
        have HT:=Lib.hid htk
        obtain⟨b4,o4,c4,e,hb4,hc4,hcell2⟩:=(HR.out.below H6.out.st.bel (Nat.le_refl _)).at j hji (.int .i64 p) (by rw[List.getElem?_map,hp];rfl)
        injection e with e1 e2 e3
        subst e1 e3
        clear hp e2 hpm hpo htk
        go_wp2_with fail
        refine HT.out.mono ?_
        rintro e y6 ⟨σ7,S7,rfl,h7,_⟩
        have H7:=Lib.hid h7
        clear h7 HT
        go_wp2_with fail
        go_roundw
        ·exact⟨j+1,by omega,by go_num,σ7,S7,H7.out⟩
        ·simp[intOf];omega
       ·obtain rfl:j=i:=by omega
        have hjb:decide ((j:Int)<(j:Int))=false:=by simp
        go_wp2_with fail
        refine(awake8_any _).mono ?_
        rintro e y6 ⟨rfl,hb6⟩
        have HB6:=Lib.hid hb6
        clear hb6
        go_wp2_with fail
        go_ret
        exact⟨rfl,H6.out.st.bel.trans (HB6.out.mono H6.out.st.bel.size)⟩
     ·have HH:=Lib.hid h4
      have hgd:okN q l=false:=by
       cases h:okN q l with
       | false=>rfl
       | true=>exact absurd ((okN_iff hn30).2 h) hok
      rw[hgd]
      clear h4 hok hgd HG
      have HC:=Lib.hid (count8 HH.out (by omega))
      rw[tkT_cnt q (by omega)]at HC
      go_wp2_with fail
      refine HC.out.mono ?_
      rintro e y5 ⟨σ5,S5,rfl,h5,_⟩
      have H5:=Lib.hid h5
      clear h5 HC HH
      go_wp2_with fail
      refine wp_loop_rounds 1 ?_
      rw[rounds_succ]
      go_wp2_with fail
      all_goals (refine(awake8_any _).mono ?_;rintro e y6 ⟨rfl,hb6⟩;have HB6:=Lib.hid hb6;clear hb6;go_wp2_with fail;go_ret;exact⟨rfl,H5.out.st.bel.trans (HB6.out.mono H5.out.st.bel.size)⟩)
end Go.Proofs.YtpajagkhmodbnaaGreat

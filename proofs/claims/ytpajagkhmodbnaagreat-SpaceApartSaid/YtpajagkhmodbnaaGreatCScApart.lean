/- The law SpaceApart. Conditions: none. -/
import Derived.Test.YtpajagkhmodbnaaGreatPk37
import Derived.Test.YtpajagkhmodbnaaGreatPk35
namespace Go.Proofs.YtpajagkhmodbnaaGreat
set_option linter.unusedSimpArgs false
set_option linter.unusedVariables false
open Go.RowKit
theorem and1(m:Nat)(h:m<16):bits BinOp.and IntKind.i64 (m:Int) 1=((m % 2:Nat):Int):=by
  have:∀m:Fin 16,bits BinOp.and IntKind.i64 ((m:Nat):Int) 1=(((m:Nat) % 2:Nat):Int):=by decide +kernel
  exact this ⟨m,h⟩
theorem pr_new:Pr (fmtW 0) [] [] (newT 94) (newT 94) [] [] 0:=by
  have e:fmtW 0=overB (nz 504) 0 [1]:=by unfold fmtW updV;rw[if_pos rfl]
  have hr:=newT_rel (n:=94) (by decide) (by decide)
  rw[e]
  refine⟨by rw[overB_length _ _ _ (by unfold nz;rw[List.length_replicate];omega)];exact List.length_replicate,fun u hu=>(by cases hu),fun u hu=>(by cases hu),fun u hu=>(by cases hu),hr,hr,newT_len (by decide),newT_len (by decide),by decide,by decide,fun p hp=>(by cases hp),fun p hp=>(by cases hp),List.nodup_nil,List.nodup_nil,by rw[over1_get _ _ _ (by unfold nz;rw[List.length_replicate];omega),if_pos rfl],fun q h1 h2 _ _=>?_,by decide⟩
  rw[over1_get _ _ _ (by unfold nz;rw[List.length_replicate];omega),if_neg (by omega)]
  unfold nz
  rw[List.getElem?_replicate,if_pos (by omega)]
set_option maxRecDepth 100000 in
set_option maxHeartbeats 12800000 in
theorem apart_any (l : List Op8) (v:Value) (n:Nat) (out:Bool) (hl:l.length=n∧∀x∈l,okInt x.2) (hm:n≤9223372036854775807) (w:World) (hr:Reads 2 w v n (ocells l)):
    Calls Tryz.prog 15 #[v,.bool out] w fun e w'=>e=.returned (.bool true)∧Below w.heap.size w w':=by
  have hpg:=pg512
  have hcn:=n512
  have HO:=Lib.hid (formatted_any w 512 8 (by decide) (by decide) (by decide) (by decide) (by rw[hpg];decide) (by rw[hpg];decide))
  have HR:=Lib.hid hr
  have hsh:∃ao cap,v=.slice ao n cap:=by obtain⟨ao,cap,e,_⟩:=hr;exact⟨ao,cap,e⟩
  obtain⟨ao,cap,hv⟩:=hsh
  have HV:=Lib.hid hv
  have HL:=Lib.hid hl.1
  have HPG:=Lib.hid hpg
  have HCN:=Lib.hid hcn
  rw[hv]
  clear hr hl hv hpg hcn
  go_enter Tryz.func15,Tryz.ntmps15
  go_wp2_with fail
  refine HO.out.mono ?_
  rintro e y1 ⟨A,σ,S,rfl,hnf,hst,⟨x,hx,hid⟩,hnx,hS,hbl⟩
  have hcm:=commit_st hst (by decide) (i:=0) (x:=x) (by rw[hx];rfl) (by rw[HCN.out];decide)
  rw[hid,hx]at hcm
  have HC:=Lib.hid hcm
  have HNX:=Lib.hid hnx
  have HS:=Lib.hid hS
  have HBL:=Lib.hid hbl
  clear hnf hst hx hid hnx hS hbl hcm HO
  go_wp2_with fail
  refine HC.out.mono ?_
  rintro e y2 ⟨σ2,S2,rfl,hst,hf2,ho2,hn2⟩
  have hn2':σ2.next=2:=hn2.trans HNX.out
  have hbg:=begin_st hst (by decide) (by rw[HCN.out];decide)
  rw[hn2',ho2]at hbg
  have HB:=Lib.hid hbg
  have HF2:=Lib.hid hf2
  clear hst hf2 ho2 hn2 hn2' hbg HC
  go_wp2_with fail
  refine HB.out.mono ?_
  rintro e y3 ⟨σ3,S3,rfl,hst,hf3,ho3,hn3,_,_⟩
  have hbg:=begin_st hst (by decide) (by rw[HCN.out];decide)
  rw[hn3,ho3]at hbg
  have HB3:=Lib.hid hbg
  have HF3:=Lib.hid hf3
  clear hst hf3 ho3 hn3 hbg HB
  go_wp2_with fail
  refine HB3.out.mono ?_
  rintro e y4 ⟨σ4,S4,rfl,hst,hf4,ho4,hn4,_,_⟩
  have HST:=Lib.hid hst
  have HF4:=Lib.hid hf4
  have HO4:=Lib.hid ho4
  clear hst hf4 ho4 hn4 HB3
  go_wp2_with fail
  obtain⟨gh,hgh⟩:∃g,y4.heap.size=g:=⟨_,rfl⟩
  have HGH:=Lib.hid hgh
  have bx:=Box.new y4 #[Value.slice none 0 0,Value.slice none 0 0] 81 rfl
  rw[hgh]at bx
  have hst:ApZ false w A gh 0 [] [] [] [] (.slice none 0 0) (.slice none 0 0) (y4.alloc (.cells #[.slice none 0 0,.slice none 0 0] 81)):=by
    have hb4:=HST.out.bel.size
    refine⟨⟨S4,⟨σ4,fmtW,_,_,newT 94,newT 94,HST.out.below ((Below.refl y4.heap.size y4).alloc (Nat.le_refl _) _),HO4.out,rfl,rfl,?_⟩,fun hs=>by have:=(HST.out.lt _ hs).2;omega,fun q e=>(by cases e),fun q e=>(by cases e)⟩,bx,RowO.nil _ _,RowO.nil _ _,fun q e=>(by cases e),fun e=>(by cases e),fun e=>(by cases e),by omega⟩
    exact pr_new
  have HST2:=Lib.hid hst
  rw[hgh]
  generalize y4.alloc (.cells #[.slice none 0 0,.slice none 0 0] 81)=y5 at *
  clear hst bx hgh
  go_loopw [12,13,14,15,16,17,18,19] (fun z12 z13 z14 z15 z16 z17 z18 z19 wr=>∃(m:Nat)(h0 h1:List Nat)(v0 v1:Value),m≤n∧m≤16∧z12=.int .i64 (m:Nat)∧ApZ false w A gh m h0 h1 h0 h1 v0 v1 wr) (fun z12 _ _ _ _ _ _ _ _=>16-(intOf z12).toNat)
  case atStart=>exact⟨0,[],[],_,_,Nat.zero_le _,Nat.zero_le _,rfl,HST2.out⟩
  case round=>
    obtain⟨m,h0,h1,v0,v1,hmn,hm16,rfl,hat⟩:=hrel
    have HAT:=Lib.hid hat
    have c0:wr.cell? ⟨gh,0,none⟩=some v0:=hat.box.cell 0 v0 rfl
    have c1:wr.cell? ⟨gh,1,none⟩=some v1:=hat.box.cell 1 v1 rfl
    have hglt:=hat.box.lt
    clear hat
    by_cases hmn2:m<n
    · have hb1:decide ((m:Int)<(n:Int))=true:=by simpa using hmn2
      have hb1n:decide (m<n)=true:=by simpa using hmn2
      by_cases hM:m<16
      · have hb2 : decide ((m:Int)<16)=true:=by simp;omega
        have hb2n:decide (m<16)=true:=by simpa using hM
        have hand:=and1 m hM
        obtain⟨x,hx⟩:∃x,l[m]? = some x:=⟨_,List.getElem?_eq_getElem (by rw[HL.out];exact hmn2)⟩
        obtain⟨b,o,cc,hv2,hbl2,hx1,hx2⟩:=Op8.at (HR.out.below HAT.out.bel (Nat.le_refl _)) m hmn2 x hx
        rw[HV.out]at hv2
        injection hv2 with e1 e2 e3
        subst e1 e3
        obtain⟨kd,p⟩:=x
        simp only at hx1 hx2
        clear hx e2
        rcases Nat.mod_two_eq_zero_or_one m with hpar|hpar
        · rw [hpar] at hand
          have HZ:=Lib.hid HAT.out
          have e2:idz false=2:=rfl
          have e3:idz true=3:=rfl
          try simp only[Bool.not_false]at HZ
          obtain⟨ao0,cp0,hv0,hcp0,hcq0,_⟩:=HAT.out.rm.shape
          obtain⟨ao1,cp1,hv1,hcp1,hcq1,_⟩:=HAT.out.ro.shape
          rw[icells_len]at hv0 hcp0 hv1 hcp1
          obtain⟨n0,hn0⟩:∃q,h0.length=q:=⟨_,rfl⟩
          obtain⟨n1,hn1⟩:∃q,h1.length=q:=⟨_,rfl⟩
          rw[hn0]at hv0 hcp0
          rw[hn1]at hv1 hcp1
          have HN0:=Lib.hid hn0
          have HN1:=Lib.hid hn1
          have hlz0:=HAT.out.len
          rw[hn0,hn1]at hlz0
          clear hn0 hn1
          subst hv0 hv1
          by_cases k0:kd=0
          · subst k0
            have HTK:=Lib.hid (HZ.out.take hM)
            have hlz:=HZ.out.len
            simp only[e2,e3]at HTK
            go_wp2_with fail
            refine HTK.out.mono ?_
            rintro e y6 ⟨q,rfl,hz,hqm,hqo,hq94⟩
            have HZ6:=Lib.hid hz
            have HQ0:=Lib.hid hqm
            have HQ1:=Lib.hid hqo
            have HROW0:=Lib.hid hz.rm
            have HROW1:=Lib.hid hz.ro
            have d0:y6.cell? ⟨gh,0,none⟩=some (.slice ao0 n0 cp0):=hz.box.cell 0 _ rfl
            have d1:y6.cell? ⟨gh,1,none⟩=some (.slice ao1 n1 cp1):=hz.box.cell 1 _ rfl
            have hg6:=hz.box.lt
            clear hz hqm hqo HTK c0 c1 hglt
            go_wp2_with fail
            go_loopw [17,18] (fun z17 _ wq=>∃a:Nat,a≤2∧z17=.int .i64 (a:Nat)∧y6=wq) (fun z17 _ _=>2-(intOf z17).toNat)
            case atStart=>exact⟨0,Nat.zero_le _,rfl,rfl⟩
            case round=>
              obtain⟨a,ha,rfl,rfl⟩:=hrel
              rcases(show a=0∨a=1∨a=2 by omega)with rfl|rfl|rfl
              · skip
                have hja:decide ((0:Int)<2)=true:=by decide
                go_wp2_with fail
                go_loopw [18] (fun z18 wq=>∃j:Nat,j≤n0∧z18=.int .i64 (j:Nat)∧y6=wq) (fun z18 _=>n0-(intOf z18).toNat)
                case atStart=>exact⟨0,Nat.zero_le _,rfl,rfl⟩
                case round=>
                  obtain⟨j,hj,rfl,rfl⟩:=hrel
                  by_cases hjn:j<n0
                  · obtain⟨r,hr⟩:∃r,h0[j]? = some r:=⟨_,List.getElem?_eq_getElem (by rw[HN0.out];exact hjn)⟩
                    obtain⟨ao2,c2,hv2,_,_,hcell⟩:=HROW0.out.shape
                    obtain⟨b,o,rfl,hb,hc⟩:=hcell j _ (icells_at hr)
                    injection hv2 with e1 e2 e3
                    subst e1 e3
                    have hne:¬r=q:=fun e=>HQ0.out (e▸List.mem_of_getElem? hr)
                    have hne2:decide ((r:Int)=(q:Int))=false:=by simp;omega
                    have hne3:decide (r=q)=false:=by simpa using hne
                    clear hcell hr e2
                    have hjb:decide ((j:Int)<(n0:Int))=true:=by simpa using hjn
                    have hjb2:decide (j<n0)=true:=by simpa using hjn
                    go_wp2_with fail
                    go_roundw
                    · exact⟨j+1,by omega,by go_num,trivial⟩
                    · simp[intOf];omega
                  · obtain rfl:j=n0:=by omega
                    go_wp2_with fail
                    go_roundw
                    · exact⟨0+1,by decide,by rfl,trivial⟩
                    · simp[intOf]
              · skip
                have hja:decide ((1:Int)<2)=true:=by decide
                go_wp2_with fail
                go_loopw [18] (fun z18 wq=>∃j:Nat,j≤n1∧z18=.int .i64 (j:Nat)∧y6=wq) (fun z18 _=>n1-(intOf z18).toNat)
                case atStart=>exact⟨0,Nat.zero_le _,rfl,rfl⟩
                case round=>
                  obtain⟨j,hj,rfl,rfl⟩:=hrel
                  by_cases hjn:j<n1
                  · obtain⟨r,hr⟩:∃r,h1[j]? = some r:=⟨_,List.getElem?_eq_getElem (by rw[HN1.out];exact hjn)⟩
                    obtain⟨ao2,c2,hv2,_,_,hcell⟩:=HROW1.out.shape
                    obtain⟨b,o,rfl,hb,hc⟩:=hcell j _ (icells_at hr)
                    injection hv2 with e1 e2 e3
                    subst e1 e3
                    have hne:¬r=q:=fun e=>HQ1.out (e▸List.mem_of_getElem? hr)
                    have hne2:decide ((r:Int)=(q:Int))=false:=by simp;omega
                    have hne3:decide (r=q)=false:=by simpa using hne
                    clear hcell hr e2
                    have hjb:decide ((j:Int)<(n1:Int))=true:=by simpa using hjn
                    have hjb2:decide (j<n1)=true:=by simpa using hjn
                    go_wp2_with fail
                    go_roundw
                    · exact⟨j+1,by omega,by go_num,trivial⟩
                    · simp[intOf];omega
                  · obtain rfl:j=n1:=by omega
                    go_wp2_with fail
                    go_roundw
                    · exact⟨1+1,by decide,by rfl,trivial⟩
                    · simp[intOf]
              · have HZA:=Lib.hid (HZ6.out.alloc (.cells #[.int .i64 (q:Nat)] 3))
                have hbs:w.heap.size≤(y6.alloc (.cells #[.int .i64 (q:Nat)] 3)).heap.size:=HZA.out.bel.size
                have HRA:=Lib.hid HZA.out.rm
                have hil:(icells h0).length≤93:=by rw[icells_len,HN0.out];omega
                go_wp2_with
                  (at_builtin
                   refine wpList_append_rowO intsOf (.tmp 116) (.tmp 118) rfl rfl (B:=w.heap.size) rfl HRA.out rfl (u:=.int .i64 (q:Nat)) (World.cell?_alloc_at _ _ _ _ rfl) rfl (by omega) (by omega) hbs ?_
                   intro v' w2 hrow hgx hown
                   obtain⟨aoN,cpN,hvn,_,_,_⟩:=hrow.shape
                   rw[List.length_append,List.length_singleton,icells_len,HN0.out]at hvn
                   subst hvn
                   have hap:=HZA.out.app (by rw[←icells_snoc];exact hrow) hgx hown
                   have f0:w2.cell? ⟨gh,0,none⟩=some (.slice ao0 n0 cp0):=hap.1.cell 0 _ rfl
                   have f1:w2.cell? ⟨gh,1,none⟩=some (.slice ao1 n1 cp1):=hap.1.cell 1 _ rfl
                   have flt:=hap.1.lt
                   have ffr:=hap.1.free
                   have HAP:=Lib.hid hap.2
                   clear hap hrow hgx hown d0 d1)
                go_roundw
                · exact⟨m+1,_,_,_,_,by omega,by omega,by go_num,HAP.out⟩
                · simp[intOf];omega
          · have hk0 : decide (kd=0)=false:=by simpa using k0
            have hk0b:(kd==0)=false:=by simpa using k0
            by_cases kn:n0=0
            · have hkn:decide ((n0:Int)=0)=true:=by simp;omega
              have hkn2:decide (n0=0)=true:=by simpa using kn
              have hkn3:((n0:Int)==0)=true:=by simpa using kn
              clear kn
              have HTK:=Lib.hid (HZ.out.take hM)
              have hlz:=HZ.out.len
              simp only[e2,e3]at HTK
              go_wp2_with fail
              refine HTK.out.mono ?_
              rintro e y6 ⟨q,rfl,hz,hqm,hqo,hq94⟩
              have HZ6:=Lib.hid hz
              have HQ0:=Lib.hid hqm
              have HQ1:=Lib.hid hqo
              have HROW0:=Lib.hid hz.rm
              have HROW1:=Lib.hid hz.ro
              have d0:y6.cell? ⟨gh,0,none⟩=some (.slice ao0 n0 cp0):=hz.box.cell 0 _ rfl
              have d1:y6.cell? ⟨gh,1,none⟩=some (.slice ao1 n1 cp1):=hz.box.cell 1 _ rfl
              have hg6:=hz.box.lt
              clear hz hqm hqo HTK c0 c1 hglt hkn hkn2 hkn3
              go_wp2_with fail
              go_loopw [17,18] (fun z17 _ wq=>∃a:Nat,a≤2∧z17=.int .i64 (a:Nat)∧y6=wq) (fun z17 _ _=>2-(intOf z17).toNat)
              case atStart=>exact⟨0,Nat.zero_le _,rfl,rfl⟩
              case round=>
                obtain⟨a,ha,rfl,rfl⟩:=hrel
                rcases(show a=0∨a=1∨a=2 by omega)with rfl|rfl|rfl
                · skip
                  have hja:decide ((0:Int)<2)=true:=by decide
                  go_wp2_with fail
                  go_loopw [18] (fun z18 wq=>∃j:Nat,j≤n0∧z18=.int .i64 (j:Nat)∧y6=wq) (fun z18 _=>n0-(intOf z18).toNat)
                  case atStart=>exact⟨0,Nat.zero_le _,rfl,rfl⟩
                  case round=>
                    obtain⟨j,hj,rfl,rfl⟩:=hrel
                    by_cases hjn:j<n0
                    · obtain⟨r,hr⟩:∃r,h0[j]? = some r:=⟨_,List.getElem?_eq_getElem (by rw[HN0.out];exact hjn)⟩
                      obtain⟨ao2,c2,hv2,_,_,hcell⟩:=HROW0.out.shape
                      obtain⟨b,o,rfl,hb,hc⟩:=hcell j _ (icells_at hr)
                      injection hv2 with e1 e2 e3
                      subst e1 e3
                      have hne:¬r=q:=fun e=>HQ0.out (e▸List.mem_of_getElem? hr)
                      have hne2:decide ((r:Int)=(q:Int))=false:=by simp;omega
                      have hne3:decide (r=q)=false:=by simpa using hne
                      clear hcell hr e2
                      have hjb:decide ((j:Int)<(n0:Int))=true:=by simpa using hjn
                      have hjb2:decide (j<n0)=true:=by simpa using hjn
                      go_wp2_with fail
                      go_roundw
                      · exact⟨j+1,by omega,by go_num,trivial⟩
                      · simp[intOf];omega
                    · obtain rfl:j=n0:=by omega
                      go_wp2_with fail
                      go_roundw
                      · exact⟨0+1,by decide,by rfl,trivial⟩
                      · simp[intOf]
                · skip
                  have hja:decide ((1:Int)<2)=true:=by decide
                  go_wp2_with fail
                  go_loopw [18] (fun z18 wq=>∃j:Nat,j≤n1∧z18=.int .i64 (j:Nat)∧y6=wq) (fun z18 _=>n1-(intOf z18).toNat)
                  case atStart=>exact⟨0,Nat.zero_le _,rfl,rfl⟩
                  case round=>
                    obtain⟨j,hj,rfl,rfl⟩:=hrel
                    by_cases hjn:j<n1
                    · obtain⟨r,hr⟩:∃r,h1[j]? = some r:=⟨_,List.getElem?_eq_getElem (by rw[HN1.out];exact hjn)⟩
                      obtain⟨ao2,c2,hv2,_,_,hcell⟩:=HROW1.out.shape
                      obtain⟨b,o,rfl,hb,hc⟩:=hcell j _ (icells_at hr)
                      injection hv2 with e1 e2 e3
                      subst e1 e3
                      have hne:¬r=q:=fun e=>HQ1.out (e▸List.mem_of_getElem? hr)
                      have hne2:decide ((r:Int)=(q:Int))=false:=by simp;omega
                      have hne3:decide (r=q)=false:=by simpa using hne
                      clear hcell hr e2
                      have hjb:decide ((j:Int)<(n1:Int))=true:=by simpa using hjn
                      have hjb2:decide (j<n1)=true:=by simpa using hjn
                      go_wp2_with fail
                      go_roundw
                      · exact⟨j+1,by omega,by go_num,trivial⟩
                      · simp[intOf];omega
                    · obtain rfl:j=n1:=by omega
                      go_wp2_with fail
                      go_roundw
                      · exact⟨1+1,by decide,by rfl,trivial⟩
                      · simp[intOf]
                · have HZA:=Lib.hid (HZ6.out.alloc (.cells #[.int .i64 (q:Nat)] 3))
                  have hbs:w.heap.size≤(y6.alloc (.cells #[.int .i64 (q:Nat)] 3)).heap.size:=HZA.out.bel.size
                  have HRA:=Lib.hid HZA.out.rm
                  have hil:(icells h0).length≤93:=by rw[icells_len,HN0.out];omega
                  go_wp2_with
                    (at_builtin
                     refine wpList_append_rowO intsOf (.tmp 116) (.tmp 118) rfl rfl (B:=w.heap.size) rfl HRA.out rfl (u:=.int .i64 (q:Nat)) (World.cell?_alloc_at _ _ _ _ rfl) rfl (by omega) (by omega) hbs ?_
                     intro v' w2 hrow hgx hown
                     obtain⟨aoN,cpN,hvn,_,_,_⟩:=hrow.shape
                     rw[List.length_append,List.length_singleton,icells_len,HN0.out]at hvn
                     subst hvn
                     have hap:=HZA.out.app (by rw[←icells_snoc];exact hrow) hgx hown
                     have f0:w2.cell? ⟨gh,0,none⟩=some (.slice ao0 n0 cp0):=hap.1.cell 0 _ rfl
                     have f1:w2.cell? ⟨gh,1,none⟩=some (.slice ao1 n1 cp1):=hap.1.cell 1 _ rfl
                     have flt:=hap.1.lt
                     have ffr:=hap.1.free
                     have HAP:=Lib.hid hap.2
                     clear hap hrow hgx hown d0 d1)
                  go_roundw
                  · exact⟨m+1,_,_,_,_,by omega,by omega,by go_num,HAP.out⟩
                  · simp[intOf];omega
            · have hkn:decide ((n0:Int)=0)=false:=by simp;omega
              have hkn2:decide (n0=0)=false:=by simpa using kn
              have hkn3:((n0:Int)==0)=false:=by simpa using kn
              obtain⟨pq,hr,rfl⟩:∃pq hr,h0=pq::hr:=by
                cases h0 with
                | nil=>exact absurd HN0.out.symm kn
                | cons a r=>exact⟨a,r,rfl⟩
              have hgv:=HZ.out.give hM
              simp only[e2,e3]at hgv
              have HGV:=Lib.hid hgv
              obtain⟨g,off,cp,hve,hc1,hc2,hcell,hgl,hgf,_⟩:=RowO.cons (x:=.int .i64 (pq:Nat)) (l:=icells hr) HZ.out.rm
              injection hve with q1 q2 q3
              subst q1 q3
              clear q2 hgv
              go_wp2_with fail
              refine HGV.out.mono ?_
              rintro e y6 ⟨rfl,hz⟩
              obtain⟨g',off',cp',hve,hd1,hd2,_,_,_,hdA,hdB⟩:=RowO.cons (x:=.int .i64 (pq:Nat)) (l:=icells hr) hz.rm
              injection hve with q1 q2 q3
              injection q1 with q1
              injection q1 with q1 q4
              subst q1 q3 q4
              have hnl:n0=(icells hr).length+1:=q2
              have d0:y6.cell? ⟨gh,0,none⟩=some (.slice (some ⟨g,off,none⟩) n0 cp0):=hz.box.cell 0 _ rfl
              have d1:y6.cell? ⟨gh,1,none⟩=some (.slice ao1 n1 cp1):=hz.box.cell 1 _ rfl
              have flt:=hz.box.lt
              have ffr:=hz.box.free
              have HZ6:=Lib.hid hz
              have HDA:=Lib.hid hdA
              have HDB:=Lib.hid hdB
              have HNL:=Lib.hid hnl
              clear hz HGV c0 c1 hglt hdA hdB hnl q2
              have hlz6:=HZ6.out.len
              by_cases hcz:cp0=1
              · have hn1:n0=1:=by omega
                have HAP:=Lib.hid (HZ6.out.app (HDA.out hcz) (GrowX.refl _) (fun k hk=>.inl hk)).2
                have hil:(icells hr).length=0:=by omega
                rw[hcz,hil]at HAP
                have hcz2:cp0-1=0:=by omega
                subst hn1
                subst hcz
                go_wp2_with fail
                go_roundw
                · exact⟨m+1,_,_,_,_,by omega,by omega,by go_num,HAP.out⟩
                · simp[intOf];omega
              · have hcp2:¬cp0-1=0:=by omega
                have HAP:=Lib.hid (HZ6.out.app HDB.out (GrowX.refl _) (fun k hk=>.inl hk)).2
                have hil:(icells hr).length=n0-1:=by have:=HNL.out;omega
                rw[hil]at HAP
                clear hil
                go_wp2_with fail
                go_roundw
                · exact⟨m+1,_,_,_,_,by omega,by omega,by go_num,HAP.out⟩
                · simp[intOf];omega
        · rw [hpar] at hand
          have HZ:=Lib.hid HAT.out.flip
          have e2:idz false=2:=rfl
          have e3:idz true=3:=rfl
          try simp only[Bool.not_false]at HZ
          obtain⟨ao0,cp0,hv0,hcp0,hcq0,_⟩:=HAT.out.rm.shape
          obtain⟨ao1,cp1,hv1,hcp1,hcq1,_⟩:=HAT.out.ro.shape
          rw[icells_len]at hv0 hcp0 hv1 hcp1
          obtain⟨n0,hn0⟩:∃q,h0.length=q:=⟨_,rfl⟩
          obtain⟨n1,hn1⟩:∃q,h1.length=q:=⟨_,rfl⟩
          rw[hn0]at hv0 hcp0
          rw[hn1]at hv1 hcp1
          have HN0:=Lib.hid hn0
          have HN1:=Lib.hid hn1
          have hlz0:=HAT.out.len
          rw[hn0,hn1]at hlz0
          clear hn0 hn1
          subst hv0 hv1
          by_cases k0:kd=0
          · subst k0
            have HTK:=Lib.hid (HZ.out.take hM)
            have hlz:=HZ.out.len
            simp only[e2,e3]at HTK
            go_wp2_with fail
            refine HTK.out.mono ?_
            rintro e y6 ⟨q,rfl,hz,hqm,hqo,hq94⟩
            have HZ6:=Lib.hid hz
            have HQ1:=Lib.hid hqm
            have HQ0:=Lib.hid hqo
            have HROW1:=Lib.hid hz.rm
            have HROW0:=Lib.hid hz.ro
            have d0:y6.cell? ⟨gh,0,none⟩=some (.slice ao0 n0 cp0):=hz.box.cell 0 _ rfl
            have d1:y6.cell? ⟨gh,1,none⟩=some (.slice ao1 n1 cp1):=hz.box.cell 1 _ rfl
            have hg6:=hz.box.lt
            clear hz hqm hqo HTK c0 c1 hglt
            go_wp2_with fail
            go_loopw [17,18] (fun z17 _ wq=>∃a:Nat,a≤2∧z17=.int .i64 (a:Nat)∧y6=wq) (fun z17 _ _=>2-(intOf z17).toNat)
            case atStart=>exact⟨0,Nat.zero_le _,rfl,rfl⟩
            case round=>
              obtain⟨a,ha,rfl,rfl⟩:=hrel
              rcases(show a=0∨a=1∨a=2 by omega)with rfl|rfl|rfl
              · skip
                have hja:decide ((0:Int)<2)=true:=by decide
                go_wp2_with fail
                go_loopw [18] (fun z18 wq=>∃j:Nat,j≤n0∧z18=.int .i64 (j:Nat)∧y6=wq) (fun z18 _=>n0-(intOf z18).toNat)
                case atStart=>exact⟨0,Nat.zero_le _,rfl,rfl⟩
                case round=>
                  obtain⟨j,hj,rfl,rfl⟩:=hrel
                  by_cases hjn:j<n0
                  · obtain⟨r,hr⟩:∃r,h0[j]? = some r:=⟨_,List.getElem?_eq_getElem (by rw[HN0.out];exact hjn)⟩
                    obtain⟨ao2,c2,hv2,_,_,hcell⟩:=HROW0.out.shape
                    obtain⟨b,o,rfl,hb,hc⟩:=hcell j _ (icells_at hr)
                    injection hv2 with e1 e2 e3
                    subst e1 e3
                    have hne:¬r=q:=fun e=>HQ0.out (e▸List.mem_of_getElem? hr)
                    have hne2:decide ((r:Int)=(q:Int))=false:=by simp;omega
                    have hne3:decide (r=q)=false:=by simpa using hne
                    clear hcell hr e2
                    have hjb:decide ((j:Int)<(n0:Int))=true:=by simpa using hjn
                    have hjb2:decide (j<n0)=true:=by simpa using hjn
                    go_wp2_with fail
                    go_roundw
                    · exact⟨j+1,by omega,by go_num,trivial⟩
                    · simp[intOf];omega
                  · obtain rfl:j=n0:=by omega
                    go_wp2_with fail
                    go_roundw
                    · exact⟨0+1,by decide,by rfl,trivial⟩
                    · simp[intOf]
              · skip
                have hja:decide ((1:Int)<2)=true:=by decide
                go_wp2_with fail
                go_loopw [18] (fun z18 wq=>∃j:Nat,j≤n1∧z18=.int .i64 (j:Nat)∧y6=wq) (fun z18 _=>n1-(intOf z18).toNat)
                case atStart=>exact⟨0,Nat.zero_le _,rfl,rfl⟩
                case round=>
                  obtain⟨j,hj,rfl,rfl⟩:=hrel
                  by_cases hjn:j<n1
                  · obtain⟨r,hr⟩:∃r,h1[j]? = some r:=⟨_,List.getElem?_eq_getElem (by rw[HN1.out];exact hjn)⟩
                    obtain⟨ao2,c2,hv2,_,_,hcell⟩:=HROW1.out.shape
                    obtain⟨b,o,rfl,hb,hc⟩:=hcell j _ (icells_at hr)
                    injection hv2 with e1 e2 e3
                    subst e1 e3
                    have hne:¬r=q:=fun e=>HQ1.out (e▸List.mem_of_getElem? hr)
                    have hne2:decide ((r:Int)=(q:Int))=false:=by simp;omega
                    have hne3:decide (r=q)=false:=by simpa using hne
                    clear hcell hr e2
                    have hjb:decide ((j:Int)<(n1:Int))=true:=by simpa using hjn
                    have hjb2:decide (j<n1)=true:=by simpa using hjn
                    go_wp2_with fail
                    go_roundw
                    · exact⟨j+1,by omega,by go_num,trivial⟩
                    · simp[intOf];omega
                  · obtain rfl:j=n1:=by omega
                    go_wp2_with fail
                    go_roundw
                    · exact⟨1+1,by decide,by rfl,trivial⟩
                    · simp[intOf]
              · have HZA:=Lib.hid (HZ6.out.alloc (.cells #[.int .i64 (q:Nat)] 3))
                have hbs:w.heap.size≤(y6.alloc (.cells #[.int .i64 (q:Nat)] 3)).heap.size:=HZA.out.bel.size
                have HRA:=Lib.hid HZA.out.rm
                have hil:(icells h1).length≤93:=by rw[icells_len,HN1.out];omega
                go_wp2_with
                  (at_builtin
                   refine wpList_append_rowO intsOf (.tmp 116) (.tmp 118) rfl rfl (B:=w.heap.size) rfl HRA.out rfl (u:=.int .i64 (q:Nat)) (World.cell?_alloc_at _ _ _ _ rfl) rfl (by omega) (by omega) hbs ?_
                   intro v' w2 hrow hgx hown
                   obtain⟨aoN,cpN,hvn,_,_,_⟩:=hrow.shape
                   rw[List.length_append,List.length_singleton,icells_len,HN1.out]at hvn
                   subst hvn
                   have hap:=HZA.out.app (by rw[←icells_snoc];exact hrow) hgx hown
                   have f0:w2.cell? ⟨gh,0,none⟩=some (.slice ao0 n0 cp0):=hap.1.cell 0 _ rfl
                   have f1:w2.cell? ⟨gh,1,none⟩=some (.slice ao1 n1 cp1):=hap.1.cell 1 _ rfl
                   have flt:=hap.1.lt
                   have ffr:=hap.1.free
                   have HAP:=Lib.hid hap.2
                   clear hap hrow hgx hown d0 d1)
                go_roundw
                · exact⟨m+1,_,_,_,_,by omega,by omega,by go_num,HAP.out.flip⟩
                · simp[intOf];omega
          · have hk0 : decide (kd=0)=false:=by simpa using k0
            have hk0b:(kd==0)=false:=by simpa using k0
            by_cases kn:n1=0
            · have hkn:decide ((n1:Int)=0)=true:=by simp;omega
              have hkn2:decide (n1=0)=true:=by simpa using kn
              have hkn3:((n1:Int)==0)=true:=by simpa using kn
              clear kn
              have HTK:=Lib.hid (HZ.out.take hM)
              have hlz:=HZ.out.len
              simp only[e2,e3]at HTK
              go_wp2_with fail
              refine HTK.out.mono ?_
              rintro e y6 ⟨q,rfl,hz,hqm,hqo,hq94⟩
              have HZ6:=Lib.hid hz
              have HQ1:=Lib.hid hqm
              have HQ0:=Lib.hid hqo
              have HROW1:=Lib.hid hz.rm
              have HROW0:=Lib.hid hz.ro
              have d0:y6.cell? ⟨gh,0,none⟩=some (.slice ao0 n0 cp0):=hz.box.cell 0 _ rfl
              have d1:y6.cell? ⟨gh,1,none⟩=some (.slice ao1 n1 cp1):=hz.box.cell 1 _ rfl
              have hg6:=hz.box.lt
              clear hz hqm hqo HTK c0 c1 hglt hkn hkn2 hkn3
              go_wp2_with fail
              go_loopw [17,18] (fun z17 _ wq=>∃a:Nat,a≤2∧z17=.int .i64 (a:Nat)∧y6=wq) (fun z17 _ _=>2-(intOf z17).toNat)
              case atStart=>exact⟨0,Nat.zero_le _,rfl,rfl⟩
              case round=>
                obtain⟨a,ha,rfl,rfl⟩:=hrel
                rcases(show a=0∨a=1∨a=2 by omega)with rfl|rfl|rfl
                · skip
                  have hja:decide ((0:Int)<2)=true:=by decide
                  go_wp2_with fail
                  go_loopw [18] (fun z18 wq=>∃j:Nat,j≤n0∧z18=.int .i64 (j:Nat)∧y6=wq) (fun z18 _=>n0-(intOf z18).toNat)
                  case atStart=>exact⟨0,Nat.zero_le _,rfl,rfl⟩
                  case round=>
                    obtain⟨j,hj,rfl,rfl⟩:=hrel
                    by_cases hjn:j<n0
                    · obtain⟨r,hr⟩:∃r,h0[j]? = some r:=⟨_,List.getElem?_eq_getElem (by rw[HN0.out];exact hjn)⟩
                      obtain⟨ao2,c2,hv2,_,_,hcell⟩:=HROW0.out.shape
                      obtain⟨b,o,rfl,hb,hc⟩:=hcell j _ (icells_at hr)
                      injection hv2 with e1 e2 e3
                      subst e1 e3
                      have hne:¬r=q:=fun e=>HQ0.out (e▸List.mem_of_getElem? hr)
                      have hne2:decide ((r:Int)=(q:Int))=false:=by simp;omega
                      have hne3:decide (r=q)=false:=by simpa using hne
                      clear hcell hr e2
                      have hjb:decide ((j:Int)<(n0:Int))=true:=by simpa using hjn
                      have hjb2:decide (j<n0)=true:=by simpa using hjn
                      go_wp2_with fail
                      go_roundw
                      · exact⟨j+1,by omega,by go_num,trivial⟩
                      · simp[intOf];omega
                    · obtain rfl:j=n0:=by omega
                      go_wp2_with fail
                      go_roundw
                      · exact⟨0+1,by decide,by rfl,trivial⟩
                      · simp[intOf]
                · skip
                  have hja:decide ((1:Int)<2)=true:=by decide
                  go_wp2_with fail
                  go_loopw [18] (fun z18 wq=>∃j:Nat,j≤n1∧z18=.int .i64 (j:Nat)∧y6=wq) (fun z18 _=>n1-(intOf z18).toNat)
                  case atStart=>exact⟨0,Nat.zero_le _,rfl,rfl⟩
                  case round=>
                    obtain⟨j,hj,rfl,rfl⟩:=hrel
                    by_cases hjn:j<n1
                    · obtain⟨r,hr⟩:∃r,h1[j]? = some r:=⟨_,List.getElem?_eq_getElem (by rw[HN1.out];exact hjn)⟩
                      obtain⟨ao2,c2,hv2,_,_,hcell⟩:=HROW1.out.shape
                      obtain⟨b,o,rfl,hb,hc⟩:=hcell j _ (icells_at hr)
                      injection hv2 with e1 e2 e3
                      subst e1 e3
                      have hne:¬r=q:=fun e=>HQ1.out (e▸List.mem_of_getElem? hr)
                      have hne2:decide ((r:Int)=(q:Int))=false:=by simp;omega
                      have hne3:decide (r=q)=false:=by simpa using hne
                      clear hcell hr e2
                      have hjb:decide ((j:Int)<(n1:Int))=true:=by simpa using hjn
                      have hjb2:decide (j<n1)=true:=by simpa using hjn
                      go_wp2_with fail
                      go_roundw
                      · exact⟨j+1,by omega,by go_num,trivial⟩
                      · simp[intOf];omega
                    · obtain rfl:j=n1:=by omega
                      go_wp2_with fail
                      go_roundw
                      · exact⟨1+1,by decide,by rfl,trivial⟩
                      · simp[intOf]
                · have HZA:=Lib.hid (HZ6.out.alloc (.cells #[.int .i64 (q:Nat)] 3))
                  have hbs:w.heap.size≤(y6.alloc (.cells #[.int .i64 (q:Nat)] 3)).heap.size:=HZA.out.bel.size
                  have HRA:=Lib.hid HZA.out.rm
                  have hil:(icells h1).length≤93:=by rw[icells_len,HN1.out];omega
                  go_wp2_with
                    (at_builtin
                     refine wpList_append_rowO intsOf (.tmp 116) (.tmp 118) rfl rfl (B:=w.heap.size) rfl HRA.out rfl (u:=.int .i64 (q:Nat)) (World.cell?_alloc_at _ _ _ _ rfl) rfl (by omega) (by omega) hbs ?_
                     intro v' w2 hrow hgx hown
                     obtain⟨aoN,cpN,hvn,_,_,_⟩:=hrow.shape
                     rw[List.length_append,List.length_singleton,icells_len,HN1.out]at hvn
                     subst hvn
                     have hap:=HZA.out.app (by rw[←icells_snoc];exact hrow) hgx hown
                     have f0:w2.cell? ⟨gh,0,none⟩=some (.slice ao0 n0 cp0):=hap.1.cell 0 _ rfl
                     have f1:w2.cell? ⟨gh,1,none⟩=some (.slice ao1 n1 cp1):=hap.1.cell 1 _ rfl
                     have flt:=hap.1.lt
                     have ffr:=hap.1.free
                     have HAP:=Lib.hid hap.2
                     clear hap hrow hgx hown d0 d1)
                  go_roundw
                  · exact⟨m+1,_,_,_,_,by omega,by omega,by go_num,HAP.out.flip⟩
                  · simp[intOf];omega
            · have hkn:decide ((n1:Int)=0)=false:=by simp;omega
              have hkn2:decide (n1=0)=false:=by simpa using kn
              have hkn3:((n1:Int)==0)=false:=by simpa using kn
              obtain⟨pq,hr,rfl⟩:∃pq hr,h1=pq::hr:=by
                cases h1 with
                | nil=>exact absurd HN1.out.symm kn
                | cons a r=>exact⟨a,r,rfl⟩
              have hgv:=HZ.out.give hM
              simp only[e2,e3]at hgv
              have HGV:=Lib.hid hgv
              obtain⟨g,off,cp,hve,hc1,hc2,hcell,hgl,hgf,_⟩:=RowO.cons (x:=.int .i64 (pq:Nat)) (l:=icells hr) HZ.out.rm
              injection hve with q1 q2 q3
              subst q1 q3
              clear q2 hgv
              go_wp2_with fail
              refine HGV.out.mono ?_
              rintro e y6 ⟨rfl,hz⟩
              obtain⟨g',off',cp',hve,hd1,hd2,_,_,_,hdA,hdB⟩:=RowO.cons (x:=.int .i64 (pq:Nat)) (l:=icells hr) hz.rm
              injection hve with q1 q2 q3
              injection q1 with q1
              injection q1 with q1 q4
              subst q1 q3 q4
              have hnl:n1=(icells hr).length+1:=q2
              have d0:y6.cell? ⟨gh,0,none⟩=some (.slice ao0 n0 cp0):=hz.box.cell 0 _ rfl
              have d1:y6.cell? ⟨gh,1,none⟩=some (.slice (some ⟨g,off,none⟩) n1 cp1):=hz.box.cell 1 _ rfl
              have flt:=hz.box.lt
              have ffr:=hz.box.free
              have HZ6:=Lib.hid hz
              have HDA:=Lib.hid hdA
              have HDB:=Lib.hid hdB
              have HNL:=Lib.hid hnl
              clear hz HGV c0 c1 hglt hdA hdB hnl q2
              have hlz6:=HZ6.out.len
              by_cases hcz:cp1=1
              · have hn1:n1=1:=by omega
                have HAP:=Lib.hid (HZ6.out.app (HDA.out hcz) (GrowX.refl _) (fun k hk=>.inl hk)).2
                have hil:(icells hr).length=0:=by omega
                rw[hcz,hil]at HAP
                have hcz2:cp1-1=0:=by omega
                subst hn1
                subst hcz
                go_wp2_with fail
                go_roundw
                · exact⟨m+1,_,_,_,_,by omega,by omega,by go_num,HAP.out.flip⟩
                · simp[intOf];omega
              · have hcp2:¬cp1-1=0:=by omega
                have HAP:=Lib.hid (HZ6.out.app HDB.out (GrowX.refl _) (fun k hk=>.inl hk)).2
                have hil:(icells hr).length=n1-1:=by have:=HNL.out;omega
                rw[hil]at HAP
                clear hil
                go_wp2_with fail
                go_roundw
                · exact⟨m+1,_,_,_,_,by omega,by omega,by go_num,HAP.out.flip⟩
                · simp[intOf];omega
      · obtain rfl:m=16:=by omega
        cases out with
        | false=>
          have HBK:=Lib.hid (HAT.out.flip.back rfl (by omega))
          have e2:idz false=2:=rfl
          have e3:idz true=3:=rfl
          simp only[Bool.not_false,Bool.not_true,e2,e3]at HBK
          go_wp2_with fail
          refine HBK.out.mono ?_
          rintro e y6 ⟨T,rfl,hen⟩
          have HCO:=Lib.hid (hen.commit (by decide) (by decide) (by decide))
          clear hen HBK
          go_wp2_with fail
          refine HCO.out.mono ?_
          rintro e y7 ⟨rfl,hen⟩
          have hlen:=hen.cnt
          have hle:=countP_le' T
          rw[hen.len]at hle
          have HCN:=Lib.hid (hen.count (by decide))
          obtain⟨aos,cs,hvs,hcs1,hcs2,_⟩:=hen.row.shape
          rw[icells_len]at hvs hcs1
          obtain⟨ns,hns⟩:∃q,h0.length=q:=⟨_,rfl⟩
          have HNS:=Lib.hid hns
          have HVS:=Lib.hid hvs
          rw[hns]at hlen HCN hvs hcs1
          have hn93:ns≤93:=by omega
          have hcc:((1+ns:Nat):Int)=1+(ns:Int):=by omega
          rw[hcc]at HCN
          rw[hvs]
          clear hen HCO hlen hns hvs hle hcc
          go_wp2_with fail
          refine HCN.out.mono ?_
          rintro e y8 ⟨rfl,hen⟩
          have HEN:=Lib.hid hen
          clear hen HCN
          go_wp2_with fail
          go_loopw [25,26,27] (fun z25 _ _ wq=>∃j:Nat,j≤ns∧z25=.int .i64 (j:Nat)∧EndA w A (1004+j) 5096 0 T h0 v0 wq) (fun z25 _ _ _=>ns-(intOf z25).toNat)
          case atStart=>exact⟨0,Nat.zero_le _,rfl,HEN.out⟩
          case round=>
            obtain⟨j,hj,rfl,hen⟩:=hrel
            by_cases hjn:j<ns
            · obtain⟨q,hq⟩:∃q,h0[j]? = some q:=⟨_,List.getElem?_eq_getElem (by rw[HNS.out];exact hjn)⟩
              have HTK:=Lib.hid (hen.taken (by omega) hq)
              obtain⟨ao2,c2,hv2,_,_,hcell⟩:=hen.row.shape
              obtain⟨b,o,rfl,hb,hc⟩:=hcell j _ (icells_at hq)
              rw[HVS.out]at hv2
              injection hv2 with e1 e2 e3
              subst e1 e3
              clear hen hq e2 hcell
              have hjb:decide ((j:Int)<(ns:Int))=true:=by simpa using hjn
              have hjb2:decide (j<ns)=true:=by simpa using hjn
              go_wp2_with fail
              refine HTK.out.mono ?_
              rintro e y9 ⟨rfl,hen⟩
              have HEN:=Lib.hid hen
              clear hen HTK
              go_wp2_with fail
              go_roundw
              · exact⟨j+1,by omega,by go_num,HEN.out⟩
              · simp[intOf];omega
            · obtain rfl:j=ns:=by omega
              have HEN:=Lib.hid hen
              clear hen
              go_wp2_with fail
              refine(awake8_any _).mono ?_
              rintro e y9 ⟨rfl,hb9⟩
              have HB9:=Lib.hid hb9
              clear hb9
              go_wp2_with fail
              go_ret
              exact⟨rfl,HEN.out.bel.trans (HB9.out.mono HEN.out.bel.size)⟩
        | true=>
          have HBK:=Lib.hid (HAT.out.back rfl (by omega))
          have e2:idz false=2:=rfl
          have e3:idz true=3:=rfl
          simp only[Bool.not_false,Bool.not_true,e2,e3]at HBK
          go_wp2_with fail
          refine HBK.out.mono ?_
          rintro e y6 ⟨T,rfl,hen⟩
          have HCO:=Lib.hid (hen.commit (by decide) (by decide) (by decide))
          clear hen HBK
          go_wp2_with fail
          refine HCO.out.mono ?_
          rintro e y7 ⟨rfl,hen⟩
          have hlen:=hen.cnt
          have hle:=countP_le' T
          rw[hen.len]at hle
          have HCN:=Lib.hid (hen.count (by decide))
          obtain⟨aos,cs,hvs,hcs1,hcs2,_⟩:=hen.row.shape
          rw[icells_len]at hvs hcs1
          obtain⟨ns,hns⟩:∃q,h1.length=q:=⟨_,rfl⟩
          have HNS:=Lib.hid hns
          have HVS:=Lib.hid hvs
          rw[hns]at hlen HCN hvs hcs1
          have hn93:ns≤93:=by omega
          have hcc:((1+ns:Nat):Int)=1+(ns:Int):=by omega
          rw[hcc]at HCN
          rw[hvs]
          clear hen HCO hlen hns hvs hle hcc
          go_wp2_with fail
          refine HCN.out.mono ?_
          rintro e y8 ⟨rfl,hen⟩
          have HEN:=Lib.hid hen
          clear hen HCN
          go_wp2_with fail
          go_loopw [25,26,27] (fun z25 _ _ wq=>∃j:Nat,j≤ns∧z25=.int .i64 (j:Nat)∧EndA w A (1004+j) 5096 0 T h1 v1 wq) (fun z25 _ _ _=>ns-(intOf z25).toNat)
          case atStart=>exact⟨0,Nat.zero_le _,rfl,HEN.out⟩
          case round=>
            obtain⟨j,hj,rfl,hen⟩:=hrel
            by_cases hjn:j<ns
            · obtain⟨q,hq⟩:∃q,h1[j]? = some q:=⟨_,List.getElem?_eq_getElem (by rw[HNS.out];exact hjn)⟩
              have HTK:=Lib.hid (hen.taken (by omega) hq)
              obtain⟨ao2,c2,hv2,_,_,hcell⟩:=hen.row.shape
              obtain⟨b,o,rfl,hb,hc⟩:=hcell j _ (icells_at hq)
              rw[HVS.out]at hv2
              injection hv2 with e1 e2 e3
              subst e1 e3
              clear hen hq e2 hcell
              have hjb:decide ((j:Int)<(ns:Int))=true:=by simpa using hjn
              have hjb2:decide (j<ns)=true:=by simpa using hjn
              go_wp2_with fail
              refine HTK.out.mono ?_
              rintro e y9 ⟨rfl,hen⟩
              have HEN:=Lib.hid hen
              clear hen HTK
              go_wp2_with fail
              go_roundw
              · exact⟨j+1,by omega,by go_num,HEN.out⟩
              · simp[intOf];omega
            · obtain rfl:j=ns:=by omega
              have HEN:=Lib.hid hen
              clear hen
              go_wp2_with fail
              refine(awake8_any _).mono ?_
              rintro e y9 ⟨rfl,hb9⟩
              have HB9:=Lib.hid hb9
              clear hb9
              go_wp2_with fail
              go_ret
              exact⟨rfl,HEN.out.bel.trans (HB9.out.mono HEN.out.bel.size)⟩
    · obtain rfl:m=n:=by omega
      have hb1n:decide (m<m)=false:=by simp
      have hb1:decide ((m:Int)<(m:Int))=false:=by simp
      cases out with
      | false=>
        have HBK:=Lib.hid (HAT.out.flip.back rfl (by omega))
        have e2:idz false=2:=rfl
        have e3:idz true=3:=rfl
        simp only[Bool.not_false,Bool.not_true,e2,e3]at HBK
        go_wp2_with fail
        refine HBK.out.mono ?_
        rintro e y6 ⟨T,rfl,hen⟩
        have HCO:=Lib.hid (hen.commit (by decide) (by decide) (by decide))
        clear hen HBK
        go_wp2_with fail
        refine HCO.out.mono ?_
        rintro e y7 ⟨rfl,hen⟩
        have hlen:=hen.cnt
        have hle:=countP_le' T
        rw[hen.len]at hle
        have HCN:=Lib.hid (hen.count (by decide))
        obtain⟨aos,cs,hvs,hcs1,hcs2,_⟩:=hen.row.shape
        rw[icells_len]at hvs hcs1
        obtain⟨ns,hns⟩:∃q,h0.length=q:=⟨_,rfl⟩
        have HNS:=Lib.hid hns
        have HVS:=Lib.hid hvs
        rw[hns]at hlen HCN hvs hcs1
        have hn93:ns≤93:=by omega
        have hcc:((1+ns:Nat):Int)=1+(ns:Int):=by omega
        rw[hcc]at HCN
        rw[hvs]
        clear hen HCO hlen hns hvs hle hcc
        go_wp2_with fail
        refine HCN.out.mono ?_
        rintro e y8 ⟨rfl,hen⟩
        have HEN:=Lib.hid hen
        clear hen HCN
        go_wp2_with fail
        go_loopw [25,26,27] (fun z25 _ _ wq=>∃j:Nat,j≤ns∧z25=.int .i64 (j:Nat)∧EndA w A (1004+j) 5096 0 T h0 v0 wq) (fun z25 _ _ _=>ns-(intOf z25).toNat)
        case atStart=>exact⟨0,Nat.zero_le _,rfl,HEN.out⟩
        case round=>
          obtain⟨j,hj,rfl,hen⟩:=hrel
          by_cases hjn:j<ns
          · obtain⟨q,hq⟩:∃q,h0[j]? = some q:=⟨_,List.getElem?_eq_getElem (by rw[HNS.out];exact hjn)⟩
            have HTK:=Lib.hid (hen.taken (by omega) hq)
            obtain⟨ao2,c2,hv2,_,_,hcell⟩:=hen.row.shape
            obtain⟨b,o,rfl,hb,hc⟩:=hcell j _ (icells_at hq)
            rw[HVS.out]at hv2
            injection hv2 with e1 e2 e3
            subst e1 e3
            clear hen hq e2 hcell
            have hjb:decide ((j:Int)<(ns:Int))=true:=by simpa using hjn
            have hjb2:decide (j<ns)=true:=by simpa using hjn
            go_wp2_with fail
            refine HTK.out.mono ?_
            rintro e y9 ⟨rfl,hen⟩
            have HEN:=Lib.hid hen
            clear hen HTK
            go_wp2_with fail
            go_roundw
            · exact⟨j+1,by omega,by go_num,HEN.out⟩
            · simp[intOf];omega
          · obtain rfl:j=ns:=by omega
            have HEN:=Lib.hid hen
            clear hen
            go_wp2_with fail
            refine(awake8_any _).mono ?_
            rintro e y9 ⟨rfl,hb9⟩
            have HB9:=Lib.hid hb9
            clear hb9
            go_wp2_with fail
            go_ret
            exact⟨rfl,HEN.out.bel.trans (HB9.out.mono HEN.out.bel.size)⟩
      | true=>
        have HBK:=Lib.hid (HAT.out.back rfl (by omega))
        have e2:idz false=2:=rfl
        have e3:idz true=3:=rfl
        simp only[Bool.not_false,Bool.not_true,e2,e3]at HBK
        go_wp2_with fail
        refine HBK.out.mono ?_
        rintro e y6 ⟨T,rfl,hen⟩
        have HCO:=Lib.hid (hen.commit (by decide) (by decide) (by decide))
        clear hen HBK
        go_wp2_with fail
        refine HCO.out.mono ?_
        rintro e y7 ⟨rfl,hen⟩
        have hlen:=hen.cnt
        have hle:=countP_le' T
        rw[hen.len]at hle
        have HCN:=Lib.hid (hen.count (by decide))
        obtain⟨aos,cs,hvs,hcs1,hcs2,_⟩:=hen.row.shape
        rw[icells_len]at hvs hcs1
        obtain⟨ns,hns⟩:∃q,h1.length=q:=⟨_,rfl⟩
        have HNS:=Lib.hid hns
        have HVS:=Lib.hid hvs
        rw[hns]at hlen HCN hvs hcs1
        have hn93:ns≤93:=by omega
        have hcc:((1+ns:Nat):Int)=1+(ns:Int):=by omega
        rw[hcc]at HCN
        rw[hvs]
        clear hen HCO hlen hns hvs hle hcc
        go_wp2_with fail
        refine HCN.out.mono ?_
        rintro e y8 ⟨rfl,hen⟩
        have HEN:=Lib.hid hen
        clear hen HCN
        go_wp2_with fail
        go_loopw [25,26,27] (fun z25 _ _ wq=>∃j:Nat,j≤ns∧z25=.int .i64 (j:Nat)∧EndA w A (1004+j) 5096 0 T h1 v1 wq) (fun z25 _ _ _=>ns-(intOf z25).toNat)
        case atStart=>exact⟨0,Nat.zero_le _,rfl,HEN.out⟩
        case round=>
          obtain⟨j,hj,rfl,hen⟩:=hrel
          by_cases hjn:j<ns
          · obtain⟨q,hq⟩:∃q,h1[j]? = some q:=⟨_,List.getElem?_eq_getElem (by rw[HNS.out];exact hjn)⟩
            have HTK:=Lib.hid (hen.taken (by omega) hq)
            obtain⟨ao2,c2,hv2,_,_,hcell⟩:=hen.row.shape
            obtain⟨b,o,rfl,hb,hc⟩:=hcell j _ (icells_at hq)
            rw[HVS.out]at hv2
            injection hv2 with e1 e2 e3
            subst e1 e3
            clear hen hq e2 hcell
            have hjb:decide ((j:Int)<(ns:Int))=true:=by simpa using hjn
            have hjb2:decide (j<ns)=true:=by simpa using hjn
            go_wp2_with fail
            refine HTK.out.mono ?_
            rintro e y9 ⟨rfl,hen⟩
            have HEN:=Lib.hid hen
            clear hen HTK
            go_wp2_with fail
            go_roundw
            · exact⟨j+1,by omega,by go_num,HEN.out⟩
            · simp[intOf];omega
          · obtain rfl:j=ns:=by omega
            have HEN:=Lib.hid hen
            clear hen
            go_wp2_with fail
            refine(awake8_any _).mono ?_
            rintro e y9 ⟨rfl,hb9⟩
            have HB9:=Lib.hid hb9
            clear hb9
            go_wp2_with fail
            go_ret
            exact⟨rfl,HEN.out.bel.trans (HB9.out.mono HEN.out.bel.size)⟩
end Go.Proofs.YtpajagkhmodbnaaGreat

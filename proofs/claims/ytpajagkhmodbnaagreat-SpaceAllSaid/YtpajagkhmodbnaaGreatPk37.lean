/- Pk: texts of the store seat laid together by program: ScGive ScAllP. Conditions: each theorem names its own. -/
import Derived.Test.YtpajagkhmodbnaaGreatPk36
import Derived.Test.YtpajagkhmodbnaaGreatPk34
import Derived.Maps.OwnOps
import Derived.Maps.Views
namespace Go.Proofs.YtpajagkhmodbnaaGreat
set_option linter.unusedSimpArgs false
set_option linter.unusedVariables false
section
open Go.RowKit Go.Maps
theorem lawI:Keyed Tryz.prog 3:=int_keyed Tryz.underlying3
theorem zeroI(w:World):(zeroValue 3).run Tryz.prog w=.ok (.int .i64 0) w:=by kernel_rfl
abbrev kI(p:Int):Lit:=.int .i64 p
abbrev dI(p:Int):DataW Unit:=.lit (.int .i64 p)
abbrev vI(p:Int):Value:=.int .i64 p
theorem isK(p:Int):Go.WideAt.IsKeyLit (kI p):=True.intro
def Seen(D:DataW Unit)(l:List Int):Prop:=IsMap D∧∀p,D.atKey (kI p) (dI 0)=dI (if p∈l then 1 else 0)
theorem seen_nil:Seen (.map []) []:=⟨isMap_empty,fun p=>rfl⟩
theorem dI_inj{a b:Int}(h:dI a=dI b):a=b:=by injection h with h;injection h
theorem Seen.put{D:DataW Unit}{l:List Int}(h:Seen D l)(p:Int):Seen (D.put (kI p) (dI 1)) (l++[p]):=by
  refine⟨h.1.put _ _,fun q=>?_⟩
  by_cases e:q=p
  · subst e
    rw[atKey_put_same h.1 (isK _),if_pos (by simp)]
  · rw[atKey_put_other (by intro e2;injection e2 with _ e3;exact e e3),h.2 q]
    congr 2
    simp[e]
theorem put_one{D:DataW Unit}(h:IsMap D){p v c:Int}(hc:(D.put (kI p) (dI v)).atKey (kI p) (dI 0)=dI c):c=v:=by
  rw[atKey_put_same h (isK _)]at hc
  exact(dI_inj hc).symm
theorem grow_one{w w':World}{mb:Nat}(h:w.grownBy w' (some mb)):GrowX (fun k=>k=mb) w w':=
  ⟨h.os,h.tape,h.output,h.size,fun k hk hx=>h.block k hk (fun e=>hx (by injection e))⟩
theorem own_map{X:Nat→Prop}{w w':World}{mb n:Nat}{D:DataW Unit}{R:Value→Option (DataW Unit×List MemPlace)}(h:w.ownsMap Tryz.prog 3 R mb n D)(hg:GrowX X w w')(hX:¬X mb):w'.ownsMap Tryz.prog 3 R mb n D:=by
  have hlt:=h.lt
  obtain⟨es,clock,hb,F,hs,hD⟩:=h
  exact⟨es,clock,(hg.block mb hlt hX).trans hb,F,hs,hD⟩
theorem sto_one{W0 w0 w w1:World}{A:Adr}{c:Cf}{σ:St}{S S0:Nat→Prop}{k b mb:Nat}{W:Nat→List UInt8}(h:Sto W0 A c k b σ W S w)(hf:Foot S0 S w0 w)(hg:GrowX (fun q=>q=mb) w w1)(hm:¬S mb)(hm2:w0.heap.size≤mb)(hW:W0.heap.size≤w0.heap.size):
    Sto W0 A c k b σ W S w1∧Foot S0 S w0 w1:=
  ⟨h.grow hg (fun q h1 h2=>by subst h2;exact hm h1) (h.bel.trans (hg.below (fun q hq=>⟨by have:=h.bel.size;omega,fun e=>by omega⟩))),hf.fin hg (fun q e=>.inr (by omega)) (fun q hq=>.inl hq)⟩
def okT(T:List Bool)(l:List Int):Prop:=(∀p∈l,1≤p∧p<(T.length:Int)∧T.getD p.toNat false=true)∧l.Nodup
theorem okT_nil(T:List Bool):okT T []:=⟨fun p h=>(by cases h),List.nodup_nil⟩
theorem okT_snoc{T:List Bool}{l:List Int}{p:Int}(h:okT T l)(h1:1≤p)(h2:p<(T.length:Int))(h3:T.getD p.toNat false=true)(h4:p∉l):okT T (l++[p]):=by
  refine⟨fun q hq=>?_,?_⟩
  · rcases List.mem_append.1 hq with h5|h5
    · exact h.1 q h5
    · obtain rfl:=List.mem_singleton.1 h5;exact⟨h1,h2,h3⟩
  · rw[List.nodup_append]
    exact⟨h.2,by simp,fun a ha b hb e=>by subst e;obtain rfl:=List.mem_singleton.1 hb;exact h4 ha⟩
theorem nodup_twice{l:List Int}{q:Nat}{p:Int}(hq:l[q]? = some p)(hm:p∈l.take q):¬l.Nodup:=by
  intro hn
  obtain⟨j,hj⟩:=List.mem_iff_getElem?.1 hm
  rw[List.getElem?_take]at hj
  split at hj
  · next hjq=>
    obtain⟨a1,a2⟩:=List.getElem?_eq_some_iff.1 hj
    obtain⟨b1,b2⟩:=List.getElem?_eq_some_iff.1 hq
    have:=(List.nodup_iff_pairwise_ne.1 hn)
    rw[List.pairwise_iff_getElem]at this
    exact this j q a1 b1 hjq (a2.trans b2.symm)
  · cases hj
def clrL(l:List UInt8)(ps:List Int):List UInt8:=ps.foldl (fun l p=>overB l p.toNat [0]) l
def clrT(T:List Bool)(ps:List Int):List Bool:=ps.foldl (fun T p=>T.set p.toNat false) T
theorem clrT_length(ps:List Int):∀T,(clrT T ps).length=T.length:=by
  induction ps with
  | nil=>intro T;rfl
  | cons p r ih=>intro T;show(clrT (T.set p.toNat false) r).length=_;rw[ih,List.length_set]
theorem clr_rel(ps:List Int):∀(T:List Bool)(l:List UInt8),RelT T l→RelT (clrT T ps) (clrL l ps):=by
  induction ps with
  | nil=>intro T l h;exact h
  | cons p r ih=>intro T l h;exact ih _ _ (h.set p.toNat false)
theorem clrL_snoc(l:List UInt8)(ps:List Int)(p:Int):clrL l (ps++[p])=overB (clrL l ps) p.toNat [0]:=by unfold clrL;rw[List.foldl_append];rfl
theorem overB_one(l:List UInt8)(q:Nat)(a:UInt8)(h:q<l.length):overB l q [a]=l.set q a:=by
  apply List.ext_getElem?
  intro j
  rw[overB_get _ _ _ (by show q+1≤l.length;omega),List.getElem?_set]
  by_cases e:q=j
  · subst e
    rw[if_neg (by omega),if_pos (by simp),if_pos rfl,if_pos h,Nat.sub_self];rfl
  · rw[if_neg e]
    split
    · rfl
    · rw[if_neg (by simp;omega)]
theorem take_snoc{α:Type}{l:List α}{q:Nat}{p:α}(h:l[q]? = some p):l.take (q+1)=l.take q++[p]:=by rw[List.take_add_one,h];rfl
section
variable{W0 w w' w2:World}{A:Adr}{c:Cf}{σ:St}{S X:Nat→Prop}{k b:Nat}{W:Nat→List UInt8}
set_option maxRecDepth 100000 in
set_option maxHeartbeats 12800000 in
theorem giveall_st (h:Sto W0 A c k b σ W S w) {t:Nat} (hs:Solo σ t) {T:List Bool} (hT:RelT T (W 0)) (hpg:c.pg=T.length) (hp1:1≤c.pg) (l:List Int) (v:Value) (n:Nat) (hn:l.length=n) (hn2:n≤100000) (hk:k≤600000) (hr:Reads 1 W0 v n (l.map vI)) (hwf:∀p∈l,-9223372036854775808≤p∧p≤9223372036854775807) (hb:b+1704+2048≤(c.n-1)*118):
    Calls Tryz.prog 49 #[.pointer (some ⟨A.sb,0,none⟩),.int .i64 (t:Nat),v] w fun e w'=>∃σ' S',Foot S S' w w'∧Solo σ' t∧((okT T l∧e=.returned (.int .i64 0)∧Sto W0 A c (k+n+8) (b+1704) σ' (updV W 0 (clrL (W 0) l)) S' w')∨
      (¬okT T l∧e=.returned (.int .i64 1)∧Sto W0 A c (k+n+8) (b+1704) σ' W S' w')):=by
  obtain⟨x,hso,rfl⟩:=hs
  have hp2:=hT.le
  have HPG:=Lib.hid (pages_st h)
  have HM:=Lib.hid (maps_one w c.pg hp1 (by omega))
  have HTN:=Lib.hid (fun(σ1:St) (S1:Nat→Prop) (w1:World) (q:Nat) (hq:q≤n) (h1:Sto W0 A c (k+q) b σ1 W S1 w1) (p:Int) (hp:p∈l) (hi:p<0∨(T.length:Int)≤p)=>(by
    have h2:=taken_st h1 (by omega) hp1 (by omega) p (hwf p hp).1 (hwf p hp).2
    rw[hpg,hT.takenI,if_pos hi]at h2
    exact h2))
  have HTY:=Lib.hid (fun(σ1:St) (S1:Nat→Prop) (w1:World) (q:Nat) (hq:q≤n) (h1:Sto W0 A c (k+q) b σ1 W S1 w1) (p:Int) (hp:p∈l) (hi:¬(p<0∨(T.length:Int)≤p))=>(by
    have h2:=taken_st h1 (by omega) hp1 (by omega) p (hwf p hp).1 (hwf p hp).2
    rw[hpg,hT.takenI,if_neg hi]at h2
    exact h2))
  have HRD:=Lib.hid (fun(σ1:St) (S1:Nat→Prop) (w1:World) (h1:Sto W0 A c (k+n) b σ1 W S1 w1)=>(by
    have h2:=read_st h1 0 0 504 (by omega) (by omega) (by omega)
    rw[List.drop_zero,List.take_of_length_le (Nat.le_of_eq hT.len)]at h2
    exact h2))
  have HCH:=Lib.hid (fun(σ1:St) (S1:Nat→Prop) (w1:World) (h1:Sto W0 A c (k+n+1) b σ1 W S1 w1) (hl:Like σ σ1) (bs:List UInt8) (hbl:bs.length=504) (g cap:Nat) (hbx:Box w1 g (bs.map B)) (hcap:504≤cap) (hg:¬S1 g)=>change_st h1 (by omega) (i:=0) (x:=x) (by rw[hl.opn,hso];rfl) 0 (by omega) bs hbl g 0 cap
    ⟨_,_,rfl,by rw[List.length_map,hbl],hcap,fun _=>⟨g,0,rfl,hbx.lt,fun j u hu=>by rw[Nat.zero_add];exact hbx.cell j u hu⟩⟩ hg hbx.lt (fun f t _ _=>busy_solo (hl.opn.trans hso) 0 f (t-f)) hb)
  have HSOL:=Lib.hid (fun(σ':St) (hl:Like σ σ')=>Solo.like (σ:=σ) (t:=x.id) ⟨x,hso,rfl⟩ hl)
  have HSOW:=Lib.hid (fun(σ1 σ':St) (hl:Like σ σ1) (f:Nat) (ds:List UInt8) (hw:Wrote σ1 σ' 0 x W 0 f ds)=>hw.solo (hl.opn.trans hso))
  have HLE:=Lib.hid (fun(σ1:St) (S1:Nat→Prop) (w1:World) (k1:Nat) (W1:Nat→List UInt8) (b1:Nat) (hk1:k1≤k+n+8) (hb1:b1≤b+1704) (h1:Sto W0 A c k1 b1 σ1 W1 S1 w1)=>h1.le hk1 hb1 hb)
  have HCL:=Lib.hid (fun q=>clr_rel (l.take q) T (W 0) hT)
  have HST0:=Lib.hid h
  have HTLE:Hid (T.length≤504):=Lib.hid hT.le
  have HN:=Lib.hid hn
  obtain⟨pg,hpge⟩:∃x,c.pg=x:=⟨_,rfl⟩
  rw[hpge]at HPG HM hp1 hpg
  obtain⟨t,htt⟩:∃t:Nat,x.id=t:=⟨_,rfl⟩
  rw[htt]at HCH HSOL HSOW⊢
  have hmm:=@run_makeMap Tryz.prog
  obtain⟨mb,hmb⟩:∃m,w.heap.size=m:=⟨_,rfl⟩
  have HMB:=Lib.hid hmb
  have hbel0:=h.bel.size
  obtain⟨av,ncv,rfl⟩:=hr.shape
  have HRL:=Lib.hid hr
  have hown0:=World.ownsMap_made (H:=Unit) w Tryz.prog 3 (plainElem Tryz.prog 3)
  rw[hmb]at hown0
  have HOWN0:=Lib.hid hown0
  have hal:=(Below.refl w.heap.size w).alloc (Nat.le_refl _) (.map #[] 0)
  have HS0:=Lib.hid (h.below hal)
  have HF0:Hid (Foot S S w (w.alloc (.map #[] 0))):=Lib.hid (Foot.below (grow_below hal))
  have HNM0:Hid (¬S mb):=Lib.hid (fun hs=>by have:=(h.lt mb hs).2;omega)
  have HWF:=Lib.hid (fun p (hp:p∈l)=>WalkArith.wf_i64 (hwf p hp))
  clear h hso hT hr hwf hn hb hpge htt hmb hown0 hal hpg
  go_enter Tryz.func49,Tryz.ntmps49
  go_wp2_with fail
  refine HPG.out.mono ?_
  rintro e y ⟨rfl,hy⟩
  obtain rfl:w=y:=hy.symm
  go_wp2_with fail
  refine HM.out.mono ?_
  rintro e y2 ⟨rfl,hy⟩
  obtain rfl:w=y2:=hy.symm
  go_wp2_with fail
  rw[HMB.out]
  go_loopw [10,11,12,25] (fun z10 z11 z12 z25 wr=>∃q:Nat,q≤n∧z25=.int .i64 (q:Nat)∧okT T (l.take q)∧∃σ' S' D,Sto W0 A c (k+q) b σ' W S' wr∧wr.ownsMap Tryz.prog 3 (plainElem Tryz.prog 3) mb q D∧Seen D (l.take q)∧¬S' mb∧Foot S S' w wr∧Like σ σ') (fun _ _ _ z25 _=>n-(intOf z25).toNat)
  case atStart=>exact⟨0,Nat.zero_le _,rfl,okT_nil T,σ,S,_,HS0.out,HOWN0.out,seen_nil,HNM0.out,HF0.out,Like.refl _⟩
  case round=>
    obtain⟨q,hq,rfl,hok,σ',S',D,hst,hown,hse,hnm,hft,hlk⟩:=hrel
    have HOK:=Lib.hid hok
    have HST:=Lib.hid hst
    have HOWN:=Lib.hid hown
    have HSE:=Lib.hid hse
    have HNM:=Lib.hid hnm
    have HFT:=Lib.hid hft
    have HLK:=Lib.hid hlk
    clear hok hst hown hse hnm hft hlk
    by_cases hqn:q<n
    · obtain⟨p,hp⟩:∃p,l[q]? = some p:=⟨_,List.getElem?_eq_getElem (by rw[HN.out];exact hqn)⟩
      have HLQ:=Lib.hid hp
      have HPM:Hid (p∈l):=Lib.hid (List.mem_of_getElem? hp)
      have HTS:=Lib.hid (take_snoc hp)
      obtain⟨b2,o2,c2,e,hb2,hc2,hcell⟩:=(HRL.out.below HST.out.bel (Nat.le_refl _)).at q hqn (.int .i64 p) (by rw[List.getElem?_map,hp];rfl)
      injection e with e1 e2 e3
      subst e1 e3
      clear hp e2
      by_cases hin:p<0∨(T.length:Int)≤p
      · have HT2:=Lib.hid (HTN.out _ _ _ q hq HST.out p HPM.out hin)
        have HNOK:Hid (¬okT T l):=Lib.hid (fun h=>by have:=h.1 p HPM.out;omega)
        clear hin
        go_wp2_with fail
        refine HT2.out.mono ?_
        rintro e y3 ⟨σ2,S2,rfl,h1,h2,h3⟩
        have HST2:=Lib.hid h1
        have HF2:=Lib.hid (HFT.out.trans h2)
        have HLK2:=Lib.hid (HLK.out.trans h3)
        clear h1 h2 h3 HT2
        go_wp2_with fail
        go_ret
        exact⟨σ2,S2,HF2.out,HSOL.out _ HLK2.out,.inr ⟨HNOK.out,rfl,HLE.out _ _ _ _ _ _ (by omega) (by omega) HST2.out⟩⟩
      · have HT2:=Lib.hid (HTY.out _ _ _ q hq HST.out p HPM.out hin)
        have HIN:=Lib.hid hin
        have HKEY:Hid (keyOf Tryz.prog 3 (.int .i64 p)=some (.int .i64 p)):=Lib.hid (keyOf_int_mk Tryz.underlying3 (HWF.out p HPM.out))
        clear hin
        by_cases hmem:p∈l.take q
        · have HM0:=Lib.hid hmem
          have HC:Hid (∀c0,D.atKey (.int .i64 p) (.lit (.int .i64 0))=.lit (.int .i64 c0)→c0=1):=Lib.hid (fun c0 h=>by have h2:=HSE.out.2 p;rw[if_pos hmem]at h2;exact dI_inj (h.symm.trans h2))
          clear hmem
          cases his:T.getD p.toNat false with
          | false=>
            rw[his]at HT2
            have HNOK:Hid (¬okT T l):=Lib.hid (fun h=>by have:=(h.1 p HPM.out).2.2;rw[his]at this;cases this)
            clear his
            go_wp2_with fail
            refine HT2.out.mono ?_
            rintro e y3 ⟨σ2,S2,rfl,h1,h2,h3⟩
            have HST2:=Lib.hid h1
            have HF2:=Lib.hid (HFT.out.trans h2)
            have HLK2:=Lib.hid (HLK.out.trans h3)
            have HNM2:Hid (¬S2 mb):=Lib.hid (fun hs=>by rcases h2.new mb hs with h4|h4;exact HNM.out h4;have:=HOWN.out.lt;omega)
            have HOWN2:=Lib.hid (own_map HOWN.out h2.grow HNM.out)
            clear h1 h2 h3 HT2
            go_wp2_with (first
              | (at_lookup;refine wpList_lookup_own_int _ rfl _ _ 143 rfl 3 3 .i64 lawI Tryz.underlying143 Tryz.underlying3 (zeroI _) mb q D rfl HOWN2.out _ _ rfl HKEY.out ?_;intro c0 hat hwc;obtain rfl:=HC.out c0 hat;clear hat hwc)
              | (at_mapUpdate;refine wpList_mapUpdate_own _ rfl _ _ _ 143 rfl 3 3 lawI Tryz.underlying143 _ mb q D rfl HOWN2.out (by unfold maxLen;omega) _ _ _ rfl rfl HKEY.out _ [] (plainElem_int Tryz.underlying3 (by decide)) ?_;intro w1 hown1 hgrow1;have HO1:=Lib.hid hown1;have HG1:=Lib.hid (grow_one hgrow1);clear hown1 hgrow1)
              | fail)
            go_ret
            obtain⟨z1,z2⟩:=sto_one HST2.out HF2.out HG1.out HNM2.out (Nat.le_of_eq HMB.out) hbel0
            exact⟨σ2,S2,z2,HSOL.out _ HLK2.out,.inr ⟨HNOK.out,rfl,HLE.out _ _ _ _ _ _ (by omega) (by omega) z1⟩⟩
          | true=>
            rw[his]at HT2
            have HIS:=Lib.hid his
            clear his
            by_cases hp1:p<1
            · have hpb:decide (p<1)=true:=by simpa using hp1
              have HNOK:Hid (¬okT T l):=Lib.hid (fun h=>by have:=(h.1 p HPM.out).1;omega)
              clear hp1
              go_wp2_with fail
              refine HT2.out.mono ?_
              rintro e y3 ⟨σ2,S2,rfl,h1,h2,h3⟩
              have HST2:=Lib.hid h1
              have HF2:=Lib.hid (HFT.out.trans h2)
              have HLK2:=Lib.hid (HLK.out.trans h3)
              have HNM2:Hid (¬S2 mb):=Lib.hid (fun hs=>by rcases h2.new mb hs with h4|h4;exact HNM.out h4;have:=HOWN.out.lt;omega)
              have HOWN2:=Lib.hid (own_map HOWN.out h2.grow HNM.out)
              clear h1 h2 h3 HT2
              go_wp2_with (first
                | (at_lookup;refine wpList_lookup_own_int _ rfl _ _ 143 rfl 3 3 .i64 lawI Tryz.underlying143 Tryz.underlying3 (zeroI _) mb q D rfl HOWN2.out _ _ rfl HKEY.out ?_;intro c0 hat hwc;obtain rfl:=HC.out c0 hat;clear hat hwc)
                | (at_mapUpdate;refine wpList_mapUpdate_own _ rfl _ _ _ 143 rfl 3 3 lawI Tryz.underlying143 _ mb q D rfl HOWN2.out (by unfold maxLen;omega) _ _ _ rfl rfl HKEY.out _ [] (plainElem_int Tryz.underlying3 (by decide)) ?_;intro w1 hown1 hgrow1;have HO1:=Lib.hid hown1;have HG1:=Lib.hid (grow_one hgrow1);clear hown1 hgrow1)
                | fail)
              go_ret
              obtain⟨z1,z2⟩:=sto_one HST2.out HF2.out HG1.out HNM2.out (Nat.le_of_eq HMB.out) hbel0
              exact⟨σ2,S2,z2,HSOL.out _ HLK2.out,.inr ⟨HNOK.out,rfl,HLE.out _ _ _ _ _ _ (by omega) (by omega) z1⟩⟩
            · have hpb:decide (p<1)=false:=by simpa using hp1
              have HP1:Hid (1≤p):=Lib.hid (by omega)
              have HNOK:Hid (¬okT T l):=Lib.hid (fun h=>nodup_twice HLQ.out HM0.out h.2)
              clear hp1
              go_wp2_with fail
              refine HT2.out.mono ?_
              rintro e y3 ⟨σ2,S2,rfl,h1,h2,h3⟩
              have HST2:=Lib.hid h1
              have HF2:=Lib.hid (HFT.out.trans h2)
              have HLK2:=Lib.hid (HLK.out.trans h3)
              have HNM2:Hid (¬S2 mb):=Lib.hid (fun hs=>by rcases h2.new mb hs with h4|h4;exact HNM.out h4;have:=HOWN.out.lt;omega)
              have HOWN2:=Lib.hid (own_map HOWN.out h2.grow HNM.out)
              clear h1 h2 h3 HT2
              go_wp2_with (first
                | (at_lookup;refine wpList_lookup_own_int _ rfl _ _ 143 rfl 3 3 .i64 lawI Tryz.underlying143 Tryz.underlying3 (zeroI _) mb q D rfl HOWN2.out _ _ rfl HKEY.out ?_;intro c0 hat hwc;obtain rfl:=HC.out c0 hat;clear hat hwc)
                | (at_mapUpdate;refine wpList_mapUpdate_own _ rfl _ _ _ 143 rfl 3 3 lawI Tryz.underlying143 _ mb q D rfl HOWN2.out (by unfold maxLen;omega) _ _ _ rfl rfl HKEY.out _ [] (plainElem_int Tryz.underlying3 (by decide)) ?_;intro w1 hown1 hgrow1;obtain⟨c1,hr1,hat1,_⟩:=hown1.lookup_int lawI Tryz.underlying143 Tryz.underlying3 (zeroI _) HKEY.out;obtain rfl:=put_one HSE.out.1 hat1;clear hat1;have HO1:=Lib.hid hown1;have HG1:=Lib.hid (grow_one hgrow1);clear hown1 hgrow1)
                | fail)
              go_ret
              obtain⟨z1,z2⟩:=sto_one HST2.out HF2.out HG1.out HNM2.out (Nat.le_of_eq HMB.out) hbel0
              exact⟨σ2,S2,z2,HSOL.out _ HLK2.out,.inr ⟨HNOK.out,rfl,HLE.out _ _ _ _ _ _ (by omega) (by omega) z1⟩⟩
        · have HM0:=Lib.hid hmem
          have HC:Hid (∀c0,D.atKey (.int .i64 p) (.lit (.int .i64 0))=.lit (.int .i64 c0)→c0=0):=Lib.hid (fun c0 h=>by have h2:=HSE.out.2 p;rw[if_neg hmem]at h2;exact dI_inj (h.symm.trans h2))
          clear hmem
          cases his:T.getD p.toNat false with
          | false=>
            rw[his]at HT2
            have HNOK:Hid (¬okT T l):=Lib.hid (fun h=>by have:=(h.1 p HPM.out).2.2;rw[his]at this;cases this)
            clear his
            go_wp2_with fail
            refine HT2.out.mono ?_
            rintro e y3 ⟨σ2,S2,rfl,h1,h2,h3⟩
            have HST2:=Lib.hid h1
            have HF2:=Lib.hid (HFT.out.trans h2)
            have HLK2:=Lib.hid (HLK.out.trans h3)
            have HNM2:Hid (¬S2 mb):=Lib.hid (fun hs=>by rcases h2.new mb hs with h4|h4;exact HNM.out h4;have:=HOWN.out.lt;omega)
            have HOWN2:=Lib.hid (own_map HOWN.out h2.grow HNM.out)
            clear h1 h2 h3 HT2
            go_wp2_with (first
              | (at_lookup;refine wpList_lookup_own_int _ rfl _ _ 143 rfl 3 3 .i64 lawI Tryz.underlying143 Tryz.underlying3 (zeroI _) mb q D rfl HOWN2.out _ _ rfl HKEY.out ?_;intro c0 hat hwc;obtain rfl:=HC.out c0 hat;clear hat hwc)
              | (at_mapUpdate;refine wpList_mapUpdate_own _ rfl _ _ _ 143 rfl 3 3 lawI Tryz.underlying143 _ mb q D rfl HOWN2.out (by unfold maxLen;omega) _ _ _ rfl rfl HKEY.out _ [] (plainElem_int Tryz.underlying3 (by decide)) ?_;intro w1 hown1 hgrow1;have HO1:=Lib.hid hown1;have HG1:=Lib.hid (grow_one hgrow1);clear hown1 hgrow1)
              | fail)
            go_ret
            obtain⟨z1,z2⟩:=sto_one HST2.out HF2.out HG1.out HNM2.out (Nat.le_of_eq HMB.out) hbel0
            exact⟨σ2,S2,z2,HSOL.out _ HLK2.out,.inr ⟨HNOK.out,rfl,HLE.out _ _ _ _ _ _ (by omega) (by omega) z1⟩⟩
          | true=>
            rw[his]at HT2
            have HIS:=Lib.hid his
            clear his
            by_cases hp1:p<1
            · have hpb:decide (p<1)=true:=by simpa using hp1
              have HNOK:Hid (¬okT T l):=Lib.hid (fun h=>by have:=(h.1 p HPM.out).1;omega)
              clear hp1
              go_wp2_with fail
              refine HT2.out.mono ?_
              rintro e y3 ⟨σ2,S2,rfl,h1,h2,h3⟩
              have HST2:=Lib.hid h1
              have HF2:=Lib.hid (HFT.out.trans h2)
              have HLK2:=Lib.hid (HLK.out.trans h3)
              have HNM2:Hid (¬S2 mb):=Lib.hid (fun hs=>by rcases h2.new mb hs with h4|h4;exact HNM.out h4;have:=HOWN.out.lt;omega)
              have HOWN2:=Lib.hid (own_map HOWN.out h2.grow HNM.out)
              clear h1 h2 h3 HT2
              go_wp2_with (first
                | (at_lookup;refine wpList_lookup_own_int _ rfl _ _ 143 rfl 3 3 .i64 lawI Tryz.underlying143 Tryz.underlying3 (zeroI _) mb q D rfl HOWN2.out _ _ rfl HKEY.out ?_;intro c0 hat hwc;obtain rfl:=HC.out c0 hat;clear hat hwc)
                | (at_mapUpdate;refine wpList_mapUpdate_own _ rfl _ _ _ 143 rfl 3 3 lawI Tryz.underlying143 _ mb q D rfl HOWN2.out (by unfold maxLen;omega) _ _ _ rfl rfl HKEY.out _ [] (plainElem_int Tryz.underlying3 (by decide)) ?_;intro w1 hown1 hgrow1;have HO1:=Lib.hid hown1;have HG1:=Lib.hid (grow_one hgrow1);clear hown1 hgrow1)
                | fail)
              go_ret
              obtain⟨z1,z2⟩:=sto_one HST2.out HF2.out HG1.out HNM2.out (Nat.le_of_eq HMB.out) hbel0
              exact⟨σ2,S2,z2,HSOL.out _ HLK2.out,.inr ⟨HNOK.out,rfl,HLE.out _ _ _ _ _ _ (by omega) (by omega) z1⟩⟩
            · have hpb:decide (p<1)=false:=by simpa using hp1
              have HP1:Hid (1≤p):=Lib.hid (by omega)
              clear hp1
              go_wp2_with fail
              refine HT2.out.mono ?_
              rintro e y3 ⟨σ2,S2,rfl,h1,h2,h3⟩
              have HST2:=Lib.hid h1
              have HF2:=Lib.hid (HFT.out.trans h2)
              have HLK2:=Lib.hid (HLK.out.trans h3)
              have HNM2:Hid (¬S2 mb):=Lib.hid (fun hs=>by rcases h2.new mb hs with h4|h4;exact HNM.out h4;have:=HOWN.out.lt;omega)
              have HOWN2:=Lib.hid (own_map HOWN.out h2.grow HNM.out)
              clear h1 h2 h3 HT2
              go_wp2_with (first
                | (at_lookup;refine wpList_lookup_own_int _ rfl _ _ 143 rfl 3 3 .i64 lawI Tryz.underlying143 Tryz.underlying3 (zeroI _) mb q D rfl HOWN2.out _ _ rfl HKEY.out ?_;intro c0 hat hwc;obtain rfl:=HC.out c0 hat;clear hat hwc)
                | (at_mapUpdate;refine wpList_mapUpdate_own _ rfl _ _ _ 143 rfl 3 3 lawI Tryz.underlying143 _ mb q D rfl HOWN2.out (by unfold maxLen;omega) _ _ _ rfl rfl HKEY.out _ [] (plainElem_int Tryz.underlying3 (by decide)) ?_;intro w1 hown1 hgrow1;obtain⟨c1,hr1,hat1,_⟩:=hown1.lookup_int lawI Tryz.underlying143 Tryz.underlying3 (zeroI _) HKEY.out;obtain rfl:=put_one HSE.out.1 hat1;clear hat1;have HO1:=Lib.hid hown1;have HG1:=Lib.hid (grow_one hgrow1);clear hown1 hgrow1)
                | fail)
              obtain⟨z1,z2⟩:=sto_one HST2.out HF2.out HG1.out HNM2.out (Nat.le_of_eq HMB.out) hbel0
              go_roundw
              · exact⟨q+1,by omega,by go_num,by rw[HTS.out];exact okT_snoc HOK.out HP1.out (by have:=HIN.out;omega) HIS.out HM0.out,σ2,S2,_,z1,HO1.out,by rw[HTS.out];exact HSE.out.put p,HNM2.out,z2,HLK2.out⟩
              · simp[intOf];omega
    · obtain rfl:q=n:=by omega
      have HOKL:Hid (okT T l):=Lib.hid (by have h:=HOK.out;rw[List.take_of_length_le (Nat.le_of_eq HN.out)]at h;exact h)
      go_wp2_with fail
      go_loopw [13,14,15,17,18,57] (fun z13 z14 z15 z17 z18 z57 wq=>(z57=.int .i64 0∧wr=wq)∨(z57=.int .i64 1∧∃σ' S',Sto W0 A c (k+q+8) (b+1704) σ' (updV W 0 (clrL (W 0) l)) S' wq∧Foot S S' w wq∧Solo σ' t)) (fun _ _ _ _ _ z57 _=>1-(intOf z57).toNat)
      case atStart=>exact .inl ⟨rfl,rfl⟩
      case round=>
        rcases hrel with ⟨rfl,hwq⟩|⟨rfl,σ4,S4,h1,h2,h3⟩
        · subst hwq
          have HR2:=Lib.hid (HRD.out _ _ _ HST.out)
          go_wp2_with fail
          refine HR2.out.mono ?_
          rintro e y3 ⟨v,σ3,S3,rfl,hrow,hlen,hns,hst,hft,hlk⟩
          obtain⟨g,cap,rfl,hgb,hcap⟩:=own_slice hrow (by decide)
          have HBX0:Hid (Box y3 g ((clrL (W 0) (l.take 0)).map B)):=Lib.hid ⟨(hrow.lt g rfl).2,fun j u hu=>own_at hrow j u hu,fun o=>own_free hrow rfl o⟩
          have HST3:=Lib.hid hst
          have HF3:=Lib.hid (HFT.out.trans hft)
          have HLK3:=Lib.hid (HLK.out.trans hlk)
          have HNS:Hid (¬S3 g):=Lib.hid (hns g rfl)
          have HGB:Hid (w.heap.size≤g):=Lib.hid (Nat.le_trans HFT.out.grow.size hgb)
          clear hrow hlen hns hst hft hlk hgb HR2
          go_wp2_with fail
          go_loopw [17,71] (fun z17 z71 wq=>∃j:Nat,j≤q∧z71=.int .i64 (j:Nat)∧Box wq g ((clrL (W 0) (l.take j)).map B)∧Sto W0 A c (k+q+1) b σ3 W S3 wq∧Foot S S3 w wq) (fun _ z71 _=>q-(intOf z71).toNat)
          case atStart=>exact⟨0,Nat.zero_le _,rfl,HBX0.out,HST3.out,HF3.out⟩
          case round=>
            obtain⟨j,hj,rfl,hbx,hst,hft⟩:=hrel
            have HBX:=Lib.hid hbx
            have HSTJ:=Lib.hid hst
            have HFJ:=Lib.hid hft
            clear hbx hst hft
            by_cases hjn:j<q
            · obtain⟨p,hp⟩:∃p,l[j]? = some p:=⟨_,List.getElem?_eq_getElem (by rw[HN.out];exact hjn)⟩
              have HTS:=Lib.hid (take_snoc hp)
              have hpo:=HOKL.out.1 p (List.mem_of_getElem? hp)
              have hp504:=HTLE.out
              obtain⟨b2,o2,c2,e,hb2,hc2,hcell⟩:=(HRL.out.below HSTJ.out.bel (Nat.le_refl _)).at j hjn (.int .i64 p) (by rw[List.getElem?_map,hp];rfl)
              injection e with e1 e2 e3
              subst e1 e3
              obtain⟨pn,rfl⟩:∃q:Nat,p=(q:Int):=⟨p.toNat,by omega⟩
              have hpn:pn<504:=by omega
              clear hp e2 hpo hp504
              have hdv:(pn:Int) / 504=0:=by omega
              have hmd:(pn:Int) % 504=(pn:Int):=by omega
              have hdv2:Int.tdiv (pn:Int) 504=0:=by rw[Int.tdiv_eq_ediv_of_nonneg (by omega)];exact hdv
              have hmd2:Int.tmod (pn:Int) 504=(pn:Int):=by rw[Int.tmod_eq_emod_of_nonneg (by omega)];exact hmd
              have hlg:=HBX.out.lt
              have hfr:=HBX.out.free
              have hcl:(clrL (W 0) (l.take j)).length=504:=(HCL.out j).len
              obtain⟨u0,hu0⟩:∃u,(clrL (W 0) (l.take j))[pn]? = some u:=⟨_,List.getElem?_eq_getElem (by rw[hcl];exact hpn)⟩
              have hcg:World.cell? _ ⟨g,pn,none⟩=some (B u0):=HBX.out.cell pn (B u0) (by rw[List.getElem?_map,hu0];rfl)
              have hbx2:=(HBX.out.set1 pn (B 0)).1
              rw[show((clrL (W 0) (l.take j)).map B).set pn (B 0)=(clrL (W 0) (l.take (j+1))).map B by rw[HTS.out,clrL_snoc,Int.toNat_natCast,overB_one _ _ _ (by rw[hcl];exact hpn),List.map_set]]at hbx2
              have HBX2:=Lib.hid hbx2
              have HS2:=Lib.hid (sto_one HSTJ.out HFJ.out (growX_setCell _ g pn (B 0)) HNS.out HGB.out hbel0)
              clear hbx2 hu0 hcl
              go_wp2_with fail
              go_roundw
              · exact⟨j+1,by omega,by go_num,HBX2.out,HS2.out.1,HS2.out.2⟩
              · simp[intOf];omega
            · obtain rfl:j=q:=by omega
              have hcj:clrL (W 0) (l.take j)=clrL (W 0) l:=by rw[List.take_of_length_le (Nat.le_of_eq HN.out)]
              have hlen:(clrL (W 0) l).length=504:=by rw[←hcj];exact(HCL.out j).len
              have hbx:=HBX.out
              rw[hcj]at hbx
              have HCC:=Lib.hid (HCH.out _ _ _ HSTJ.out HLK3.out _ hlen g cap hbx hcap HNS.out)
              clear hbx hlen hcj
              go_wp2_with fail
              refine HCC.out.mono ?_
              rintro e y4 ⟨σ4,S4,rfl,h1,h2,h3⟩
              have HH:Hid (Sto W0 A c (k+j+8) (b+1704) σ4 (updV W 0 (clrL (W 0) l)) S4 y4∧Foot S S4 w y4∧Solo σ4 t):=Lib.hid ⟨HLE.out _ _ _ _ _ _ (by omega) (by omega) h1,HFJ.out.trans h2,(by
                rcases h3 with h3|⟨f,ds,h3⟩
                · exact HSOL.out _ (HLK3.out.trans h3)
                · exact HSOW.out _ _ HLK3.out f ds h3)⟩
              clear h1 h2 h3 HCC
              go_wp2_with fail
              go_roundw
              · exact .inr ⟨by rfl,σ4,S4,HH.out.1,HH.out.2.1,HH.out.2.2⟩
              · simp[intOf]
        · have HH:=Lib.hid (And.intro h1 (And.intro h2 h3))
          clear h1 h2 h3
          go_wp2_with fail
          go_ret
          exact⟨σ4,S4,HH.out.2.1,HH.out.2.2,.inl ⟨HOKL.out,rfl,HH.out.1⟩⟩
end
end
section
open Go.RowKit
theorem cf1024a:Cf.of 1024=⟨256,258,190⟩:=by kernel_rfl
theorem b1024a{b:Nat}(h:b≤20000):b+2048≤((Cf.of 1024).n-1)*118:=by rw[cf1024a];show _≤(256-1)*118;omega
def tkT(m:Nat):List Bool:=(List.range 190).map fun j=>decide (j≤m)
theorem tkT_len(m:Nat):(tkT m).length=190:=by unfold tkT;rw[List.length_map,List.length_range]
theorem tkT_at{m j:Nat}(h:j<190):(tkT m)[j]? = some (decide (j≤m)):=by unfold tkT;rw[List.getElem?_map,List.getElem?_range h];rfl
theorem tkT_new:newT 190=tkT 0:=by decide +kernel
theorem tkT_set{m:Nat}(h:m+1<190):(tkT m).set (m+1) true=tkT (m+1):=by
 apply List.ext_getElem?
 intro j
 rw[List.getElem?_set]
 by_cases hj:j<190
 ·rw[tkT_at (m:=m+1) hj]
  split
  ·next e=>subst e;rw[if_pos (by rw[tkT_len];exact hj)];exact congrArg some (decide_eq_true (Nat.le_refl _)).symm
  ·next e=>rw[tkT_at hj];congr 1;rw[decide_eq_decide];omega
 ·rw[List.getElem?_eq_none (l:=tkT (m+1)) (by rw[tkT_len];omega),if_neg (by omega),List.getElem?_eq_none (by rw[tkT_len];omega)]
theorem tkT_getD{m:Nat}{p:Nat}(h:p<190):(tkT m).getD p false=decide (p≤m):=by rw[List.getD_eq_getElem?_getD,tkT_at h];rfl
theorem tkT_cnt:∀m,m<190→(tkT m).countP id=m+1
 | 0,_=>by decide +kernel
 | m+1,h=>by
  have h1:=countP_set (T:=tkT m) (q:=m+1) (by rw[tkT_len];exact h) true
  rw[tkT_set h,tkT_getD h,tkT_cnt m (by omega),decide_eq_false (by omega)]at h1
  simp only[Bool.false_eq_true,if_false,if_true]at h1
  omega
def okN(n:Nat)(l:List Int):Bool:=decide ((∀p∈l,1≤p∧p≤(n:Int))∧l.Nodup)
theorem okN_iff{n:Nat}{l:List Int}(h:n≤30):okT (tkT n) l↔okN n l=true:=by
 unfold okN okT
 rw[decide_eq_true_eq,tkT_len]
 refine⟨fun⟨h1,h2⟩=>⟨fun p hp=>?_,h2⟩,fun⟨h1,h2⟩=>⟨fun p hp=>?_,h2⟩⟩
 ·obtain⟨a,b,e⟩:=h1 p hp
  rw[tkT_getD (by omega),decide_eq_true_eq]at e
  omega
 ·obtain⟨a,b⟩:=h1 p hp
  refine⟨a,by omega,?_⟩
  rw[tkT_getD (by omega),decide_eq_true_eq]
  omega
def hasI(l:List Int)(p:Int):Bool:=decide (p∈l)
theorem hasI_snoc(l:List Int)(q p:Int):hasI (l++[q]) p=(hasI l p || decide (q=p)):=by
 unfold hasI
 rw[Bool.eq_iff_iff]
 simp only[List.mem_append,List.mem_singleton,decide_eq_true_eq,Bool.or_eq_true]
 exact⟨fun h=>h.imp id Eq.symm,fun h=>h.imp id Eq.symm⟩
theorem okN_snoc(n:Nat)(l:List Int)(p:Int):okN n (l++[p])=((okN n l&&decide (1≤p)&&decide (p≤(n:Int))) && !hasI l p):=by
 unfold okN hasI
 rw[Bool.eq_iff_iff]
 simp only[decide_eq_true_eq,Bool.and_eq_true,Bool.not_eq_true',decide_eq_false_iff_not,List.nodup_append]
 constructor
 ·rintro⟨h1,h2,_,h3⟩
  exact⟨⟨⟨⟨fun q hq=>h1 q (List.mem_append_left _ hq),h2⟩,(h1 p (by simp)).1⟩,(h1 p (by simp)).2⟩,fun hm=>h3 p hm p (by simp) rfl⟩
 ·rintro⟨⟨⟨⟨h1,h2⟩,h3⟩,h4⟩,h5⟩
  refine⟨fun q hq=>?_,h2,by simp,fun a ha b hb e=>?_⟩
  ·rcases List.mem_append.1 hq with h6|h6
   ·exact h1 q h6
   ·obtain rfl:=List.mem_singleton.1 h6;exact⟨h3,h4⟩
  ·obtain rfl:=List.mem_singleton.1 hb;subst e;exact h5 ha
theorem clr_getD(ps:List Int):∀(T:List Bool)(q:Nat),(clrT T ps).getD q false=(T.getD q false && !(ps.any fun p=>p.toNat==q)):=by
 induction ps with
 | nil=>intro T q;simp[clrT]
 | cons p r ih=>
  intro T q
  show(clrT (T.set p.toNat false) r).getD q false=_
  rw[ih,List.any_cons]
  by_cases e:p.toNat=q
  ·subst e
   have:(T.set p.toNat false).getD p.toNat false=false:=by
    rw[List.getD_eq_getElem?_getD,List.getElem?_set,if_pos rfl]
    split<;>rfl
   rw[this]
   simp
  ·have:(T.set p.toNat false).getD q false=T.getD q false:=by rw[List.getD_eq_getElem?_getD,List.getElem?_set,if_neg e,List.getD_eq_getElem?_getD]
   have e2:(p.toNat==q)=false:=by simpa using e
   rw[this,e2,Bool.false_or]
theorem clr_gone{T:List Bool}{ps:List Int}{p:Int}(h:p∈ps):(clrT T ps).getD p.toNat false=false:=by
 rw[clr_getD]
 have:(ps.any fun q=>q.toNat==p.toNat)=true:=List.any_eq_true.2 ⟨p,h,by simp⟩
 rw[this]
 simp
theorem clr_cnt:∀(ps:List Int)(T:List Bool),okT T ps→(clrT T ps).countP id+ps.length=T.countP id
 | [],T,_=>rfl
 | p::r,T,h=>by
  obtain⟨h1,h2⟩:=h
  rw[List.nodup_cons]at h2
  have hp:=h1 p (by simp)
  have h3:=countP_set (T:=T) (q:=p.toNat) (by omega) false
  rw[hp.2.2]at h3
  have h4:=clr_cnt r (T.set p.toNat false) ⟨fun q hq=>by
   have hq1:=h1 q (by simp[hq])
   have hne:¬p.toNat=q.toNat:=fun e=>h2.1 (by rw[show p=q by omega];exact hq)
   rw[List.length_set]
   refine⟨hq1.1,hq1.2.1,?_⟩
   rw[List.getD_eq_getElem?_getD,List.getElem?_set,if_neg hne,←List.getD_eq_getElem?_getD]
   exact hq1.2.2,h2.2⟩
  show(clrT (T.set p.toNat false) r).countP id+(r.length+1)=_
  simp at h3
  omega
section
variable{W0 w w':World}{A:Adr}{σ:St}{S:Nat→Prop}{k b:Nat}{W:Nat→List UInt8}
theorem giveall8{n:Nat}{T:List Bool}(h:At8 W0 A k b σ S T n w W)(hk:k≤600000)(hb:b+1704+2048≤((Cf.of n).n-1)*118)(l:List Int)(v:Value)(m:Nat)(hl:l.length=m)(hm:m≤100000)(hr:Reads 1 W0 v m (l.map fun p=>Value.int .i64 p))(hi:∀p∈l,-9223372036854775808≤p∧p≤9223372036854775807):
  Calls Tryz.prog 49 #[.pointer (some ⟨A.sb,0,none⟩),.int .i64 1,v] w fun e w'=>∃σ' S' W',Foot S S' w w'∧((okT T l∧e=.returned (.int .i64 0)∧At8 W0 A (k+m+8) (b+1704) σ' S' (clrT T l) n w' W')∨
   (¬okT T l∧e=.returned (.int .i64 1)∧At8 W0 A (k+m+8) (b+1704) σ' S' T n w' W')):=by
 refine(giveall_st h.st h.so h.rel h.pg h.p1 l v m hl hm hk hr hi hb).mono ?_
 rintro e w' ⟨σ',S',h1,h2,h5⟩
 rcases h5 with ⟨q1,rfl,q4⟩|⟨q1,rfl,q4⟩
 ·exact⟨σ',S',_,h1,.inl ⟨q1,rfl,⟨q4,h2,by rw[updV_at];exact clr_rel l _ _ h.rel,by rw[clrT_length];exact h.pg,h.p1⟩⟩⟩
 ·exact⟨σ',S',W,h1,.inr ⟨q1,rfl,⟨q4,h2,h.rel,h.pg,h.p1⟩⟩⟩
end
end
end Go.Proofs.YtpajagkhmodbnaaGreat

/- Pr: texts of the store seat laid together by program: ReDirty. Conditions: each theorem names its own. -/
import Derived.Test.YtpajagkhmodbnaaGreatPr11
namespace Go.Proofs.YtpajagkhmodbnaaGreat
set_option maxRecDepth 100000
set_option maxHeartbeats 3200000
open Lib(hid)
set_option linter.unusedSimpArgs false
set_option linter.unusedVariables false
section
open Go.RowKit
section
variable{W0:World}{g n f pg:Nat}{T:Type}{aag:T->(Nat->Prop)->World->Prop}{p:Pq}{s:T}{S:Nat->Prop}{w:World}{fn:Nat}{caps:Array Value}{O:qc T}{fv:Value}
theorem Mc(hF:nI W0 f pg fn caps aag O)(h:PV W0 g n f pg fv aag p s S w):
  Calls Tryz.prog 87 #[.pointer (some ⟨g,0,none⟩)] w fun e w'=>∃(c:List (Int×Int))(ao:Option Addr)(m:Nat),e=.returned (.slice ao m m)/\afi p.F c/\c.length=m/\m<=n/\Reads 2 w' (.slice ao m m) m (jM c)/\(∀q,(Value.slice ao m m).ownBlock=some q->w.heap.size<=q/\q<w'.heap.size)/\PV W0 g n f pg fv aag p s S w'/\Below w.heap.size w w':=by
 have hpv:=h;obtain⟨lb,E,K,S1,S2,i1,i2,i3,i4,i5,i6,i7,i8,i9,rfl⟩:=h;have hc1:=i1.box.cell 1 _ rfl;have htb:=i1.box.lt;have Di:=i6.n64;have X3:=hF.small;obtain⟨G,hG⟩:∃G,w.heap.size=G:=⟨_,rfl⟩
 have HG:=hid hG;have HPV:=hid hpv;have HF:=hid hF;have I1:=hid i1;have qX:Hid (E.length=n):=hid i1.len;have I5:=hid i5;have aqG:Hid (∀x∈iU (E.map (·.1)),0<=x.1/\x.1<=8192):=hid (by
  intro x hx;rw[i5]at hx;obtain⟨y,hy,rfl⟩:=List.mem_map.1 hx;obtain⟨hy1,hy2⟩:=List.mem_filter.1 hy;have h1:=(i6.fr y hy1).2 hy2;have h2:=((i6.fr y hy1).1 h1).1;exact⟨h1,by show y.page<=8192;omega⟩)
 clear i1 i2 i3 i4 i5 i6 i7 i8 i9 hpv hF hG;go_enter Tryz.func87,Tryz.ntmps87;go_wp2_with fail;clear hc1 htb;go_loopw [3,11] (fun s i wr=>∃(k m cb:Nat)(bo:Option Addr),k<=n/\i=.int .i64 k/\s=.slice bo m cb/\Hid ((iU ((E.take k).map (·.1))).length=m)/\m<=k/\
   wr.ownsRow G 123 2 (.slice bo m cb) m (jM (iU ((E.take k).map (·.1))))/\Below G w wr) (fun _ i _=>n-(intOf i).toNat)
 case atStart=>exact⟨0,0,0,none,Nat.zero_le _,rfl,rfl,hid rfl,Nat.le_refl _,World.ownsRow_nil _ _ _ _,Below.refl _ _⟩
 case round=>
  obtain⟨k,m,cb,bo,hk,rfl,rfl,HM,hmk,hown,hnx⟩:=hrel;have HO:=hid hown;have sH:=hid hnx;have hsz:G<=wr.heap.size:=by have:=hnx.size;have:=HG.out;omega
  have hmc:m<=cb:=by obtain⟨_,_,h,_,h2,_⟩:=Reads.aY hown;injection h with _ _ h3;omega
  clear hown hnx;by_cases hlt:k<n
  ·have hkl:k<E.length:=by rw[qX.out];exact hlt
   have hts:E.take (k+1)=E.take k++[E[k]]:=List.take_succ_eq_append_getElem hkl;have hat:=I1.out.grow (X:=fun _=>False) (aC (by rw[HG.out];exact sH.out)) (fun h=>h) (fun h=>h) (fun _ _ h=>h);have hcell:=hat.cell k E[k] (List.getElem?_eq_getElem hkl);have hll:=hat.ll.2;have qK:=hat.tC;have IQ:=hid hts;obtain⟨xR,nvb,xU,hvb⟩:∃a n c,E[k].2=.slice a n c:=by
    obtain⟨a,c,e,_⟩:=(hat.txt _ (List.getElem_mem hkl)).1;exact⟨a,_,c,e⟩
   generalize E[k]=x at *;obtain⟨⟨fP,bx,di,ma,rc,ls⟩,vb⟩:=x;have d0:=hcell 0 _ rfl;have d1:=hcell 1 _ rfl;have d2:=hcell 2 _ rfl;have d3:=hcell 3 _ rfl;have d4:=hcell 4 _ rfl;have d5:=hcell 5 _ rfl;rw[Nat.add_zero]at d0;simp only at d0 d1 d2 d3 d4 d5;simp only at hvb;subst hvb;clear hcell hkl hts hat;cases di with
   | true=>
    have HT:Hid (iU ((E.take (k+1)).map (·.1))=iU ((E.take k).map (·.1))++[(fP,rc)]):=hid (by rw[IQ.out];simp[iU]);clear IQ;go_wp2_with (at_builtin;refine dX adn (.tmp 17) (.tmp 23) rfl rfl (base:=G) rfl ((HO.out.alloc _).alloc _) rfl rfl (news:=[.int .i64 fP,.int .i64 rc]) (by intro j u hu;rw[Addr.add_lit,World.cell?_alloc_at _ _ _ _ (by simp)];simpa using hu) (by intro u hu;simp at hu;rcases hu with rfl|rfl<;>rfl) (by omega) (by omega) (by simp;omega) (by omega) ?_;intro g2 cap2 w2 hown2 fV hor2);have Ju:Below G w w2:=((sH.out.alloc hsz _).alloc (by simp;omega) _).trans ((aj.aK (Y:=fun b=>(Value.slice bo m cb).ownBlock=some b) fV (fun k o h=>h.1)).below (fun k hk=>⟨by simp;omega,fun e=>by have:=(HO.out.lt k e).1;omega⟩));have hown3:w2.ownsRow G 123 2 (.slice (some ⟨g2,0,none⟩) (m+1) cap2) (m+1) (jM (iU ((E.take (k+1)).map (·.1)))):=by rw[HT.out,MV];exact hown2
    have HR:=hid (And.intro hown3 Ju);clear hown2 fV hor2 hown3 Ju;go_roundw
    ·exact⟨k+1,m+1,cap2,some ⟨g2,0,none⟩,by omega,by go_num,rfl,hid (by rw[HT.out,List.length_append,HM.out];rfl),by omega,HR.out.1,HR.out.2⟩
    ·simp[intOf];omega
   | false=>
    have HT:Hid (iU ((E.take (k+1)).map (·.1))=iU ((E.take k).map (·.1))):=hid (by rw[IQ.out];simp[iU]);clear IQ;go_wp2_with fail;go_roundw
    ·exact⟨k+1,m,cb,bo,by omega,by go_num,rfl,hid (by rw[HT.out];exact HM.out),by omega,by rw[HT.out];exact HO.out.alloc _,sH.out.alloc hsz _⟩
    ·simp[intOf];omega
  ·obtain rfl:n=k:=by omega
   have hall:E.take n=E:=List.take_of_length_le (Nat.le_of_eq qX.out);rw[hall]at HM HO;obtain⟨O',hO'⟩:=Ir (iU (E.map (·.1))) aqG.out;have hown1:wr.ownsRow G 123 2 (.slice bo m cb) m (O'.flatMap Dn):=by rw[OU,hO'];exact HO.out
   have hlen:O'.length=m:=by rw[<-HM.out,<-hO',List.length_map]
   have hsort:=YV O' _ m G 123 hlen (by omega) w wr hown1 sH.out;have HS:=hid hsort;have HO':=hid hO';clear hall hown1 hsort hO';go_wp2_with fail;refine HS.out.mono ?_;rintro e w2 ⟨c2,rfl,hperm,hord,hown2,Ju⟩;have rP:=hid hown2;have HB2:=hid Ju;have HC2:=hid hord;have HP2:=hid hperm;clear hown2 Ju hord hperm;go_wp2_with (go_at_call 73;refine(KU bo m cb _ hmc).mono ?_;rintro e w4 ⟨rfl,rfl⟩);go_ret;have hlen2:c2.length=m:=by rw[HP2.out.length_eq];rw[<-HM.out,<-HO'.out,List.length_map]
   refine⟨c2.map (·.1),_,m,rfl,⟨?_,?_⟩,by rw[List.length_map];exact hlen2,hmk,?_,fun q e=>?_,HPV.out.below HF.out (by rw[HG.out];exact HB2.out),by rw[HG.out];exact HB2.out⟩
   ·rw[<-I5.out,<-HO'.out];exact HP2.out.map _
   ·rw[List.pairwise_map];exact HC2.out.imp (fun h=>by rw[Iq]at h;simpa using h)
   ·rw[<-OU];exact(Reads.aY rP.out).cut (Nat.le_refl _)
   ·have h1:=rP.out.lt q (by
     rcases bo with _|b
     ·cases e
     ·simpa[Value.ownBlock]using e)
    first|exact h1|(rw[HG.out];exact h1)
end
end
end Go.Proofs.YtpajagkhmodbnaaGreat

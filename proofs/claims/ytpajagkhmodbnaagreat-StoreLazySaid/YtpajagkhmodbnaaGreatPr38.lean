/- Pr: texts of the store seat laid together by program: ReOpen. Conditions: each theorem names its own. -/
import Derived.Test.YtpajagkhmodbnaaGreatPr21
import Derived.Test.YtpajagkhmodbnaaGreatPr37
import Derived.Test.YtpajagkhmodbnaaGreatPr35
namespace Go.Proofs.YtpajagkhmodbnaaGreat
set_option maxRecDepth 100000
set_option maxHeartbeats 6400000
open Lib(hid)
set_option linter.unusedSimpArgs false
set_option linter.unusedVariables false
section
open Go.RowKit
def ni(d sb m ma st ah ny_9 nx:Nat)(j b o:Nat):Prop:=(j=9/\b=sb/\o=6)\/(j=12/\b=sb/\o=7)
def tu(d sb m ma st ah ny_9 nx:Nat)(i:Nat)(v:Value)(lo hi:Nat)(w:World):Prop:=
 match i with
 | 0=>v=.pointer (some ⟨sb,0,none⟩)
 | 1=>v=.pointer (some ⟨sb,0,none⟩)
 | 2=>v=.pointer (some ⟨m,0,none⟩)
 | 3=>v=.int .i64 ((ma:Nat):Int)
 | 4=>v=.pointer (some ⟨m,3,none⟩)
 | 5=>v=.int .i64 ((ny_9:Nat):Int)
 | 6=>v=.int .i64 ((nx:Nat):Int)
 | 7=>v=.pointer (some ⟨sb,0,none⟩)
 | 8=>v=.pointer (some ⟨sb,6,none⟩)
 | 9=>sb<w.heap.size/\w.cell? ⟨sb,6,none⟩=some (.int .i64 ((ma:Nat):Int))
 | 10=>v=.pointer (some ⟨sb,0,none⟩)
 | 11=>v=.pointer (some ⟨sb,7,none⟩)
 | 12=>sb<w.heap.size/\w.cell? ⟨sb,7,none⟩=some (.int .i64 ((nx:Nat):Int))
 | _=>True
theorem Ti(d sb m ma st ah ny_9 nx:Nat)  : ∀i j,i<13->j<13->j≠i->j∉([[],[],[],[2],[],[4],[4,5],[0,2,3],[0,2,3,7],[0,2,3,7,8],[0,1,2,3,4,5,6,7,8,9],[0,1,2,3,4,5,6,7,8,9,10],[0,1,2,3,4,5,6,7,8,9,10,11]]:List (List Nat)).getD i []->∀v lo hi w w',tu d sb m ma st ah ny_9 nx i v lo hi w->aB (ni d sb m ma st ah ny_9 nx j) w w'->tu d sb m ma st ah ny_9 nx i v lo hi w':=by
 intro i j hi hj hne hbs v lo hj2 w w' h hg
 match i,hi with
 | 0,_|1,_|2,_|3,_|4,_|5,_|6,_|7,_|8,_|10,_|11,_=>
  simp only[tu]at h⊢;exact h
 | 9,_|12,_=>
  simp only[tu]at h⊢;obtain⟨h0,h1⟩:=h;exact⟨Nat.lt_of_lt_of_le h0 hg.size,(hg.cell _ _ h0 (by simp only[ni];omega)).trans h1⟩
 | (q+13),hq=>exact absurd hq (by omega)
def qG(W0:World)(d sb m lg G ma st ah nx:Nat)(R0:Rg)(Qr:Nat->Prop)(D:Dv)(S:Nat->Prop)(j b:Nat):Prop:=(j=5/\S b)\/(j=11/\b=sb)
def ku(W0:World)(d sb m lg G ma st ah nx:Nat)(R0:Rg)(Qr:Nat->Prop)(D:Dv)(S:Nat->Prop)(i:Nat)(VS:Nat->Value)(LO HI:Nat->Nat)(v:Value)(lo hi:Nat)(w:World):Prop:=
 match i with
 | 0=>v=.pointer (some ⟨sb,0,none⟩)
 | 1=>v=.pointer (some ⟨d,0,none⟩)
 | 2=>v=.int .i64 ((lg:Nat):Int)
 | 3=>v=.pointer (some ⟨m,1,none⟩)
 | 4=>v=.int .i64 ((st:Nat):Int)
 | 5=>∃r S1 q9,Qr q9/\v=.tuple #[.pointer (some ⟨r,0,none⟩),.int .i64 0]/\dY W0 r d lg ⟨(D.reads 2).reads q9,R0⟩ S1 w/\(∀k,S1 k->S k\/G<=k)
 | 6=>v=VS 5
 | 7=>∃r,VS 5=.tuple #[.pointer (some ⟨r,0,none⟩),.int .i64 0]/\v=.pointer (some ⟨r,0,none⟩)
 | 8=>v=.int .i64 0
 | 9=>v=.pointer (some ⟨sb,0,none⟩)
 | 10=>v=.pointer (some ⟨sb,1,none⟩)
 | 11=>Box w sb [.pointer (some ⟨d,0,none⟩),VS 7,.pointer none,.pointer none,.slice none 0 0,.slice none 0 0,.int .i64 ((ma:Nat):Int),.int .i64 ((nx:Nat):Int),.int .i64 0,.bool false,.int .i64 0,.int .i64 0]
 | _=>True
abbrev Yk:List (List Nat):=[[],[],[],[],[3],[1,2,3,4],[1,2,3,4,5],[1,2,3,4,5,6],[1,2,3,4,5,6],[0,1,2,3,4,5,6,7],[0,1,2,3,4,5,6,7,9],[0,1,2,3,4,5,6,7,9,10]]
theorem Tj(W0:World)(d sb m lg G ma st ah nx:Nat)(R0:Rg)(Qr:Nat->Prop)(D:Dv)(S:Nat->Prop)(CQ:∀k,S k->k<sb)(tX:sb+1<G)(hgs:W0.heap.size<=sb):∀i j,i<12->j<12->j≠i->j∉Yk.getD i []->(i,j)∉([]:List (Nat×Nat))->∀VS LO HI v lo hi w w',ku W0 d sb m lg G ma st ah nx R0 Qr D S i VS LO HI v lo hi w->aj (qG W0 d sb m lg G ma st ah nx R0 Qr D S j) w w'->ku W0 d sb m lg G ma st ah nx R0 Qr D S i VS LO HI v lo hi w':=by
 intro i j hi hj hne hbs hx VS LO HI v lo hj2 w w' h hg
 match i,hi with
 | 0,_|1,_|2,_|3,_|4,_|6,_|7,_|8,_|9,_|10,_=>
  simp only[ku]at h⊢;exact h
 | 5,_=>
  simp only[ku]at h⊢;have hgx:aj (fun b=>b=sb) w w':=hg.mono (fun b hw=>by
   simp only[qG]at hw;rcases hw with hw|hw
   ·exact absurd hw.1 hne
   ·exact hw.2)
  obtain⟨r,S1,q9,h0,h1,h2,h3⟩:=h;exact⟨r,S1,q9,h0,h1,h2.grow hgx (fun k hk e=>by rcases h3 k hk with h5|h5;exact absurd (CQ k h5) (by omega);omega) (h2.bel.trans (hgx.below (fun k hk=>⟨Nat.lt_of_lt_of_le hk h2.bel.size,fun e=>by omega⟩))),h3⟩
 | 11,_=>
  simp only[ku]at h⊢;refine h.aH hg ?_;intro hw;simp only[qG]at hw;rcases hw with hw|hw
  ·exact absurd (CQ _ hw.2) (Nat.lt_irrefl _)
  ·exact absurd hw.1 hne
 | (q+12),hq=>exact absurd hq (by omega)
theorem Yl(W0:World)(d sb m lg G ma st ah nx:Nat)(R0:Rg)(Qr:Nat->Prop)(D:Dv)(S:Nat->Prop):∀i,i<12->∀VS dZ LO eu HI eF v lz hz w,(∀j∈Yk.getD i [],VS j=dZ j/\LO j=eu j/\HI j=eF j)->ku W0 d sb m lg G ma st ah nx R0 Qr D S i VS LO HI v lz hz w->ku W0 d sb m lg G ma st ah nx R0 Qr D S i dZ eu eF v lz hz w:=by
 intro i hi VS dZ LO eu HI eF v lz hz w he h
 match i,hi with
 | 0,_|1,_|2,_|3,_|4,_|5,_|8,_|9,_|10,_=>
  simp only[ku]at h⊢;exact h
 | 6,_|7,_=>
  simp only[ku]at h⊢;obtain⟨e5a,e5b,e5c⟩:=he 5 (by decide);simp only[<-e5a,<-e5b,<-e5c];exact h
 | 11,_=>
  simp only[ku]at h⊢;obtain⟨QY,QZ,Q5⟩:=he 7 (by decide);simp only[<-QY,<-QZ,<-Q5];exact h
 | (q+12),hq=>exact absurd hq (by omega)
def oM(W0:World)(r d sb m lg pg G ma st ah nx:Nat)(R0:Rg)(D:Dv)(S:Nat->Prop)(j b:Nat):Prop:=(j=5/\S b)\/(j=11/\b=sb)
def jr(W0:World)(r d sb m lg pg G ma st ah nx:Nat)(R0:Rg)(D:Dv)(S:Nat->Prop)(i:Nat)(VS:Nat->Value)(LO HI:Nat->Nat)(v:Value)(lo hi:Nat)(w:World):Prop:=
 match i with
 | 0=>v=.pointer (some ⟨sb,0,none⟩)
 | 1=>v=.pointer (some ⟨d,0,none⟩)
 | 2=>v=.int .i64 ((lg:Nat):Int)
 | 3=>v=.int .i64 (2+(lg:Int))
 | 4=>v=.int .i64 ((pg:Nat):Int)
 | 5=>∃f S1,v=.tuple #[.pointer (some ⟨f,0,none⟩),.int .i64 0]/\dY W0 r d lg ⟨D.reads 1,R0⟩ S1 w/\iG w f d (2+lg) pg false/\¬S1 f/\G<=f/\(∀k,S1 k->S k\/G<=k)
 | 6=>v=VS 5
 | 7=>∃r,VS 5=.tuple #[.pointer (some ⟨r,0,none⟩),.int .i64 0]/\v=.pointer (some ⟨r,0,none⟩)
 | 8=>v=.int .i64 0
 | 9=>v=.pointer (some ⟨sb,0,none⟩)
 | 10=>v=.pointer (some ⟨sb,2,none⟩)
 | 11=>Box w sb [.pointer (some ⟨d,0,none⟩),.pointer (some ⟨r,0,none⟩),VS 7,.pointer none,.slice none 0 0,.slice none 0 0,.int .i64 ((ma:Nat):Int),.int .i64 ((nx:Nat):Int),.int .i64 0,.bool false,.int .i64 0,.int .i64 0]
 | _=>True
abbrev Tm:List (List Nat):=[[],[],[],[2],[],[1,2,3,4],[1,2,3,4,5],[1,2,3,4,5,6],[1,2,3,4,5,6],[0,1,2,3,4,5,6,7],[0,1,2,3,4,5,6,7,9],[0,1,2,3,4,5,6,7,9,10]]
theorem Nv(W0:World)(r d sb m lg pg G ma st ah nx:Nat)(R0:Rg)(D:Dv)(S:Nat->Prop)(hsg:∀k,S k->k≠sb/\k≠sb+1/\k≠m)(pK:sb+1<G/\m<G)(hgs:W0.heap.size<=sb):∀i j,i<12->j<12->j≠i->j∉Tm.getD i []->(i,j)∉([]:List (Nat×Nat))->∀VS LO HI v lo hi w w',jr W0 r d sb m lg pg G ma st ah nx R0 D S i VS LO HI v lo hi w->aj (oM W0 r d sb m lg pg G ma st ah nx R0 D S j) w w'->jr W0 r d sb m lg pg G ma st ah nx R0 D S i VS LO HI v lo hi w':=by
 intro i j hi hj hne hbs hx VS LO HI v lo hj2 w w' h hg
 match i,hi with
 | 0,_|1,_|2,_|3,_|4,_|6,_|7,_|8,_|9,_|10,_=>
  simp only[jr]at h⊢;exact h
 | 5,_=>
  simp only[jr]at h⊢;have hgx:aj (fun b=>b=sb) w w':=hg.mono (fun b hw=>by
   simp only[oM]at hw;rcases hw with hw|hw
   ·exact absurd hw.1 hne
   ·exact hw.2)
  obtain⟨f,S1,h1,h2,h3,h4,h5,h6⟩:=h;exact⟨f,S1,h1,h2.grow hgx (fun k hk e=>by rcases h6 k hk with h7|h7;exact absurd (hsg k h7) (by omega);omega) (h2.bel.trans (hgx.below (fun k hk=>⟨Nat.lt_of_lt_of_le hk h2.bel.size,fun e=>by omega⟩))),h3.aH hgx (fun e=>by omega),h4,h5,h6⟩
 | 11,_=>
  simp only[jr]at h⊢;refine h.aH hg ?_;intro hw;simp only[oM]at hw;rcases hw with hw|hw
  ·exact absurd rfl (hsg _ hw.2).1
  ·exact absurd hw.1 hne
 | (q+12),hq=>exact absurd hq (by omega)
theorem Un(W0:World)(r d sb m lg pg G ma st ah nx:Nat)(R0:Rg)(D:Dv)(S:Nat->Prop):∀i,i<12->∀VS dZ LO eu HI eF v lz hz w,(∀j∈Tm.getD i [],VS j=dZ j/\LO j=eu j/\HI j=eF j)->jr W0 r d sb m lg pg G ma st ah nx R0 D S i VS LO HI v lz hz w->jr W0 r d sb m lg pg G ma st ah nx R0 D S i dZ eu eF v lz hz w:=by
 intro i hi VS dZ LO eu HI eF v lz hz w he h
 match i,hi with
 | 0,_|1,_|2,_|3,_|4,_|5,_|8,_|9,_|10,_=>
  simp only[jr]at h⊢;exact h
 | 6,_|7,_=>
  simp only[jr]at h⊢;obtain⟨e5a,e5b,e5c⟩:=he 5 (by decide);simp only[<-e5a,<-e5b,<-e5c];exact h
 | 11,_=>
  simp only[jr]at h⊢;obtain⟨QY,QZ,Q5⟩:=he 7 (by decide);simp only[<-QY,<-QZ,<-Q5];exact h
 | (q+12),hq=>exact absurd hq (by omega)
def oN(W0:World)(r d f sb m nf lg pg G ma st ah nx:Nat)(R0:Rg)(D:Dv)(S:Nat->Prop)(j b:Nat):Prop:=(j=13/\b=sb)
def iO(W0:World)(r d f sb m nf lg pg G ma st ah nx:Nat)(R0:Rg)(D:Dv)(S:Nat->Prop)(i:Nat)(VS:Nat->Value)(LO HI:Nat->Nat)(v:Value)(lo hi:Nat)(w:World):Prop:=
 match i with
 | 0=>v=.pointer (some ⟨sb,0,none⟩)
 | 1=>v=.pointer (some ⟨sb,0,none⟩)
 | 2=>v=.pointer (some ⟨sb,0,none⟩)
 | 3=>v=.pointer (some ⟨sb,2,none⟩)
 | 4=>v=.pointer (some ⟨f,0,none⟩)
 | 5=>v=.int .i64 ((nf:Nat):Int)
 | 6=>v=.func (.func 82) #[] #[.pointer (some ⟨sb+1,0,none⟩)]
 | 7=>∃g S1,v=.tuple #[.pointer (some ⟨g,0,none⟩),.int .i64 0]/\SP W0 g nf r d f sb (sb+1) lg (2+lg) pg (Pq.new nf) (⟨D.reads 1,R0⟩,[.pointer (some ⟨d,0,none⟩),.pointer (some ⟨r,0,none⟩),.pointer (some ⟨f,0,none⟩),.pointer none,.slice none 0 0,.slice none 0 0,.int .i64 ((ma:Nat):Int),.int .i64 ((nx:Nat):Int),.int .i64 0,.bool false,.int .i64 0,.int .i64 0]) S1 w/\(∀k,S1 k->(S k\/k=f\/k=sb\/k=sb+1)\/G<=k)
 | 8=>∃g,VS 7=.tuple #[.pointer (some ⟨g,0,none⟩),.int .i64 0]/\v=.tuple #[.pointer (some ⟨g,0,none⟩),.int .i64 0]
 | 9=>∃g,VS 8=.tuple #[.pointer (some ⟨g,0,none⟩),.int .i64 0]/\v=.pointer (some ⟨g,0,none⟩)
 | 10=>v=.int .i64 0
 | 11=>v=.pointer (some ⟨sb,0,none⟩)
 | 12=>v=.pointer (some ⟨sb,3,none⟩)
 | 13=>∃g S1,VS 9=.pointer (some ⟨g,0,none⟩)/\SP W0 g nf r d f sb (sb+1) lg (2+lg) pg (Pq.new nf) (⟨D.reads 1,R0⟩,[.pointer (some ⟨d,0,none⟩),.pointer (some ⟨r,0,none⟩),.pointer (some ⟨f,0,none⟩),.pointer (some ⟨g,0,none⟩),.slice none 0 0,.slice none 0 0,.int .i64 ((ma:Nat):Int),.int .i64 ((nx:Nat):Int),.int .i64 0,.bool false,.int .i64 0,.int .i64 0]) S1 w/\(∀k,S1 k->(S k\/k=f\/k=sb\/k=sb+1)\/G<=k)
 | _=>True
abbrev Tn:List (List Nat):=[[],[],[1],[1,2],[1,2,3],[],[],[1,2,3,4,5,6],[1,2,3,4,5,6,7],[1,2,3,4,5,6,7,8],[1,2,3,4,5,6,7,8],[0,1,2,3,4,5,6,7,8,9],[0,1,2,3,4,5,6,7,8,9,11],[0,1,2,3,4,5,6,7,8,9,11,12]]
theorem Nw(W0:World)(r d f sb m nf lg pg G ma st ah nx:Nat)(R0:Rg)(D:Dv)(S:Nat->Prop)  : ∀i j,i<14->j<14->j≠i->j∉Tn.getD i []->(i,j)∉([(7,13)]:List (Nat×Nat))->∀VS LO HI v lo hi w w',iO W0 r d f sb m nf lg pg G ma st ah nx R0 D S i VS LO HI v lo hi w->aj (oN W0 r d f sb m nf lg pg G ma st ah nx R0 D S j) w w'->iO W0 r d f sb m nf lg pg G ma st ah nx R0 D S i VS LO HI v lo hi w':=by
 intro i j hi hj hne hbs hx VS LO HI v lo hj2 w w' h hg
 match i,hi with
 | 0,_|1,_|2,_|3,_|4,_|5,_|6,_|8,_|9,_|10,_|11,_|12,_=>
  simp only[iO]at h⊢;exact h
 | 7,_=>
  simp only[iO]at h⊢;simp at hx;have hgx:aj (fun b=>False) w w':=hg.mono (fun b hw=>by
   simp only[oN]at hw;exact absurd hw.1 (by omega))
  obtain⟨g,S1,h1,h2,h3⟩:=h;exact⟨g,S1,h1,h2.grow hgx (fun _ _ h=>h) (h2.bel.trans (hgx.below (fun k hk=>⟨Nat.lt_of_lt_of_le hk h2.bel.size,fun e=>e⟩))),h3⟩
 | 13,_=>
  simp only[iO]at h⊢;have hgx:aj (fun b=>False) w w':=hg.mono (fun b hw=>by
   simp only[oN]at hw;exact absurd hw.1 (by omega))
  obtain⟨g,S1,h1,h2,h3⟩:=h;exact⟨g,S1,h1,h2.grow hgx (fun _ _ h=>h) (h2.bel.trans (hgx.below (fun k hk=>⟨Nat.lt_of_lt_of_le hk h2.bel.size,fun e=>e⟩))),h3⟩
 | (q+14),hq=>exact absurd hq (by omega)
theorem Uo(W0:World)(r d f sb m nf lg pg G ma st ah nx:Nat)(R0:Rg)(D:Dv)(S:Nat->Prop):∀i,i<14->∀VS dZ LO eu HI eF v lz hz w,(∀j∈Tn.getD i [],VS j=dZ j/\LO j=eu j/\HI j=eF j)->iO W0 r d f sb m nf lg pg G ma st ah nx R0 D S i VS LO HI v lz hz w->iO W0 r d f sb m nf lg pg G ma st ah nx R0 D S i dZ eu eF v lz hz w:=by
 intro i hi VS dZ LO eu HI eF v lz hz w he h
 match i,hi with
 | 0,_|1,_|2,_|3,_|4,_|5,_|6,_|7,_|10,_|11,_|12,_=>
  simp only[iO]at h⊢;exact h
 | 8,_=>
  simp only[iO]at h⊢;obtain⟨QY,QZ,Q5⟩:=he 7 (by decide);simp only[<-QY,<-QZ,<-Q5];exact h
 | 9,_=>
  simp only[iO]at h⊢;obtain⟨Ze,Zf,Zg⟩:=he 8 (by decide);simp only[<-Ze,<-Zf,<-Zg];exact h
 | 13,_=>
  simp only[iO]at h⊢;obtain⟨e9a,e9b,e9c⟩:=he 9 (by decide);simp only[<-e9a,<-e9b,<-e9c];exact h
 | (q+14),hq=>exact absurd hq (by omega)
section
variable{W0 w w' w2:World}{d:Nat}{D:Dv}{S:Nat->Prop}
theorem MG(h:DV W0 d D S w)(hg:D.good)(hc:D.c=[])(L:Nat)(hL:D.l.length=L)(hL1:128<=L)(nf:Nat)(hn1:1<=nf)(hn2:nf<=64)(hmo:∀t,t<2->Fj (D.sec t))(ma st ah ny_9 nx:Nat)(hmk:lC D.sec 2=(ma,st,ah,ny_9))(hnx:1<=nx/\ny_9<=nx/\(nx=ny_9\/nx=1))(au1:ma<=1099511627776/\st<=1099511627776/\ah<=1099511627776/\nx<=1099511627776)
  (hzf:D.sec (2+(jg L).1)=dB) (R0:Rg) (Qr:Nat->Prop) (hring:∀y,DV W0 d (D.reads 2) S y->Calls Tryz.prog 79 #[.pointer (some ⟨d,0,none⟩),.int .i64 2,.int .i64 ((jg L).1:Nat),.int .i64 (st:Nat)] y fun e w'=>∃r S' q,Qr q/\e=.returned (.tuple #[.pointer (some ⟨r,0,none⟩),.int .i64 0])/\dY W0 r d (jg L).1 ⟨(D.reads 2).reads q,R0⟩ S' w'/\aG S S' y w')
  (Q:St->Prop) (hrs:∀(A:bG)(y:World)(S1:Nat->Prop)(q:Nat),Qr q->A.nf=nf->aP W0 y A (Cf.of L) ⟨⟨((D.reads 2).reads q).reads 1,R0⟩,Pq.new nf,[],[],ma,nx,0,0,0⟩ (.slice none 0 0) (.slice none 0 0) [] [] (fun _=>False) S1->
   Calls Tryz.prog 84 #[.pointer (some ⟨A.sb,0,none⟩),.int .i64 (ah:Nat)] y fun er w'=>er=.returned (.int .i64 0)/\∃(σ':St)(gJ:Value)(jq:List Le)(K' aT:Nat->Prop),aP W0 w' A (Cf.of L) σ' gJ (.slice none 0 0) jq [] K' aT/\aG (aO S1 (.slice none 0 0) (.slice none 0 0) [] (fun _=>False)) (aO aT gJ (.slice none 0 0) [] K') y w'/\Q σ'):
  Calls Tryz.prog 37 #[.pointer (some ⟨d,0,none⟩),.int .i64 (nf:Nat)] w fun e w'=>∃(A:bG)(S':Nat->Prop)(σ':St),e=.returned (.tuple #[.pointer (some ⟨A.sb,0,none⟩),.int .i64 0])/\A.d=d/\A.nf=nf/\
   SV W0 A (Cf.of L) σ' S' w'/\Q σ'/\aG S S' w w':=by
 have hsz:=EI h;rw[hL]at hsz;have hLb:L<=8192:=by rw[<-hL];exact hg.ok.n
 have ny:=hid hsz;have HG:=hid hg;have HC:=hid hc;have HL:=hid hL;have HMO:=hid hmo;have AB:=hid hmk;have HZF:=hid hzf;have aeQ:=hid hring;have aqW:=hid hrs;have b1:decide ((L:Int)<128)=false:=by simp;omega
 have b1n:decide (L<128)=false:=by simp;omega
 have b2:decide ((nf:Int)<1)=false:=by simp;omega
 have b3:decide ((nf:Int)>64)=false:=by simp;omega
 have b4:decide (64<(nf:Int))=false:=by simp;omega
 have b5:decide (64<nf)=false:=by simp;omega
 have b6:decide (nf<1)=false:=by simp;omega
 have H:=hid h;have hgz:W0.heap.size<=w.heap.size:=h.bel.size;have HGZ:=hid hgz;obtain⟨sb,hsb⟩:∃x,w.heap.size=x:=⟨_,rfl⟩
 clear hsz hg hc hL hmo hmk hzf hring hrs h hgz;go_enter Tryz.func37,Tryz.ntmps37;go_wp2_with fail;refine ny.out.mono ?_;rintro e wh ⟨rfl,hy⟩;obtain rfl:w=wh:=hy.symm;go_wp2_with fail;have hal:Below w.heap.size w (w.alloc (.cells #[.pointer (some ⟨d,0,none⟩),.pointer none,.pointer none,.pointer none,.slice none 0 0,.slice none 0 0,.int .i64 0,.int .i64 0,.int .i64 0,.bool false,.int .i64 0,.int .i64 0] 95)):=(Below.refl _ _).alloc (Nat.le_refl _) _;have hal2:Below w.heap.size w ((w.alloc (.cells #[.pointer (some ⟨d,0,none⟩),.pointer none,.pointer none,.pointer none,.slice none 0 0,.slice none 0 0,.int .i64 0,.int .i64 0,.int .i64 0,.bool false,.int .i64 0,.int .i64 0] 95)).alloc (.cells #[.pointer (some ⟨sb,0,none⟩)] 28)):=hal.alloc (by simp) _;have bs:=(Box.new w #[.pointer (some ⟨d,0,none⟩),.pointer none,.pointer none,.pointer none,.slice none 0 0,.slice none 0 0,.int .i64 0,.int .i64 0,.int .i64 0,.bool false,.int .i64 0,.int .i64 0] 95 rfl).alloc (.cells #[.pointer (some ⟨sb,0,none⟩)] 28);have bc:=Box.new (w.alloc (.cells #[.pointer (some ⟨d,0,none⟩),.pointer none,.pointer none,.pointer none,.slice none 0 0,.slice none 0 0,.int .i64 0,.int .i64 0,.int .i64 0,.bool false,.int .i64 0,.int .i64 0] 95)) #[.pointer (some ⟨sb,0,none⟩)] 28 rfl;rw[show(w.alloc (.cells #[.pointer (some ⟨d,0,none⟩),.pointer none,.pointer none,.pointer none,.slice none 0 0,.slice none 0 0,.int .i64 0,.int .i64 0,.int .i64 0,.bool false,.int .i64 0,.int .i64 0] 95)).heap.size=sb+1 by rw[<-hsb];simp]at bc;rw[hsb]at bs;have H1:=hid (H.out.below hal2);have hLT:=H.out.lt;have jH:Hid (∀k,S k->W0.heap.size<=k/\k<sb):=hid (fun k hk=>⟨(hLT k hk).1,hsb▸(hLT k hk).2⟩);rw[hsb]at hal2;have HB1:=hid hal2;have zf:Hid (W0.heap.size<=sb):=hid (hsb▸HGZ.out);have zK:=hid hsb
 have e1:((w.alloc (.cells #[.pointer (some ⟨d,0,none⟩),.pointer none,.pointer none,.pointer none,.slice none 0 0,.slice none 0 0,.int .i64 0,.int .i64 0,.int .i64 0,.bool false,.int .i64 0,.int .i64 0] 95)).alloc (.cells #[.pointer (some ⟨sb,0,none⟩)] 28)).heap.size=sb+2:=by simp only[World.size_alloc];omega
 have HE1:=hid e1;clear hal hal2 hLT hsb e1 HGZ;generalize ((w.alloc (.cells #[.pointer (some ⟨d,0,none⟩),.pointer none,.pointer none,.pointer none,.slice none 0 0,.slice none 0 0,.int .i64 0,.int .i64 0,.int .i64 0,.bool false,.int .i64 0,.int .i64 0] 95)).alloc (.cells #[.pointer (some ⟨sb,0,none⟩)] 28))=w1 at *;have acN:=Yh H1.out HG.out (by rw[HL.out];omega) HMO.out;rw[AB.out]at acN;simp only at acN;refine acN.mono ?_;rintro e y1 ⟨rfl,Tf,hf1⟩;have KH:=hid Tf;have Df:=hid hf1;have vM:=hid (bs.aH hf1.grow (fun hk=>by have:=(jH.out _ hk).2;omega));have HBC:=hid (bc.aH hf1.grow (fun hk=>by have:=(jH.out _ hk).2;omega));obtain⟨m,hm⟩:∃x,y1.heap.size=x:=⟨_,rfl⟩
 have Vu:Hid (sb+2<=m):=hid (by rw[<-hm,<-HE1.out];exact hf1.grow.size);clear Tf hf1 bs bc;go_wp2_with fail;have hal:Below y1.heap.size y1 (y1.alloc (.cells #[.int .i64 ((ma:Nat):Int),.int .i64 ((st:Nat):Int),.int .i64 ((ah:Nat):Int),.int .i64 ((ny_9:Nat):Int)] 131)):=(Below.refl _ _).alloc (Nat.le_refl _) _;have bs:=vM.out.alloc (.cells #[.int .i64 ((ma:Nat):Int),.int .i64 ((st:Nat):Int),.int .i64 ((ah:Nat):Int),.int .i64 ((ny_9:Nat):Int)] 131);have bc:=HBC.out.alloc (.cells #[.int .i64 ((ma:Nat):Int),.int .i64 ((st:Nat):Int),.int .i64 ((ah:Nat):Int),.int .i64 ((ny_9:Nat):Int)] 131);have bm:=Box.new y1 #[.int .i64 ((ma:Nat):Int),.int .i64 ((st:Nat):Int),.int .i64 ((ah:Nat):Int),.int .i64 ((ny_9:Nat):Int)] 131 rfl;rw[hm]at bm;have HM:=hid hm;have H2:=hid (KH.out.below hal);have HF2:=hid (Df.out.trans (aG.below (aC hal)));have hms:=Vu.out;clear hal hm;generalize y1.alloc (.cells #[.int .i64 ((ma:Nat):Int),.int .i64 ((st:Nat):Int),.int .i64 ((ah:Nat):Int),.int .i64 ((ny_9:Nat):Int)] 131)=w2 at *;have hB:Below 0 w2 w2:=Below.refl _ _;refine aQ (ni d sb m ma st ah ny_9 nx) 13 [[],[],[],[2],[],[4],[4,5],[0,2,3],[0,2,3,7],[0,2,3,7,8],[0,1,2,3,4,5,6,7,8,9],[0,1,2,3,4,5,6,7,8,9,10],[0,1,2,3,4,5,6,7,8,9,10,11]] [some 37,some 38,some 39,some 40,some 41,some 42,some 43,some 44,some 45,none,some 46,some 47,none] (by kernel_rfl) (by kernel_rfl) rfl (tu d sb m ma st ah ny_9 nx) (Ti d sb m ma st ah ny_9 nx) ?al8 ?_
 case al8=>
  intro i hi o ho vs lo eX w' hg hp;have hsz:=hg.size;replace hp:=fun j hj=>(hp j hj).2.2.2
  match i,hi with
  | 0,_|1,_|2,_|4,_|3,_|5,_|7,_|8,_|10,_|11,_=>
   cases ho;simp only[aA,tu]at hp
   first|simp only[ak,Act.put,aA,hp]|simp only[ak,Act.put,aA]
   try have e0:=(hg.cell (sb+1) 0 bc.lt (by rintro⟨j,_,hne,hb,hw⟩;simp only[ni]at hw;omega)).trans (bc.cell 0 _ rfl)
   try have e1:=(hg.cell (m) 0 bm.lt (by rintro⟨j,_,hne,hb,hw⟩;simp only[ni]at hw;omega)).trans (bm.cell 0 _ rfl)
   try have e2:=(hg.cell (m) 3 bm.lt (by rintro⟨j,_,hne,hb,hw⟩;simp only[ni]at hw;omega)).trans (bm.cell 3 _ rfl)
   go_wp2;exact⟨_,rfl,aB.refl _,rfl⟩
  | 6,_=>
   cases ho;simp only[ak,Act.put,aA];have h5:=hp 5 (by simp);simp only[tu]at h5;rw[h5];go_wp2;exact⟨_,rfl,aB.refl _,by simp only[tu];congr 1;omega⟩
  | 9,_=>
   cases ho;simp only[ak,Act.put,aA];have h3:=hp 3 (by simp);have h8:=hp 8 (by simp);simp only[tu]at h3 h8;rw[h3,h8];have o0:=(hg.cell (sb) 6 bs.lt (by rintro⟨j,_,hne,hb,hw⟩;simp only[ni]at hw;omega)).trans (bs.cell 6 _ rfl);have fz:∀o,w'.frozen? ⟨sb,o,none⟩=false:=fun o=>(hg.frozen _ o bs.lt).trans (bs.free o);have hlt:sb<w'.heap.size:=by have:=bs.lt;omega
   go_wp2;exact⟨.bool true,rfl,((aB.refl _).setCell (by unfold ni;omega) hlt _),by simpa[World.setCell]using hlt,World.cell?_setCell_same _ _ _ o0⟩
  | 12,_=>
   cases ho;simp only[ak,Act.put,aA];have h6:=hp 6 (by simp);have h9:=hp 9 (by simp);have h11:=hp 11 (by simp);simp only[tu]at h6 h9 h11;rw[h6,h11];have o0:=(hg.cell (sb) 7 bs.lt (by rintro⟨j,_,hne,hb,hw⟩;simp only[ni]at hw;omega)).trans (bs.cell 7 _ rfl);have fz:∀o,w'.frozen? ⟨sb,o,none⟩=false:=fun o=>(hg.frozen _ o bs.lt).trans (bs.free o);have hlt:sb<w'.heap.size:=by have:=bs.lt;omega
   go_wp2;exact⟨.bool true,rfl,((aB.refl _).setCell (by unfold ni;omega) hlt _),by simpa[World.setCell]using hlt,World.cell?_setCell_same _ _ _ o0⟩
  | (q+13),hq=>exact absurd hq (by omega)
 intro vS lo hi w7 hg hp hd;have hP:=fun j hj=>(hp j hj).2.2.2;have h0:=hP 0 (by decide);have h1:=hP 1 (by decide);have h2:=hP 2 (by decide);have h3:=hP 3 (by decide);have h4:=hP 4 (by decide);have h5:=hP 5 (by decide);have h6:=hP 6 (by decide);have h7:=hP 7 (by decide);have h8:=hP 8 (by decide);have h9:=hP 9 (by decide);have h10:=hP 10 (by decide);have h11:=hP 11 (by decide);have h12:=hP 12 (by decide);clear hP;simp only[tu]at h0 h1 h2 h3 h4 h5 h6 h7 h8 h9 h10 h11 h12;clear hp hd;have hsz:=hg.size;replace bs:Box w7 (sb) [.pointer (some ⟨d,0,none⟩),.pointer none,.pointer none,.pointer none,.slice none 0 0,.slice none 0 0,.int .i64 ((ma:Nat):Int),.int .i64 ((nx:Nat):Int),.int .i64 0,.bool false,.int .i64 0,.int .i64 0]:=bs.upd hg (by
  intro i v hi
  match i,hi with
  | 0,hi|1,hi|2,hi|3,hi|4,hi|5,hi|8,hi|9,hi|10,hi|11,hi=>exact .inr ⟨(by rintro⟨j,_,hw⟩;simp only[ni]at hw;omega),hi⟩
  | 6,hi=>exact .inl (by obtain rfl:=Option.some.inj hi;exact h9.2)
  | 7,hi=>exact .inl (by obtain rfl:=Option.some.inj hi;exact h12.2)
  | (q+12),hi=>cases hi)
 replace bc:=bc.grow hg (by intro i _;rintro⟨j,_,hw⟩;simp only[ni]at hw;omega);replace bm:=bm.grow hg (by intro i _;rintro⟨j,_,hw⟩;simp only[ni]at hw;omega);replace hB:=hB.trans (hg.below (fun k hk=>⟨by omega,fun o=>by rintro⟨j,_,hw⟩;simp only[ni]at hw;omega⟩));have hr:List.range 13=[0,1,2,3,4,5,6,7,8,9,10,11,12]:=rfl;rw[hr];clear hr;simp only[List.drop_succ_cons,List.drop_zero,List.drop_nil,ak,Act.put,aA,h0,h1,h2,h3,h4,h5,h6,h7,h8,h10,h11];clear h0 h1 h2 h3 h4 h5 h6 h7 h8 h9 h10 h11 h12;have HX7:=hid (aj.aK hg (Y:=fun b=>b=sb) (fun k o ⟨j,_,hw⟩=>by simp only[ni]at hw;rcases hw with hw|hw<;>exact hw.2.1));have akO:Hid (DV W0 d (D.reads 2) S w7):=hid (H2.out.grow HX7.out (fun k hk e=>by have:=(jH.out _ hk).2;omega) (H2.out.bel.trans (HX7.out.below (fun k hk=>⟨Nat.lt_of_lt_of_le hk H2.out.bel.size,fun e=>by have:=zf.out;omega⟩))));have aqX:=hid bs;have aqY:=hid bc;have akP:=hid bm;clear hB hg hsz bs bc bm hms;have hsz:=EI akO.out;rw[D.fM,HL.out]at hsz;have aqZ:=hid hsz;clear hsz;go_wp2_with fail;refine aqZ.out.mono ?_;rintro e wh ⟨rfl,hy⟩;obtain rfl:w7=wh:=hy.symm;have hly:=BF w7 (L:Int) (by omega) (by omega);rw[abU]at hly;obtain⟨lg,zk⟩:∃x,(jg L).1=x:=⟨_,rfl⟩
 obtain⟨pg,hpg⟩:∃x,(jg L).2=x:=⟨_,rfl⟩
 rw[zk,hpg]at hly;rw[zk]at HZF aeQ;have YH:=hid hly;have HLG:=hid zk;have lN:=hid hpg;clear hly zk hpg;go_wp2_with fail;refine YH.out.mono ?_;rintro e wh ⟨rfl,hy⟩;obtain rfl:w7=wh:=hy.symm;have jB:32<=lg/\2+lg<=L/\1<=pg/\2+lg+5+4*pg<=L:=by
  have e1:=HLG.out;have e2:=lN.out;unfold jg at e1 e2;rw[if_neg (by omega)]at e1 e2;simp only at e1 e2;omega
 obtain⟨l1,l2,l3,l4⟩:=jB;have F7:Hid (aG S S w w7):=hid ((aG.fin (T:=S) (aG.below (aC (by rw[zK.out];exact HB1.out))) HF2.out.grow (fun k hk=>.inl hk) (fun k hk=>.inl hk)).fin HX7.out (fun k e=>.inr (by have:=zK.out;omega)) (fun k hk=>.inl hk));go_upto_region 9 with (fail);have bs:=aqX.out;have bc:=aqY.out;have bm:=akP.out;have hms:=Vu.out;obtain⟨G7,hG7⟩:∃x,w7.heap.size=x:=⟨_,rfl⟩
 have tX:sb+1<G7:=by rw[<-hG7];exact bc.lt
 have CQ:∀k,S k->k<sb:=fun k hk=>(jH.out k hk).2;have hB:Below 0 w7 w7:=Below.refl _ _;have wQ:=hid hG7;refine gK (qG W0 d sb m lg G7 ma st ah nx R0 Qr D S) 12 Yk [some 55,some 56,some 57,some 58,some 59,some 60,some 54,some 61,some 62,some 63,some 64,none,some 8] [[],[],[],[],[3],[1,2,4],[5],[5,6],[5,6],[0],[9],[7,10]] [0,1,2,3,4,5,6,7,8,9,10,11] [] (by decide) (by kernel_rfl) (by kernel_rfl) rfl (ku W0 d sb m lg G7 ma st ah nx R0 Qr D S) (Yl W0 d sb m lg G7 ma st ah nx R0 Qr D S) (Tj W0 d sb m lg G7 ma st ah nx R0 Qr D S CQ tX zf.out) ?al9 ?_
 case al9=>
  intro i hi o ho vs lo eX w' hg hp hdd;have hsz:=hg.size;replace hp:=fun j hj=>(hp j hj).2.2.2
  match i,hi with
  | 0,_|1,_|2,_|3,_|4,_|6,_|9,_|10,_=>
   cases ho;simp only[aA,ku]at hp
   first|simp only[ak,Act.put,aA,hp]|simp only[ak,Act.put,aA]
   try have e0:=(bc.aH hg (by rintro⟨j,_,hne,hb,hw⟩;first|(simp only[qG]at hw;rcases hw with ⟨rfl,hw⟩|⟨rfl,hw⟩<;>first|(have:=CQ _ hw;omega)|exact absurd rfl hne|exact hb (by decide)|omega)|fail)).cell 0 _ rfl
   try have e1:=(bm.aH hg (by rintro⟨j,_,hne,hb,hw⟩;first|(simp only[qG]at hw;rcases hw with ⟨rfl,hw⟩|⟨rfl,hw⟩<;>first|(have:=CQ _ hw;omega)|exact absurd rfl hne|exact hb (by decide)|omega)|fail)).cell 1 _ rfl
   go_wp2;exact⟨_,rfl,aj.refl _,rfl⟩
  | 5,_=>
   cases ho;simp only[ak,Act.put,aA];have h1:=hp 1 (by simp);have h2:=hp 2 (by simp);have h4:=hp 4 (by simp);simp only[ku]at h1 h2 h4;rw[h1,h2,h4];have hbl:Below w7.heap.size w7 w':=hg.below (fun k hk=>⟨hk,by rintro⟨j,_,hne,hb,hw⟩;simp only[qG]at hw;rcases hw with ⟨rfl,hw⟩|⟨rfl,hw⟩<;>first|exact absurd rfl hne|exact hb (by decide)⟩);have hcall:=aeQ.out w' (akO.out.below hbl);have cO:=hid hcall;clear hcall;go_wp2_with fail;refine cO.out.mono ?_;rintro er y ⟨r,S1,q9,hq9,rfl,hr,hf⟩;go_wp2;exact⟨_,rfl,hf.grow.mono (fun b h=>.inl ⟨rfl,h⟩),r,S1,q9,hq9,rfl,hr,fun k hk=>(hf.new k hk).imp (fun h=>h) (fun h=>by have:=wQ.out;have:=hbl.size;omega)⟩
  | 7,_=>
   cases ho;simp only[ak,Act.put,aA];have h5:=hp 5 (by simp);have h6:=hp 6 (by simp);simp only[ku]at h5 h6;obtain⟨r,S1,q9,_,e5,_⟩:=h5;rw[h6,e5];go_wp2;exact⟨_,rfl,aj.refl _,r,e5,rfl⟩
  | 8,_=>
   cases ho;simp only[ak,Act.put,aA];have h5:=hp 5 (by simp);have h6:=hp 6 (by simp);simp only[ku]at h5 h6;obtain⟨r,S1,q9,_,e5,_⟩:=h5;rw[h6,e5];go_wp2;exact⟨_,rfl,aj.refl _,rfl⟩
  | 11,_=>
   cases ho;simp only[ak,Act.put,aA];have h7:=hp 7 (by simp);have h10:=hp 10 (by simp);simp only[ku]at h7 h10;rw[h10];have bz:=bs.aH hg (by rintro⟨j,_,hne,hb,hw⟩;simp only[qG]at hw;rcases hw with ⟨rfl,hw⟩|⟨rfl,hw⟩<;>first|(have:=CQ _ hw;omega)|exact absurd rfl hne|exact hb (by decide)|omega);obtain⟨r,e5,e7⟩:=h7;rw[e7];have cz:=bz.cell 1 _ rfl;have fz:=bz.free;have lz:=bz.lt;go_wp2;exact⟨.bool true,rfl,(aF w' sb 1 _).mono (fun k e=>.inr ⟨rfl,e⟩),by simp only[ku];rw[e7];exact bz.setCell 1 _⟩
  | (q+12),hq=>exact absurd hq (by omega)
 intro vS lo hi w9 hg hp hd;have hP:=fun j hj=>(hp j hj).2.2.2;have h0:=hP 0 (by decide) (by decide);have h1:=hP 1 (by decide) (by decide);have h2:=hP 2 (by decide) (by decide);have h3:=hP 3 (by decide) (by decide);have h4:=hP 4 (by decide) (by decide);have h5:=hP 5 (by decide) (by decide);have h6:=hP 6 (by decide) (by decide);have h7:=hP 7 (by decide) (by decide);have h8:=hP 8 (by decide) (by decide);have h9:=hP 9 (by decide) (by decide);have h10:=hP 10 (by decide) (by decide);have h11:=hP 11 (by decide) (by decide);clear hP;simp only[ku]at h0 h1 h2 h3 h4 h5 h6 h7 h8 h9 h10 h11;clear hp hd;have hsz:=hg.size;replace bc:=bc.aH hg (by rintro⟨j,_,hw⟩;simp only[qG]at hw;rcases hw with ⟨rfl,hw⟩|⟨rfl,hw⟩<;>first|(have:=CQ _ hw;omega)|exact absurd rfl hne|exact hb (by decide)|omega);replace bm:=bm.aH hg (by rintro⟨j,_,hw⟩;simp only[qG]at hw;rcases hw with ⟨rfl,hw⟩|⟨rfl,hw⟩<;>first|(have:=CQ _ hw;omega)|exact absurd rfl hne|exact hb (by decide)|omega);replace hB:=hB.trans (hg.below (fun k hk=>⟨by omega,by rintro⟨j,_,hw⟩;simp only[qG]at hw;rcases hw with ⟨rfl,hw⟩|⟨rfl,hw⟩<;>first|(have:=CQ _ hw;omega)|exact absurd rfl hne|exact hb (by decide)|omega⟩));have hr:List.range 12=[0,1,2,3,4,5,6,7,8,9,10,11]:=rfl;rw[hr];clear hr;simp only[List.drop_succ_cons,List.drop_zero,List.drop_nil,ak,Act.put,aA,h0,h1,h2,h3,h4,h8,h9,h10];clear h0 h1 h2 h3 h4 h8 h9 h10;obtain⟨r,S9,q9,hq9,e5,acO,hs9⟩:=h5;have HQ9:=hid hq9;clear hq9;obtain⟨D9,VB⟩:∃x,(D.reads 2).reads q9=x:=⟨_,rfl⟩
 rw[VB]at acO;have akR:Hid (D9.c=[]):=hid (by rw[<-VB,Dv.Ku,Dv.Ku];exact HC.out);have akS:Hid (D9.l.length=L):=hid (by rw[<-VB,Dv.fM,Dv.fM];exact HL.out);have aq0:Hid (D9.sec=D.sec):=hid (by rw[<-VB,Dv.rJ,Dv.rJ]);have HD9:=hid VB;clear VB;obtain⟨r',e5',e7⟩:=h7;obtain rfl:r=r':=by
  rw[e5]at e5';injection e5' with e5';injection e5' with e5';injection e5' with e5' _;injection e5' with e5';injection e5' with e5';injection e5' with e5'
 rw[e7]at h11;rw[h6,e7,e5];have hmG:m<G7:=by have:=akP.out.lt;omega
 have F9:Hid (aG S S9 w w9):=hid (F7.out.fin hg (fun k hk=>by
  obtain⟨j,_,hw⟩:=hk;simp only[qG]at hw;rcases hw with hw|hw
  ·exact .inl hw.2
  ·exact .inr (by have:=zK.out;omega)) (fun k hk=>(hs9 k hk).imp (fun h=>h) (fun h=>by have:=zK.out;omega)))
 have akT:=hid acO;have hsg:∀k,S9 k->k≠sb/\k≠sb+1/\k≠m:=fun k hk=>by
  rcases hs9 k hk with h|h
  ·have:=CQ k h;omega
  ·omega
 have aq1:=hid h11;have aq2:=hid bc;have aq3:=hid bm;clear e5 e5' e7 h6 h11 acO hs9 hg hsz hB bs bc bm hmG CQ tX wQ hG7;go_wp2_with fail;go_upto_region 12 with (fail);have bs:=aq1.out;have bc:=aq2.out;have bm:=aq3.out;obtain⟨G9,hG9⟩:∃x,w9.heap.size=x:=⟨_,rfl⟩
 have pK:sb+1<G9/\m<G9:=by rw[<-hG9];exact⟨bc.lt,bm.lt⟩
 have hB:Below 0 w9 w9:=Below.refl _ _;have Au:=hid hG9;refine gK (oM W0 r d sb m lg pg G9 ma st ah nx R0 D9 S9) 12 Tm [some 69,some 70,some 71,some 72,some 73,some 74,some 68,some 75,some 76,some 77,some 78,none,some 8] [[],[],[],[2],[],[1,3,4],[5],[5,6],[5,6],[0],[9],[7,10]] [0,1,2,3,4,5,6,7,8,9,10,11] [] (by decide) (by kernel_rfl) (by kernel_rfl) rfl (jr W0 r d sb m lg pg G9 ma st ah nx R0 D9 S9) (Un W0 r d sb m lg pg G9 ma st ah nx R0 D9 S9) (Nv W0 r d sb m lg pg G9 ma st ah nx R0 D9 S9 hsg pK zf.out) ?akV ?_
 case akV=>
  intro i hi o ho vs lo eX w' hg hp hdd;have hsz:=hg.size;replace hp:=fun j hj=>(hp j hj).2.2.2
  match i,hi with
  | 0,_|1,_|2,_|4,_|3,_|6,_|9,_|10,_=>
   cases ho;simp only[aA,jr]at hp
   first|simp only[ak,Act.put,aA,hp]|simp only[ak,Act.put,aA]
   try have e0:=(bc.aH hg (by rintro⟨j,_,hne,hb,hw⟩;first|(simp only[oM]at hw;rcases hw with ⟨rfl,hw⟩|⟨rfl,hw⟩<;>first|(have:=hsg _ hw;omega)|exact absurd rfl hne|exact hb (by decide)|omega)|fail)).cell 0 _ rfl
   go_wp2;exact⟨_,rfl,aj.refl _,rfl⟩
  | 5,_=>
   cases ho;simp only[ak,Act.put,aA];have h1:=hp 1 (by simp);have h3:=hp 3 (by simp);have h4:=hp 4 (by simp);simp only[jr]at h1 h3 h4;rw[h1,h3,h4];have hbl:Below w9.heap.size w9 w':=hg.below (fun k hk=>⟨hk,by rintro⟨j,_,hne,hb,hw⟩;simp only[oM]at hw;rcases hw with ⟨rfl,hw⟩|⟨rfl,hw⟩<;>first|exact absurd rfl hne|exact hb (by decide)⟩);have hcall:=abW (akT.out.below hbl) (by rw[akR.out];decide) (2+lg) pg l3 (by rw[akS.out];exact l4) (by rw[aq0.out];exact HZF.out);rw[show(((2+lg:Nat)):Int)=2+(lg:Int) by omega]at hcall;have cO:=hid hcall;clear hcall;go_wp2_with fail;refine cO.out.mono ?_;rintro er y ⟨f,S1,rfl,hr,hf1,hf2,hf3,hf⟩;go_wp2;exact⟨_,rfl,hf.grow.mono (fun b h=>.inl ⟨rfl,h⟩),f,S1,rfl,hr,hf1,hf2,by have:=Au.out;have:=hbl.size;omega,fun k hk=>(hf.new k hk).imp (fun h=>h) (fun h=>by have:=Au.out;have:=hbl.size;omega)⟩
  | 7,_=>
   cases ho;simp only[ak,Act.put,aA];have h5:=hp 5 (by simp);have h6:=hp 6 (by simp);simp only[jr]at h5 h6;obtain⟨f,S1,e5,_⟩:=h5;rw[h6,e5];go_wp2;exact⟨_,rfl,aj.refl _,f,e5,rfl⟩
  | 8,_=>
   cases ho;simp only[ak,Act.put,aA];have h5:=hp 5 (by simp);have h6:=hp 6 (by simp);simp only[jr]at h5 h6;obtain⟨f,S1,e5,_⟩:=h5;rw[h6,e5];go_wp2;exact⟨_,rfl,aj.refl _,rfl⟩
  | 11,_=>
   cases ho;simp only[ak,Act.put,aA];have h7:=hp 7 (by simp);have h10:=hp 10 (by simp);simp only[jr]at h7 h10;rw[h10];have bz:=bs.aH hg (by rintro⟨j,_,hne,hb,hw⟩;simp only[oM]at hw;rcases hw with ⟨rfl,hw⟩|⟨rfl,hw⟩<;>first|(have:=hsg _ hw;omega)|exact absurd rfl hne|exact hb (by decide)|omega);obtain⟨rr,e5,e7⟩:=h7;rw[e7];have cz:=bz.cell 2 _ rfl;have fz:=bz.free;have lz:=bz.lt;go_wp2;exact⟨.bool true,rfl,(aF w' sb 2 _).mono (fun k e=>.inr ⟨rfl,e⟩),by simp only[jr];rw[e7];exact bz.setCell 2 _⟩
  | (q+12),hq=>exact absurd hq (by omega)
 intro vS lo hi w12 hg hp hd;have hP:=fun j hj=>(hp j hj).2.2.2;have h0:=hP 0 (by decide) (by decide);have h1:=hP 1 (by decide) (by decide);have h2:=hP 2 (by decide) (by decide);have h3:=hP 3 (by decide) (by decide);have h4:=hP 4 (by decide) (by decide);have h5:=hP 5 (by decide) (by decide);have h6:=hP 6 (by decide) (by decide);have h7:=hP 7 (by decide) (by decide);have h8:=hP 8 (by decide) (by decide);have h9:=hP 9 (by decide) (by decide);have h10:=hP 10 (by decide) (by decide);have h11:=hP 11 (by decide) (by decide);clear hP;simp only[jr]at h0 h1 h2 h3 h4 h5 h6 h7 h8 h9 h10 h11;clear hp hd;have hsz:=hg.size;replace bc:=bc.aH hg (by rintro⟨j,_,hw⟩;simp only[oM]at hw;rcases hw with ⟨rfl,hw⟩|⟨rfl,hw⟩<;>first|(have:=hsg _ hw;omega)|exact absurd rfl hne|exact hb (by decide)|omega);replace bm:=bm.aH hg (by rintro⟨j,_,hw⟩;simp only[oM]at hw;rcases hw with ⟨rfl,hw⟩|⟨rfl,hw⟩<;>first|(have:=hsg _ hw;omega)|exact absurd rfl hne|exact hb (by decide)|omega);replace hB:=hB.trans (hg.below (fun k hk=>⟨by omega,by rintro⟨j,_,hw⟩;simp only[oM]at hw;rcases hw with ⟨rfl,hw⟩|⟨rfl,hw⟩<;>first|(have:=hsg _ hw;omega)|exact absurd rfl hne|exact hb (by decide)|omega⟩));have hr:List.range 12=[0,1,2,3,4,5,6,7,8,9,10,11]:=rfl;rw[hr];clear hr;simp only[List.drop_succ_cons,List.drop_zero,List.drop_nil,ak,Act.put,aA,h0,h1,h2,h3,h4,h8,h9,h10];clear h0 h1 h2 h3 h4 h8 h9 h10;obtain⟨f,FZ,e5,aeT,aeU,aeV,hfG,yE⟩:=h5;obtain⟨f',e5',e7⟩:=h7;obtain rfl:f=f':=by
  rw[e5]at e5';injection e5' with e5';injection e5' with e5';injection e5' with e5' _;injection e5' with e5';injection e5' with e5';injection e5' with e5'
 rw[e7]at h11;rw[h6,e7,e5];have F12:Hid (aG S FZ w w12):=hid (F9.out.fin hg (fun k hk=>by
  obtain⟨j,_,hw⟩:=hk;simp only[oM]at hw;rcases hw with hw|hw
  ·exact .inl hw.2
  ·exact .inr (by have:=zK.out;omega)) (fun k hk=>(yE k hk).imp (fun h=>h) (fun h=>by have:=zK.out;omega)))
 have vV:jO W0 r d f sb (sb+1) lg (2+lg) pg (⟨D9.reads 1,R0⟩,[.pointer (some ⟨d,0,none⟩),.pointer (some ⟨r,0,none⟩),.pointer (some ⟨f,0,none⟩),.pointer none,.slice none 0 0,.slice none 0 0,.int .i64 ((ma:Nat):Int),.int .i64 ((nx:Nat):Int),.int .i64 0,.bool false,.int .i64 0,.int .i64 0]) (fun k=>FZ k\/k=f\/k=sb\/k=sb+1) w12:=by
  have ns:∀k,FZ k->k≠sb/\k≠sb+1:=fun k hk=>by
   rcases yE k hk with h|h
   ·exact⟨(hsg k h).1,(hsg k h).2.1⟩
   ·omega
  exact⟨FZ,⟨aeT,by show(D9.reads 1).c=[];rw[Dv.Ku];exact akR.out,aeU,h11,rfl,bc,aeV,fun h=>(ns _ h).1 rfl,fun h=>(ns _ h).2 rfl,by omega,by omega,by omega,by have:=zf.out;omega,zf.out,by have:=zf.out;omega,by show _<=(D9.reads 1).l.length;rw[Dv.fM,akS.out];exact l4⟩,rfl⟩
 have hfs:f≠m:=by omega
 have aeW:∀k,(FZ k\/k=f\/k=sb\/k=sb+1)->k≠m:=fun k hk=>by
  rcases hk with hk|rfl|rfl|rfl
  ·rcases yE k hk with h|h
   ·exact(hsg k h).2.2
   ·omega
  ·exact hfs
  ·omega
  ·omega
 have HIO:=hid vV;have ama:=hid bm;have amb:=hid bc;have amc:=hid h11;have Ci:=hid aeW;have hGm:=pK.2;have HFG:=hid hfG;clear e5 e5' e7 h6 h11 aeT aeU aeV yE hg hsz hB bs bc bm vV aeW pK Au hG9 hfs hsg akT;go_wp2_with fail;go_upto_region 15 with (fail);have bs:=amc.out;have bc:=amb.out;have bm:=ama.out;obtain⟨VD,acP⟩:∃x,w12.heap.size=x:=⟨_,rfl⟩
 have BJ:sb+1<VD/\m<VD:=by rw[<-acP];exact⟨bc.lt,bm.lt⟩
 have hB:Below 0 w12 w12:=Below.refl _ _;have Xr:=hid acP;have hpg:pg<=8192:=by omega
 refine gK (oN W0 r d f sb m nf lg pg VD ma st ah nx R0 D9 FZ) 14 Tn [some 83,some 84,some 85,some 86,some 87,some 88,some 89,some 90,some 82,some 91,some 92,some 93,some 94,none,some 8] [[],[],[1],[2],[3],[],[],[4,5,6],[7],[8],[8],[0],[11],[7,8,9,12]] [0,1,2,3,4,5,6,8,9,10,11,12,13] [(7,13)] (by decide) (by kernel_rfl) (by kernel_rfl) rfl (iO W0 r d f sb m nf lg pg VD ma st ah nx R0 D9 FZ) (Uo W0 r d f sb m nf lg pg VD ma st ah nx R0 D9 FZ) (Nw W0 r d f sb m nf lg pg VD ma st ah nx R0 D9 FZ) ?akW ?_
 case akW=>
  intro i hi o ho vs lo eX w' hg hp hdd;have hsz:=hg.size;replace hp:=fun j hj=>(hp j hj).2.2.2
  match i,hi with
  | 0,_|1,_|2,_|3,_|4,_|5,_|6,_|11,_|12,_=>
   cases ho;simp only[aA,iO]at hp
   first|simp only[ak,Act.put,aA,hp]|simp only[ak,Act.put,aA]
   try have e0:=(bc.aH hg (by rintro⟨j,_,hne,hb,hw⟩;simp only[oN]at hw;obtain⟨rfl,hw⟩:=hw;first|exact absurd rfl hne|exact hb (by decide)|omega)).cell 0 _ rfl
   try have e1:=(bs.aH hg (by rintro⟨j,_,hne,hb,hw⟩;simp only[oN]at hw;obtain⟨rfl,hw⟩:=hw;first|exact absurd rfl hne|exact hb (by decide)|omega)).cell 2 _ rfl
   go_wp2;exact⟨_,rfl,aj.refl _,rfl⟩
  | 7,_=>
   cases ho;simp only[ak,Act.put,aA];have h4:=hp 4 (by simp);have h5:=hp 5 (by simp);have h6:=hp 6 (by simp);simp only[iO]at h4 h5 h6;rw[h4,h5,h6];have hbl:Below w12.heap.size w12 w':=hg.below (fun k hk=>⟨hk,by rintro⟨j,_,hne,hb,hw⟩;simp only[oN]at hw;obtain⟨rfl,hw⟩:=hw;first|exact absurd rfl hne|exact hb (by decide)⟩);have vV:=HIO.out.below hbl;have hcall:=abV (n:=nf) (adw (n:=lg) (fr:=2+lg) (r:=r) (d:=d) (f:=f) (sb:=sb) (cv:=sb+1) (W0:=W0) hpg) (S1:=fun _=>False) ⟨vV.bel,rfl⟩ vV (fun _ h=>h.elim) hn1 hn2;have cO:=hid hcall;clear hcall;go_wp2_with fail;refine cO.out.mono ?_;rintro er y ⟨g,S1,rfl,hpv,XG,hsk⟩;go_wp2;exact⟨_,rfl,lT XG,g,S1,rfl,⟨hpv,hpg⟩,fun k hk=>(hsk k hk).imp (fun h=>h.elim (fun h=>h.elim) (fun h=>h)) (fun h=>by have:=Xr.out;have:=hbl.size;omega)⟩
  | 8,_=>
   cases ho;simp only[ak,Act.put,aA];have h7:=hp 7 (by simp);simp only[iO]at h7;obtain⟨g,S1,e7,_⟩:=h7;rw[e7];go_wp2;exact⟨_,rfl,aj.refl _,g,e7,rfl⟩
  | 9,_=>
   cases ho;simp only[ak,Act.put,aA];have h8:=hp 8 (by simp);simp only[iO]at h8;obtain⟨g,_,e8⟩:=h8;rw[e8];go_wp2;exact⟨_,rfl,aj.refl _,g,e8,rfl⟩
  | 10,_=>
   cases ho;simp only[ak,Act.put,aA];have h8:=hp 8 (by simp);simp only[iO]at h8;obtain⟨g,_,e8⟩:=h8;rw[e8];go_wp2;exact⟨_,rfl,aj.refl _,rfl⟩
  | 13,_=>
   cases ho;simp only[ak,Act.put,aA];have h7:=hp 7 (by simp);have h8:=hp 8 (by simp);have h9:=hp 9 (by simp);have h12:=hp 12 (by simp);simp only[iO]at h7 h8 h9 h12;rw[h12];obtain⟨g,S1,e7,hsp,hsk⟩:=h7;obtain⟨g',Ag,e8⟩:=h8;obtain⟨g'',e8',e9⟩:=h9;obtain rfl:g=g':=Kv (e7.symm.trans Ag);obtain rfl:g=g'':=Kv (e8.symm.trans e8');rw[e9];have bz:=hsp.cells.1;have cz:=bz.cell 3 _ rfl;have fz:=bz.free;have lz:=bz.lt;obtain⟨S2,hsp2,hf2⟩:=hsp.Bf 3 (by decide) (.pointer (some ⟨g,0,none⟩));go_wp2;refine⟨.bool true,rfl,(aF w' sb 3 _).mono (fun k e=>⟨rfl,e⟩),?_⟩;simp only[iO];exact⟨g,S2,e9,hsp2,fun k hk=>(hf2.new k hk).elim (hsk k) (fun h=>.inr (by have:=Xr.out;omega))⟩
  | (q+14),hq=>exact absurd hq (by omega)
 intro vS lo hi w15 hg hp hd;have hP:=fun j hj=>(hp j hj).2.2.2;have h0:=hP 0 (by decide) (by decide);have h1:=hP 1 (by decide) (by decide);have h2:=hP 2 (by decide) (by decide);have h3:=hP 3 (by decide) (by decide);have h4:=hP 4 (by decide) (by decide);have h5:=hP 5 (by decide) (by decide);have h6:=hP 6 (by decide) (by decide);have h8:=hP 8 (by decide) (by decide);have h9:=hP 9 (by decide) (by decide);have h10:=hP 10 (by decide) (by decide);have h11:=hP 11 (by decide) (by decide);have h12:=hP 12 (by decide) (by decide);have h13:=hP 13 (by decide) (by decide);clear hP;simp only[iO]at h0 h1 h2 h3 h4 h5 h6 h8 h9 h10 h11 h12 h13;clear hp hd;have hsz:=hg.size;replace bc:=bc.aH hg (by rintro⟨j,_,hw⟩;simp only[oN]at hw;omega);replace bm:=bm.aH hg (by rintro⟨j,_,hw⟩;simp only[oN]at hw;omega);replace hB:=hB.trans (hg.below (fun k hk=>⟨by omega,by rintro⟨j,_,hw⟩;simp only[oN]at hw;omega⟩));have hr:List.range 14=[0,1,2,3,4,5,6,7,8,9,10,11,12,13]:=rfl;rw[hr];clear hr;simp only[List.drop_succ_cons,List.drop_zero,List.drop_nil,ak,Act.put,aA,h0,h1,h2,h3,h4,h5,h6,h10,h11,h12];clear h0 h1 h2 h3 h4 h5 h6 h10 h11 h12;obtain⟨g,S15,e9,aeZ,acQ⟩:=h13;obtain⟨g',e8',MH⟩:=h9;obtain rfl:g=g':=by
  rw[e9]at MH;injection MH with MH;injection MH with MH;injection MH with MH
 obtain⟨g'',e7,e8⟩:=h8;obtain rfl:g=g'':=Kv (e8'.symm.trans e8);rw[e8,e9,e7];have F15:Hid (aG S S15 w w15):=hid (F12.out.fin hg (fun k hk=>by
  obtain⟨j,_,hw⟩:=hk;simp only[oN]at hw;exact .inr (by have:=zK.out;omega)) (fun k hk=>by
   rcases acQ k hk with (h|rfl|rfl|rfl)|h
   ·exact .inl h
   ·exact .inr (by have:=zK.out;have:=HFG.out;omega)
   ·exact .inr (by have:=zK.out;omega)
   ·exact .inr (by have:=zK.out;omega)
   ·exact .inr (by have:=zK.out;omega)))
 have hsv:aP W0 w15 ⟨sb,r,d,f,sb+1,g,nf⟩ (Cf.of L) ⟨⟨D9.reads 1,R0⟩,Pq.new nf,[],[],ma,nx,0,0,0⟩ (.slice none 0 0) (.slice none 0 0) [] [] (fun _=>False) S15:=by
  have e1:Cf.of L=⟨lg,2+lg,pg⟩:=by unfold Cf.of;rw[HLG.out,lN.out]
  rw[e1];exact⟨aeZ,⟨⟨rfl,.inl ⟨rfl,rfl⟩⟩,fun e h=>(by cases h),fun e h=>(by cases h)⟩,rfl,⟨⟨rfl,.inl ⟨rfl,rfl⟩⟩,fun e h=>(by cases h),List.Pairwise.nil,fun e h=>(by cases h)⟩,rfl,fun k h=>h.elim,
   fun k _ h=>(by cases h),fun k _ h=>(by rcases h with h|⟨e,h,_⟩<;>cases h),fun k _ h=>(by rcases h with h|⟨e,h,_⟩<;>cases h),fun k h=>h.elim,fun k h=>h.elim,fun k h=>h.elim⟩
 have sF:=hid hsv;have hmS:¬S15 m:=fun h=>by
  rcases acQ m h with h|h
  ·exact Ci.out m h rfl
  ·omega
 have aud:=hid hmS;rw[<-HD9.out]at hsv;have hrs:=aqW.out _ w15 S15 q9 HQ9.out rfl hsv;have nP:=hid hrs;have c1:=bc.cell 0 _ rfl;have c2:=bm.cell 2 _ rfl;have Qq:=bc.lt;have Sr:=bm.lt;clear e9 MH e7 e8 e8' aeZ acQ hg hsz hB bs bc bm BJ acP hsv hmS hrs;go_wp2_with fail;refine nP.out.mono ?_;rintro er y9 ⟨rfl,σ16,aq5,aq6,K16,S16,acR,akX,aq7⟩;have aq8:=hid aq7;obtain⟨_,_,d3,_,_⟩:=acR.sp.cells;have d1:=d3.cell 0 _ rfl;have mg:=d3.lt;have aq9:=hid acR;have ara:=hid akX;clear acR akX d3 c1 c2 Qq Sr;go_wp2_with fail;go_ret2;have FF:aG S (aO S15 (.slice none 0 0) (.slice none 0 0) [] (fun _=>False)) w w15:=⟨F15.out.grow,fun k hk=>by
  rcases hk with hk|hk|hk|hk
  ·exact F15.out.new k hk
  ·cases hk
  ·rcases hk with hk|⟨e,hk,_⟩<;>cases hk
  ·exact hk.elim⟩
 exact⟨⟨sb,r,d,f,sb+1,g,nf⟩,_,σ16,rfl,rfl,rfl,⟨aq5,_,aq6,[],K16,S16,aq9.out,rfl⟩,aq8.out,FF.trans ara.out⟩
end
end
end Go.Proofs.YtpajagkhmodbnaaGreat

/- Pr: texts of the store seat laid together by program: PartsK DvKit. Conditions: each theorem names its own. -/
import Derived.Test.YtpajagkhmodbnaaGreatPr3
import Derived.Test.YtpajagkhmodbnaaGreatPr2
namespace Go.Proofs.YtpajagkhmodbnaaGreat
set_option linter.unusedSimpArgs false
set_option linter.unusedVariables false
section
open Go.RowKit
abbrev NZ(X:Nat->Prop):=xH (aj X)
theorem aj.all(W:Nat->Nat->Prop):VH (fun p=>aj (fun b=>∃j,p j/\W j b)) (fun j=>aj (W j)):=
 ⟨fun _ _=>aj.refl _,aj.trans,fun h hg=>hg.mono fun b ⟨j,a,hw⟩=>⟨j,h j a,hw⟩,aj.size,fun h=>h.mono fun b hw=>⟨_,rfl,hw⟩,fun h=>⟨h.os,h.tape,h.output,h.size,h.block⟩⟩
theorem Fp(W:Nat->Nat->Prop){P:Program}{id:Nat}{l:List Oper}{Q:Exit->Act->World->Prop}{a:Act}{w:World}(N:Nat)(bs:List (List Nat))(ds:List (Option Tmp))(ne:List (List Nat))(tl:List Nat)(ex:List (Nat×Nat))(hX:YB N bs ne tl ex=true)(hm:P.follows .mixedOrders=true)(hB:xE l N bs=true)
  (hds:l.map (·.dst)=ds) (Post:Nat->Value->Nat->Nat->World->Prop) (stable:∀i j,i<N->j<N->j≠i->j∉bs.getD i []->(i,j)∉ex->∀v lo hi w w',Post i v lo hi w->aj (W j) w w'->Post i v lo hi w')
  (parts:∀i,i<N->∀o,l[i]? = some o->∀(vs:Nat->Value)(lo hi:Nat->Nat)(w':World),aj (fun b=>∃j,j<N/\j≠i/\i∉bs.getD j []/\W j b) w w'->(∀j∈ne.getD i [],w.heap.size<=lo j/\lo j<=hi j/\hi j<=w'.heap.size/\Post j (vs j) (lo j) (hi j) w')->
   wpList P l.toArray (NZ (W i) (ak ds vs (bs.getD i []) a) o.dst w' (Post i)) [o] (ak ds vs (bs.getD i []) a) w')
  (tail:∀(vs:Nat->Value)(lo hi:Nat->Nat)(w':World),aj (fun b=>∃j,j<N/\W j b) w w'->(∀j,j<N->w.heap.size<=lo j/\lo j<=hi j/\hi j<=w'.heap.size/\(j∈tl->Post j (vs j) (lo j) (hi j) w'))->(∀i j,i<N->j<N->i≠j->hi i<=lo j\/hi j<=lo i)->
   wpList P l.toArray Q (l.drop N) (ak ds vs (List.range N) a) w'):
  (Code.region id l.toArray true).wp P Q a w:=by
 exact mG (aj.all W) N bs ds (fun k j=>j∈ne.getD k []) (fun j=>j∈tl) (fun i j=>(i,j)∈ex) (qR hX).1 (qR hX).2 hm hB hds (fun i _ _ _=>Post i) (fun _ _ _ _ _ _ _ _ _ _ _ _ _ h=>h) (fun i j hi hj a b c _ _ _=>stable i j hi hj a b c)
  (fun i hi o ho vs lo h w' hg hp _=>parts i hi o ho vs lo h w' (hg.mono fun b ⟨j,⟨a,b,c⟩,hw⟩=>⟨j,a,b,c,hw⟩) hp)
  tail
end
section
open Go.RowKit
theorem aj.step{X Y:Nat->Prop}{a b c:World}(h:aj X a b)(k:aj Y b c)(hY:∀q,q<a.heap.size->Y q->X q):aj X a c:=
 ⟨k.os.trans h.os,k.tape.trans h.tape,k.output.trans h.output,Nat.le_trans h.size k.size,fun i hi hx=>(k.block i (Nat.lt_of_lt_of_le hi h.size) (fun y=>hx (hY i hi y))).trans (h.block i hi hx)⟩
theorem Box.aH{X:Nat->Prop}{w w':World}{g:Nat}{vs:List Value}(h:Box w g vs)(hg:aj X w w')(hX:¬X g):Box w' g vs:=by
 have hb:w'.heap[g]? = w.heap[g]? := hg.block g h.lt hX;refine⟨Nat.lt_of_lt_of_le h.lt hg.size,fun i v hi=>?_,fun o=>?_⟩
 ·rw[<-h.cell i v hi];exact World.cell?_of_block (w:=w) hb
 ·rw[<-h.free o];exact World.frozen?_of_block (w:=w) hb
theorem aC{X:Nat->Prop}{w w':World}(h:Below w.heap.size w w'):aj X w w':=⟨h.os,h.tape,h.output,h.size,fun k hk _=>h.block k hk⟩
structure aG(S S':Nat->Prop)(w w':World):Prop where
 grow:aj S w w'
 new:∀k,S' k->S k\/w.heap.size<=k
theorem aG.below{S:Nat->Prop}{w w':World}(h:aj (fun _=>False) w w'):aG S S w w':=⟨h.mono (fun _ h=>h.elim),fun k h=>.inl h⟩
theorem aG.trans{S S' S'':Nat->Prop}{a b c:World}(h:aG S S' a b)(k:aG S' S'' b c):aG S S'' a c:=
 ⟨h.grow.step k.grow (fun q hq hs=>(h.new q hs).elim (fun h=>h) (fun h=>by omega)),fun q hs=>(k.new q hs).elim (fun hs=>h.new q hs) (fun h2=>.inr (Nat.le_trans h.grow.size h2))⟩
def dA(S R:Nat->Prop):Prop:=∀k,S k->R k->False
theorem aG.JE{S S' R:Nat->Prop}{w w':World}(h:aG S S' w w')(hd:dA S R)(hR:∀k,R k->k<w.heap.size):dA S' R:=
 fun k hs hr=>(h.new k hs).elim (fun hs=>hd k hs hr) (fun h2=>by have:=hR k hr;omega)
theorem dA.symm{S R:Nat->Prop}(h:dA S R):dA R S:=fun k a b=>h k b a
def dB:List UInt8:=List.replicate 128 0
def kX(s:List UInt8):List UInt8:=if s=[] then dB else s
structure Dv where
 l:List (List UInt8)
 c:List (Nat×List UInt8)
 fuse:Int
 dead:Bool
 calls:Int
def kK(i:Nat)(c:List (Nat×List UInt8))(b:List UInt8):List UInt8:=c.foldl (fun b x=>if x.1=i then x.2 else b) b
def Dv.sec(D:Dv)(i:Nat):List UInt8:=kK i D.c (kX (D.l.getD i []))
structure Dv.ok(D:Dv):Prop where
 l:∀s∈D.l,s=[]\/s.length=128
 c:∀x∈D.c,x.1<D.l.length/\x.2.length=128
 n:D.l.length<=8192
 f1 : -1<=D.fuse
 f2:D.fuse<=9223372036854775807
def iw(n:Int):Int:=wrap64 (n+1)
def Dv.bJ(D:Dv):Bool×Dv:=
 if D.fuse=0 then(false,{ D with dead:=true })else
 if 0<D.fuse then(true,{ D with fuse:=D.fuse-1,calls:=iw D.calls })else(true,{ D with calls:=iw D.calls })
abbrev Se:=List UInt8×Value
abbrev Ce:=Nat×List UInt8×Value
def wB(E:List Ce):List Value:=E.flatMap fun e=>[.int .i64 (e.1:Int),e.2.2]
theorem TB(E F:List Ce):wB (E++F)=wB E++wB F:=by simp[wB]
theorem ae7(E:List Ce)(k:Nat)(e:Ce)(h:E[k]? = some e):(wB E)[k*2]? = some (.int .i64 (e.1:Int))/\(wB E)[k*2+1]? = some e.2.2:=by
 induction E generalizing k with
 | nil=>simp at h
 | cons a r ih=>
  cases k with
  | zero=>simp at h;subst h;exact⟨rfl,rfl⟩
  | succ k=>
   have:=ih k (by simpa using h);simp only[wB,List.flatMap_cons]at *;rw[Nat.succ_mul];refine⟨?_,?_⟩
   ·rw[List.getElem?_append_right (by simp)];simpa using this.1
   ·rw[List.getElem?_append_right (by simp)];have e:k*2+2+1 - [Value.int .i64 (a.1:Int),a.2.2].length=k*2+1:=by simp
    rw[e];exact this.2
def bH(w:World)(K:Nat->Prop)(b:List UInt8)(v:Value):Prop:=Reads 1 w v b.length (b.map B)/\∀q,v.ownBlock=some q->K q
structure iJ(w:World)(G d:Nat)(D:Dv)(vl vc:Value)(EL:List Se)(EC:List Ce)(K:Nat->Prop):Prop where
 box:Box w d [vl,vc,.int .i64 D.fuse,.bool D.dead,.int .i64 D.calls]
 nH:w.ownsRow G 48 1 vl EL.length (EL.map (·.2))
 pO:w.ownsRow G 130 2 vc EC.length (wB EC)
 lZ:D.l=EL.map (·.1)
 wK:D.c=EC.map fun e=>(e.1,e.2.1)
 N7:∀e∈EL,bH w K e.1 e.2
 ctx:∀e∈EC,bH w K e.2.1 e.2.2
 kin:∀k,K k->G<=k/\k<w.heap.size
 kd:¬K d
 kl:∀q,vl.ownBlock=some q->¬K q/\q≠d/\¬vc.ownBlock=some q
 kc:∀q,vc.ownBlock=some q->¬K q/\q≠d
 ok:D.ok
theorem bH.grow{X K:Nat->Prop}{w w':World}{b:List UInt8}{v:Value}(h:bH w K b v)(hg:aj X w w')(hX:∀k,K k->¬X k):bH w' K b v:=by
 refine⟨?_,h.2⟩;obtain⟨ao,c,e,hl,hc,hr⟩:=h.1;refine⟨ao,c,e,hl,hc,fun hn=>?_⟩;obtain⟨q,o,e2,hq,hcell⟩:=hr hn;subst e2;refine⟨q,o,rfl,Nat.lt_of_lt_of_le hq hg.size,fun j u hu=>?_⟩;have hk:¬X q:=hX q (h.2 q (by rw[e];rfl));have:=hcell j u hu;have hb:=hg.block q hq hk;simp only[World.cell?]at *;rw[hb];exact this
theorem iJ.put{w w':World}{G d:Nat}{D D':Dv}{vl vc:Value}{EL:List Se}{EC:List Ce}{K:Nat->Prop}(h:iJ w G d D vl vc EL EC K)
  (hb:Box w' d [vl,vc,.int .i64 D'.fuse,.bool D'.dead,.int .i64 D'.calls]) (hg:aj (fun k=>k=d) w w') (hl:D'.l=D.l) (hc:D'.c=D.c) (hok:D'.ok):iJ w' G d D' vl vc EL EC K:=
 ⟨hb,aI h.nH hg (fun q e=>(h.kl q e).2.1),aI h.pO hg (fun q e=>(h.kc q e).2),hl.trans h.lZ,hc.trans h.wK,
  fun e he=>(h.N7 e he).grow hg (fun k hk e=>h.kd (e▸hk)),fun e he=>(h.ctx e he).grow hg (fun k hk e=>h.kd (e▸hk)),
  fun k hk=>⟨(h.kin k hk).1,Nat.lt_of_lt_of_le (h.kin k hk).2 hg.size⟩,h.kd,h.kl,h.kc,hok⟩
theorem iJ.grow{X:Nat->Prop}{w w':World}{G d:Nat}{D:Dv}{vl vc:Value}{EL:List Se}{EC:List Ce}{K:Nat->Prop}(h:iJ w G d D vl vc EL EC K)
  (hg:aj X w w') (h1:¬X d) (h2:∀q,vl.ownBlock=some q->¬X q) (h3:∀q,vc.ownBlock=some q->¬X q) (h4:∀q,K q->¬X q):iJ w' G d D vl vc EL EC K:=
 ⟨h.box.aH hg h1,aI h.nH hg h2,aI h.pO hg h3,h.lZ,h.wK,fun e he=>(h.N7 e he).grow hg h4,fun e he=>(h.ctx e he).grow hg h4,
  fun k hk=>⟨(h.kin k hk).1,Nat.lt_of_lt_of_le (h.kin k hk).2 hg.size⟩,h.kd,h.kl,h.kc,h.ok⟩
def DV(W0:World)(d:Nat)(D:Dv)(S:Nat->Prop)(w:World):Prop:=
 ∃vl vc EL EC K,iJ w W0.heap.size d D vl vc EL EC K/\W0.heap.size<=d/\Below W0.heap.size W0 w/\S=fun k=>k=d\/vl.ownBlock=some k\/vc.ownBlock=some k\/K k
theorem DV.bel{W0 w:World}{d:Nat}{D:Dv}{S:Nat->Prop}(h:DV W0 d D S w):Below W0.heap.size W0 w:=by obtain⟨_,_,_,_,_,_,_,h,_⟩:=h;exact h
theorem DV.ok{W0 w:World}{d:Nat}{D:Dv}{S:Nat->Prop}(h:DV W0 d D S w):D.ok:=by obtain⟨_,_,_,_,_,h,_⟩:=h;exact h.ok
theorem DV.lt{W0 w:World}{d:Nat}{D:Dv}{S:Nat->Prop}(h:DV W0 d D S w):∀k,S k->W0.heap.size<=k/\k<w.heap.size:=by
 obtain⟨vl,vc,EL,EC,K,h1,h2,h3,rfl⟩:=h;rintro k (rfl|h|h|h)
 ·exact⟨h2,h1.box.lt⟩
 ·exact h1.nH.lt k h
 ·exact h1.pO.lt k h
 ·exact h1.kin k h
theorem DV.grow{W0 w w':World}{d:Nat}{D:Dv}{S X:Nat->Prop}(h:DV W0 d D S w)(hg:aj X w w')(hX:dA S X)(hB:Below W0.heap.size W0 w'):DV W0 d D S w':=by
 obtain⟨vl,vc,EL,EC,K,h1,h2,h3,rfl⟩:=h;exact⟨vl,vc,EL,EC,K,h1.grow hg (fun h=>hX d (.inl rfl) h) (fun q e h=>hX q (.inr (.inl e)) h) (fun q e h=>hX q (.inr (.inr (.inl e))) h) (fun q e h=>hX q (.inr (.inr (.inr e))) h),h2,hB,rfl⟩
theorem DV.below{W0 w w':World}{d:Nat}{D:Dv}{S:Nat->Prop}(h:DV W0 d D S w)(hb:Below w.heap.size w w'):DV W0 d D S w':=
 h.grow (X:=fun _=>False) (aC hb) (fun _ _ h=>h) (h.bel.trans (hb.mono h.bel.size))
end
end Go.Proofs.YtpajagkhmodbnaaGreat

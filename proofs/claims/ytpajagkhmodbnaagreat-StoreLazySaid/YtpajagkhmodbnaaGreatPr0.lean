/- Pr: texts of the store seat laid together by program: Kit. Conditions: each theorem names its own. -/
import Derived.WalkKit
import Derived.Lib.Hide
import Derived.Deep.QuietTactic
import Derived.BigQuiet
import Derived.Outline
import Derived.Laws.IdiomStrings
import Derived.Laws.BytesArg
import Derived.WalkMore
import Derived.ScopeJumps
namespace Go.Proofs.YtpajagkhmodbnaaGreat
set_option linter.unusedSimpArgs false
set_option linter.unusedVariables false
section
theorem aA:(∀{α:Type}(x d:α)(l:List α),(x::l).getD 0 d=x)/\(∀{α:Type}(x d:α)(l:List α)(n:Nat),(x::l).getD (n+1) d=l.getD n d)/\(∀{α β:Type}(f:β->α->β)(b:β)(x:α)(l:List α),(x::l).foldl f b=l.foldl f (f b x))/\(∀{α β:Type}(f:β->α->β)(b:β),([]:List α).foldl f b=b)/\
 (∀{α:Type}(l:List α)(i:Nat)(x:α),l.toArray.setIfInBounds i x=(l.set i x).toArray)/\(∀{α:Type}(x a:α)(l:List α)(n:Nat),(x::l).set (n+1) a=x::l.set n a)/\(∀{α:Type}(x a:α)(l:List α),(x::l).set 0 a=a::l)/\(∀{α:Type}(p:α->Prop),(∀x∈([]:List α),p x)↔True)/\(∀{α:Type}(p:α->Prop)(a:α)(l:List α),(∀x∈a::l,p x)↔p a/\∀x∈l,p x):=
 ⟨fun _ _ _=>rfl,fun _ _ _ _=>rfl,fun _ _ _ _=>rfl,fun _ _=>rfl,fun _ _ _=>List.setIfInBounds_toArray ..,fun _ _ _ _=>rfl,fun _ _ _=>rfl,fun _=>by simp,fun _ _ _=>List.forall_mem_cons⟩
open Go.RowKit
def B(c:UInt8):Value:=.int .u8 (c.toNat:Int)
theorem eU(l:List UInt8):∀u∈l.map B,u.oneCell'=true:=by
 intro u hu;obtain⟨c,_,rfl⟩:=List.mem_map.1 hu;rfl
theorem rO{a b:Value}(h:a=b):Ending.returned a=.returned b:=by rw[h]
theorem Yy{w:World}{base T g n cap:Nat}{xs:List Value}(h:w.ownsRow base T 1 (.slice (some ⟨g,0,none⟩) n cap) n xs):
  ∀j u,xs[j]? = some u->w.cell? ((⟨g,0,none⟩:Addr).add j)=some u:=h.cells (g:=g) rfl
theorem dh{w:World}{base T K g n cap:Nat}{xs:List Value}(h:w.ownsRow base T K (.slice (some ⟨g,0,none⟩) n cap) n xs):
  ∀j u,xs[j]? = some u->w.cell? ((⟨g,0,none⟩:Addr).add j)=some u:=h.cells (g:=g) rfl
theorem AU{w:World}{base T K n:Nat}{v:Value}{xs:List Value}(h:w.ownsRow base T K v n xs)(hv:¬v=.slice none 0 0):
  ∃g cap,v=.slice (some ⟨g,0,none⟩) n cap/\base<=g/\g<w.heap.size/\n<=cap/\cap<=maxLen:=by
 rcases h.2 with ⟨h',_⟩|⟨g,cap,cur,h',hb,hg,hnc,hcm,_⟩
 ·exact absurd h' hv
 ·exact⟨g,cap,h',hb,(Array.getElem?_eq_some_iff.1 hg).1,hnc,hcm⟩
theorem own_base{w:World}{base base' T K n:Nat}{v:Value}{xs:List Value}(h:w.ownsRow base T K v n xs)(hb:base'<=base):w.ownsRow base' T K v n xs:=by
 refine⟨h.1,?_⟩;rcases h.2 with h'|⟨g,cap,cur,h',hb',r⟩
 ·exact .inl h'
 ·exact .inr ⟨g,cap,cur,h',by omega,r⟩
theorem own_below{w w':World}{B0 base T K n:Nat}{v:Value}{xs:List Value}(h:w.ownsRow base T K v n xs)(hb:Below B0 w w')(hB:∀g,v.ownBlock=some g->g<B0):w'.ownsRow base T K v n xs:=by
 refine⟨h.1,?_⟩;rcases h.2 with h'|⟨g,cap,cur,rfl,hb',hg,r⟩
 ·exact .inl h'
 ·exact .inr ⟨g,cap,cur,rfl,hb',by rw[hb.block g (hB g rfl)];exact hg,r⟩
structure SliceOf(P:Program)(t e:TypeId)(z:Value)(size bytes:Nat):Prop where
 und:P.underlying t=some (.slice e)
 info:(P.info? e).map (fun i=>(i.zero,i.size,i.bytes))=some (some z,size,bytes)
 cells:z.cells.size=size
 pos:0<size
theorem MO{P:Program}{a:Act}{w:World}{Q:Exit->Act->World->Prop}{r1 r2 R:Code}(l:Nat)(J:Act->World->Prop)(μ:Act->World->Nat)
  (hf:findLabel (r1.seq (r2.seq ((Code.label l).seq R))) l=some (Code.skip.seq R))
  (first:r1.wp P (Exit.then (fun a w=>r2.wp P (Exit.then J (fun _ _ _=>False)) a w) (fun _ _ _=>False)) a w)
  (pass:∀a w,J a w->R.wp P (Exit.jump l (fun a' w'=>J a' w'/\μ a' w'<μ a w) Q) a w):
  (Code.scope (r1.seq (r2.seq ((Code.label l).seq R)))).wp P Q a w:=by
 have weak:∀(K:Act->World->Prop) e a w,Exit.jump l (fun a' w'=>J a' w'/\K a' w') Q e a w->Exit.jump l J Q e a w:=by
  intro K e a w h;cases e with
  | goto l'=>exact⟨h.1,h.2.1⟩
  | _=>exact h
 refine wp_scope_jumps l J μ hf ?_ (fun a w hJ=>wp_seq (wp_skip (pass a w hJ)));refine wp_seq (wp_mono first ?_);intro e a w h;cases e with
 | normal=>
  refine wp_seq (wp_mono h ?_);intro e a w h;cases e with
  | normal=>exact wp_seq (wp_label (wp_mono (pass a w h) (weak _)))
  | _=>exact h.elim
 | _=>exact h.elim
theorem jW{B0:Nat}{a w:World}(h:Below B0 a w)(n:Nat):Below B0 a (w.drewN n):=h.trans ⟨rfl,rfl,rfl,Nat.le_refl _,fun _ _=>rfl⟩
def Reads(K:Nat)(w:World)(v:Value)(n:Nat)(xs:List Value):Prop:=
 ∃ao cap,v=.slice ao n cap/\xs.length=n*K/\n<=cap/\
  (0<n->∃b off,ao=some ⟨b,off,none⟩/\b<w.heap.size/\∀j u,xs[j]? = some u->w.cell? ⟨b,off+j,none⟩=some u)
theorem Reads.aY{w:World}{base e K n:Nat}{v:Value}{xs:List Value}(h:w.ownsRow base e K v n xs):Reads K w v n xs:=by
 rcases h.2 with ⟨rfl,rfl⟩|⟨g,cap,cur,rfl,hb,hg,hnc,hcm,hcs,ht⟩
 ·exact⟨none,0,rfl,h.1,Nat.le_refl _,fun h=>absurd h (by omega)⟩
 ·refine⟨_,cap,rfl,h.1,hnc,fun _=>⟨g,0,rfl,(Array.getElem?_eq_some_iff.1 hg).1,fun j u hu=>?_⟩⟩;have:=dh h j u hu;rw[Addr.add_lit]at this;exact this
theorem Reads.cut{w:World}{K n c c':Nat}{ao:Option Addr}{xs:List Value}(h:Reads K w (.slice ao n c) n xs)(hc:n<=c'):Reads K w (.slice ao n c') n xs:=by
 obtain⟨ao',cap,he,hl,_,hr⟩:=h;injection he with h1 _ _;subst h1;exact⟨ao,c',rfl,hl,hc,hr⟩
theorem Reads.below{K n B0:Nat}{w w':World}{v:Value}{xs:List Value}(h:Reads K w v n xs)(hb:Below B0 w w')(hB:w.heap.size<=B0):Reads K w' v n xs:=by
 obtain⟨ao,cap,rfl,hl,hc,hr⟩:=h;refine⟨ao,cap,rfl,hl,hc,fun hn=>?_⟩;obtain⟨b,off,rfl,hlt,hcell⟩:=hr hn;have hs:=hb.size;exact⟨b,off,rfl,by omega,fun j u hu=>(hb.cell (p:=⟨b,off+j,none⟩) (by show b<B0;omega)).trans (hcell j u hu)⟩
structure vC(g:Nat)(w W:World):Prop where
 os:W.os=w.os
 tape:W.tape=w.tape
 output:W.output=w.output
 size:W.heap.size=w.heap.size
 block:∀k,k≠g->W.heap[k]? = w.heap[k]?
theorem vC.below{g B0:Nat}{w W:World}(h:vC g w W)(hB:B0<=g):Below B0 w W:=
 ⟨h.os,h.tape,h.output,by rw[h.size];exact Nat.le_refl _,fun k hk=>h.block k (by omega)⟩
theorem vC.setCell{g i:Nat}(w:World)(v:Value):vC g w (w.setCell ⟨g,i,none⟩ v):=
 ⟨rfl,rfl,rfl,by simp[World.setCell],fun k hk=>Below.heap_setCell _ _ _ _ hk⟩
theorem vC.trans{g:Nat}{a b c:World}(h:vC g a b)(k:vC g b c):vC g a c:=
 ⟨k.os.trans h.os,k.tape.trans h.tape,k.output.trans h.output,k.size.trans h.size,fun i hi=>(k.block i hi).trans (h.block i hi)⟩
theorem Fq{w:World}{g i T:Nat}{cur:Array Value}(h:w.heap[g]? = some (.cells cur T (0,0)))(v:Value):(w.setCell ⟨g,i,none⟩ v).heap[g]? = some (.cells (cur.setIfInBounds i v) T (0,0)):=
 heap_setCell_same w g i cur T v h
theorem lJ{w:World}{g T:Nat}{cur:Array Value}(h:w.heap[g]? = some (.cells cur T (0,0)))(i:Nat):w.frozen? ⟨g,i,none⟩=false:=
 frozen_of_row w g i cur T h
theorem Reads.gG{w:World}{K n cap:Nat}{ao:Option Addr}{xs:List Value}(h:Reads K w (.slice ao n cap) n xs)(hn:0<n):
  n<=cap/\xs.length=n*K/\∃b off,ao=some ⟨b,off,none⟩/\b<w.heap.size/\∀j u,xs[j]? = some u->w.cell? ⟨b,off+j,none⟩=some u:=by
 obtain⟨ao',cap',he,hl,hle,hr⟩:=h;injection he with h1 _ h3;subst h1 h3;exact⟨hle,hl,hr hn⟩
end
end Go.Proofs.YtpajagkhmodbnaaGreat

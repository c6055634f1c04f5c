/- Pk: texts of the store seat laid together by program: Kit. Conditions: each theorem names its own. -/
import Derived.WalkKit
import Derived.Lib.Hide
import Derived.Deep.QuietTactic
import Derived.BigQuiet
import Derived.Outline
import Derived.Laws.IdiomStrings
import Derived.Laws.BytesArg
import Derived.WalkMore
import Derived.ScopeJumps
namespace Go.Proofs.YtpajagkhmodbnaaGreat
set_option linter.unusedSimpArgs false
set_option linter.unusedVariables false
section
theorem actL:(∀{α:Type}(x d:α)(l:List α),(x::l).getD 0 d=x)∧(∀{α:Type}(x d:α)(l:List α)(n:Nat),(x::l).getD (n+1) d=l.getD n d)∧(∀{α β:Type}(f:β→α→β)(b:β)(x:α)(l:List α),(x::l).foldl f b=l.foldl f (f b x))∧(∀{α β:Type}(f:β→α→β)(b:β),([]:List α).foldl f b=b)∧
 (∀{α:Type}(l:List α)(i:Nat)(x:α),l.toArray.setIfInBounds i x=(l.set i x).toArray)∧(∀{α:Type}(x a:α)(l:List α)(n:Nat),(x::l).set (n+1) a=x::l.set n a)∧(∀{α:Type}(x a:α)(l:List α),(x::l).set 0 a=a::l):=
 ⟨fun _ _ _=>rfl,fun _ _ _ _=>rfl,fun _ _ _ _=>rfl,fun _ _=>rfl,fun _ _ _=>List.setIfInBounds_toArray ..,fun _ _ _ _=>rfl,fun _ _ _=>rfl⟩
open Go.RowKit
def B(c:UInt8):Value:=.int .u8 (c.toNat:Int)
theorem B_one(c:UInt8):(B c).oneCell'=true:=rfl
theorem Bs_one(l:List UInt8):∀u∈l.map B,u.oneCell'=true:=by
  intro u hu;obtain⟨c,_,rfl⟩:=List.mem_map.1 hu;rfl
theorem ret_v{a b:Value}(h:a=b):Ending.returned a=.returned b:=by rw[h]
theorem own_lit{w1:World}{base g T n:Nat}{arr:Array Value}{l:List Value}(hg:g=w1.heap.size)(hb:base≤g)(hn:arr.size=n)(hl:arr.toList=l)(hm:n≤4611686018427387904):
    (w1.alloc (.cells arr T)).ownsRow base T 1 (.slice (some ⟨g,0,none⟩) n n) n l:=by
  subst hg;subst hl
  exact World.ownsRow_lit (size:=1) w1 arr n hb (by unfold maxLen;omega) (by omega)
theorem own_cells{w:World}{base T g n cap:Nat}{xs:List Value}(h:w.ownsRow base T 1 (.slice (some ⟨g,0,none⟩) n cap) n xs):
    ∀j u,xs[j]? = some u→w.cell? ((⟨g,0,none⟩:Addr).add j)=some u:=h.cells (g:=g) rfl
theorem own_cellsK{w:World}{base T K g n cap:Nat}{xs:List Value}(h:w.ownsRow base T K (.slice (some ⟨g,0,none⟩) n cap) n xs):
    ∀j u,xs[j]? = some u→w.cell? ((⟨g,0,none⟩:Addr).add j)=some u:=h.cells (g:=g) rfl
theorem own_some{w:World}{base T K n:Nat}{v:Value}{xs:List Value}(h:w.ownsRow base T K v n xs)(hv:¬v=.slice none 0 0):
    ∃g cap,v=.slice (some ⟨g,0,none⟩) n cap∧base≤g∧g<w.heap.size∧n≤cap∧cap≤maxLen:=by
  rcases h.2 with ⟨h',_⟩|⟨g,cap,cur,h',hb,hg,hnc,hcm,_⟩
  · exact absurd h' hv
  · exact⟨g,cap,h',hb,(Array.getElem?_eq_some_iff.1 hg).1,hnc,hcm⟩
theorem own_base{w:World}{base base' T K n:Nat}{v:Value}{xs:List Value}(h:w.ownsRow base T K v n xs)(hb:base'≤base):w.ownsRow base' T K v n xs:=by
  refine⟨h.1,?_⟩
  rcases h.2 with h'|⟨g,cap,cur,h',hb',r⟩
  · exact .inl h'
  · exact .inr ⟨g,cap,cur,h',by omega,r⟩
theorem own_below{w w':World}{B0 base T K n:Nat}{v:Value}{xs:List Value}(h:w.ownsRow base T K v n xs)(hb:Below B0 w w')(hB:∀g,v.ownBlock=some g→g<B0):w'.ownsRow base T K v n xs:=by
  refine⟨h.1,?_⟩
  rcases h.2 with h'|⟨g,cap,cur,rfl,hb',hg,r⟩
  · exact .inl h'
  · exact .inr ⟨g,cap,cur,rfl,hb',by rw[hb.block g (hB g rfl)];exact hg,r⟩
theorem bcell{W w1:World}(hb:Below W.heap.size W w1):(∀b o,b<W.heap.size→w1.cell? ⟨b,o,none⟩=W.cell? ⟨b,o,none⟩)∧(∀b o,b<W.heap.size→w1.frozen? ⟨b,o,none⟩=W.frozen? ⟨b,o,none⟩):=
  ⟨fun b o h=>hb.cell (p:=⟨b,o,none⟩) h,fun b o h=>hb.frozen (p:=⟨b,o,none⟩) h⟩
def RetRow(T K base:Nat)(w:World)(e:Ending)(w':World)(xs:List Value):Prop:=
  ∃g n cap,e=.returned (.slice (some ⟨g,0,none⟩) n cap)∧w'.ownsRow base T K (.slice (some ⟨g,0,none⟩) n cap) n xs∧Below base w w'
structure SliceOf(P:Program)(t e:TypeId)(z:Value)(size bytes:Nat):Prop where
  und:P.underlying t=some (.slice e)
  info:(P.info? e).map (fun i=>(i.zero,i.size,i.bytes))=some (some z,size,bytes)
  cells:z.cells.size=size
  pos:0<size
theorem wpList_append_row{P:Program}{w:World}{ops:Array Oper}{rest:List Oper}{o:Oper}{a:Act}{Q:Exit→Act→World→Prop}
    {t e:TypeId} {z:Value} {size bytes:Nat} (T:SliceOf P t e z size bytes) (s x:Operand) (hgd:o.guard=none)
    (ho:o.op=.call { callee:=.builtin .append,args:=#[s,x],argTypes:=#[t,t] })
    {base:Nat} {W0:World} {v:Value} {n:Nat} {xs:List Value} (hs:a.eval s=v) (hown:w.ownsRow base e size v n xs) (hbel:Below base W0 w)
    {ad:Addr} {m c:Nat} {news:List Value} (hx:a.eval x=.slice (some ad) m c) (hl:news.length=m*size) (hnews:∀j u,news[j]? = some u→w.cell? (ad.add j)=some u) (h1:∀u∈news,u.oneCell'=true)
    (h63:n+m≤1152921504606846976) (hbytes:(n+m)*bytes≤140737488355328) (hbase:base≤w.heap.size) (hpos:0<n+m)
    (h:∀g cap w',w'.ownsRow base e size (.slice (some ⟨g,0,none⟩) (n+m) cap) (n+m) (xs++news)→Below base W0 w'→base≤g→g<w'.heap.size→n+m≤cap→
      wpList P ops Q rest (a.put o.dst (.slice (some ⟨g,0,none⟩) (n+m) cap)) w'):wpList P ops Q (o::rest) a w:=by
  obtain⟨i,hi,hz0,hz1,hz2⟩:=info_parts T.info
  refine wpList_append_own w hgd s x t ho base e i z size bytes T.und hi hz0 hz1 hz2 T.cells T.pos v n xs hs hown ad m c news hx hl hnews h1 (by unfold maxLen;omega) hbytes hbase ?_
  intro v' w' hown' hgrow hiff
  obtain⟨g,cap,rfl,hb,hlt,hnc,hcm⟩:=own_some hown' (fun e=>by
    obtain⟨rfl,rfl⟩:=hiff.1 e
    have:=hown.1
    rcases hown.2 with ⟨_,h0⟩|⟨g,cap,cur,h',_⟩
    · omega
    · simp at h')
  exact h g cap w' hown' (hbel.grown hgrow hbase (fun k hk=>(hown.lt k hk).1)) hb hlt hnc
theorem wpList_app{P:Program}{wr:World}{ops:Array Oper}{rest:List Oper}{o:Oper}{a:Act}{Q:Exit→Act→World→Prop}
    {t e:TypeId} {z:Value} {size bytes:Nat} (T:SliceOf P t e z size bytes) (s x:Operand) (hgd:o.guard=none)
    (ho:o.op=.call { callee:=.builtin .append,args:=#[s,x],argTypes:=#[t,t] })
    {base:Nat} {W0:World} {v:Value} {n:Nat} {xs:List Value} (hs:a.eval s=v) (hown:wr.ownsRow base e size v n xs) (hbel:Below base W0 wr)
    {arr:Array Value} {E m c:Nat} (hx:a.eval x=.slice (some ⟨wr.heap.size,0,none⟩) m c) (hl:arr.size=m*size) (h1:∀u∈arr.toList,u.oneCell'=true)
    (h63:n+m≤1152921504606846976) (hbytes:(n+m)*bytes≤140737488355328) (hbase:base≤wr.heap.size) (hpos:0<n+m)
    (h:∀g cap w',w'.ownsRow base e size (.slice (some ⟨g,0,none⟩) (n+m) cap) (n+m) (xs++arr.toList)→Below base W0 w'→base≤g→g<w'.heap.size→n+m≤cap→
      wpList P ops Q rest (a.put o.dst (.slice (some ⟨g,0,none⟩) (n+m) cap)) w'):wpList P ops Q (o::rest) a (wr.alloc (.cells arr E)):=by
  refine wpList_append_row T s x hgd ho hs (hown.alloc _) (hbel.alloc hbase _) hx (by simpa using hl) ?_ h1 h63 hbytes (by simp;omega) hpos h
  intro j u hu
  rw[Addr.add_lit,World.cell?_alloc_at _ _ _ _ rfl]
  simpa using hu
theorem wp_scope_loop{P:Program}{a:Act}{w:World}{Q:Exit→Act→World→Prop}{r1 r2 R:Code}(l:Nat)(J:Act→World→Prop)(μ:Act→World→Nat)
    (hf:findLabel (r1.seq (r2.seq ((Code.label l).seq R))) l=some (Code.skip.seq R))
    (first:r1.wp P (Exit.then (fun a w=>r2.wp P (Exit.then J (fun _ _ _=>False)) a w) (fun _ _ _=>False)) a w)
    (pass:∀a w,J a w→R.wp P (Exit.jump l (fun a' w'=>J a' w'∧μ a' w'<μ a w) Q) a w):
    (Code.scope (r1.seq (r2.seq ((Code.label l).seq R)))).wp P Q a w:=by
  have weak:∀(K:Act→World→Prop) e a w,Exit.jump l (fun a' w'=>J a' w'∧K a' w') Q e a w→Exit.jump l J Q e a w:=by
    intro K e a w h
    cases e with
    | goto l'=>exact⟨h.1,h.2.1⟩
    | _=>exact h
  refine wp_scope_jumps l J μ hf ?_ (fun a w hJ=>wp_seq (wp_skip (pass a w hJ)))
  refine wp_seq (wp_mono first ?_)
  intro e a w h
  cases e with
  | normal=>
    refine wp_seq (wp_mono h ?_)
    intro e a w h
    cases e with
    | normal=>exact wp_seq (wp_label (wp_mono (pass a w h) (weak _)))
    | _=>exact h.elim
  | _=>exact h.elim
theorem wpList_str{P:Program}{w:World}{ops:Array Oper}{rest:List Oper}{o:Oper}{a:Act}{Q:Exit→Act→World→Prop}
    {src dst e:TypeId} (x:Operand) (hgd:o.guard=none) (ho:o.op=.convert src dst x) (hs:P.underlying src=some (.slice e)) (he:P.underlying e=some (.int .u8)) (hd:P.underlying dst=some .string)
    {base n:Nat} {v:Value} (l:List UInt8) (hx:a.eval x=v) (hown:w.ownsRow base e 1 v n (l.map B)) (h:wpList P ops Q rest (a.put o.dst (.string ⟨l.toArray⟩)) w):wpList P ops Q (o::rest) a w:=by
  refine wpList_plain hgd fun K hK=>?_
  have hrun:(convert src dst v).run P w=.ok (.string ⟨l.toArray⟩) w:=by
    have hl:=hown.1
    rcases hown.2 with ⟨rfl,rfl⟩|⟨g,cap,cur,rfl,hb,hg,hnc,hcm,hcs,ht⟩
    · have:l=[]:=by cases l with|nil=>rfl|cons _ _=>simp at hl
      subst this
      have:=run_convert_bytes_nil (P:=P) w src e hs he 0 0 dst hd
      rw[this];rfl
    · have hn:n=l.length:=by simpa using hl.symm
      subst hn
      refine run_convert_bytes_back w src dst e ⟨g,0,none⟩ cap l hs he hd (fun j hj=>?_)
      have:=own_cells hown j (B l[j]) (by simp[hj])
      exact this
  unfold Oper.wp
  simp[execOp,ho,hx,hrun,Result.andThen]
  exact hK _ _ h
theorem wpList_appG{P:Program}{wr:World}{ops:Array Oper}{rest:List Oper}{o:Oper}{a:Act}{Q:Exit→Act→World→Prop}
    {t e:TypeId} {z:Value} {size bytes:Nat} (T:SliceOf P t e z size bytes) (s x:Operand) (hgd:o.guard=none)
    (ho:o.op=.call { callee:=.builtin .append,args:=#[s,x],argTypes:=#[t,t] })
    {base:Nat} {W0:World} {v:Value} {n:Nat} {xs:List Value} (hs:a.eval s=v) (hown:wr.ownsRow base e size v n xs) (hbel:Below base W0 wr)
    {arr:Array Value} {E m c gx:Nat} (hx:a.eval x=.slice (some ⟨gx,0,none⟩) m c) (hgx:gx=wr.heap.size) (hl:arr.size=m*size) (h1:∀u∈arr.toList,u.oneCell'=true)
    (h63:n+m≤1152921504606846976) (hbytes:(n+m)*bytes≤140737488355328) (hbase:base≤wr.heap.size) (hpos:0<n+m)
    (h:∀g cap w',w'.ownsRow base e size (.slice (some ⟨g,0,none⟩) (n+m) cap) (n+m) (xs++arr.toList)→Below base W0 w'→base≤g→g<w'.heap.size→n+m≤cap→
      wpList P ops Q rest (a.put o.dst (.slice (some ⟨g,0,none⟩) (n+m) cap)) w'):wpList P ops Q (o::rest) a (wr.alloc (.cells arr E)):=by
  subst hgx
  exact wpList_app T s x hgd ho hs hown hbel hx hl h1 h63 hbytes hbase hpos h
theorem byte_ne{c d:UInt8}{n:Int}(h:¬c=d)(hn:(d.toNat:Int)=n):((c.toNat:Int)==n)=false:=by
  rw[beq_eq_false_iff_ne];intro e;subst hn;exact h (UInt8.toNat_inj.1 (by omega))
theorem byte_eq{c d:UInt8}{n:Int}(h:c=d)(hn:(d.toNat:Int)=n):((c.toNat:Int)==n)=true:=by
  rw[h,hn];simp
theorem byte_bne{c d:UInt8}{n:Int}(h:¬c=d)(hn:(d.toNat:Int)=n):((c.toNat:Int) != n)=true:=by
  simp[bne,byte_ne h hn]
theorem below_dn{B0:Nat}{a w:World}(h:Below B0 a w)(n:Nat):Below B0 a (w.drewN n):=h.trans ⟨rfl,rfl,rfl,Nat.le_refl _,fun _ _=>rfl⟩
theorem bcellB{B0:Nat}{W w1:World}(hb:Below B0 W w1):(∀b o,b<B0→w1.cell? ⟨b,o,none⟩=W.cell? ⟨b,o,none⟩)∧(∀b o,b<B0→w1.frozen? ⟨b,o,none⟩=W.frozen? ⟨b,o,none⟩):=
  ⟨fun b o h=>hb.cell (p:=⟨b,o,none⟩) h,fun b o h=>hb.frozen (p:=⟨b,o,none⟩) h⟩
def Reads (K:Nat) (w:World) (v:Value) (n:Nat) (xs:List Value):Prop:=
  ∃ ao cap,v=.slice ao n cap∧xs.length=n*K∧n≤cap∧
    (0<n→∃b off,ao=some ⟨b,off,none⟩∧b<w.heap.size∧∀j u,xs[j]? = some u→w.cell? ⟨b,off+j,none⟩=some u)
theorem Reads.of_own{w:World}{base e K n:Nat}{v:Value}{xs:List Value}(h:w.ownsRow base e K v n xs):Reads K w v n xs:=by
  rcases h.2 with ⟨rfl,rfl⟩|⟨g,cap,cur,rfl,hb,hg,hnc,hcm,hcs,ht⟩
  · exact⟨none,0,rfl,h.1,Nat.le_refl _,fun h=>absurd h (by omega)⟩
  · refine⟨_,cap,rfl,h.1,hnc,fun _=>⟨g,0,rfl,(Array.getElem?_eq_some_iff.1 hg).1,fun j u hu=>?_⟩⟩
    have:=own_cellsK h j u hu
    rw[Addr.add_lit]at this
    exact this
theorem Reads.cut{w:World}{K n c c':Nat}{ao:Option Addr}{xs:List Value}(h:Reads K w (.slice ao n c) n xs)(hc:n≤c'):Reads K w (.slice ao n c') n xs:=by
  obtain⟨ao',cap,he,hl,_,hr⟩:=h
  injection he with h1 _ _
  subst h1
  exact⟨ao,c',rfl,hl,hc,hr⟩
theorem Reads.below{K n B0:Nat}{w w':World}{v:Value}{xs:List Value}(h:Reads K w v n xs)(hb:Below B0 w w')(hB:w.heap.size≤B0):Reads K w' v n xs:=by
  obtain⟨ao,cap,rfl,hl,hc,hr⟩:=h
  refine⟨ao,cap,rfl,hl,hc,fun hn=>?_⟩
  obtain⟨b,off,rfl,hlt,hcell⟩:=hr hn
  have hs:=hb.size
  exact⟨b,off,rfl,by omega,fun j u hu=>(hb.cell (p:=⟨b,off+j,none⟩) (by show b<B0;omega)).trans (hcell j u hu)⟩
theorem run_append_none_any{P:Program}{w:World}(base:Nat)(t ty e:TypeId)(i:TypeInfo)(size:Nat)(ht:P.underlying t=some (.slice e))(hi:P.info? e=some i)
    (v:Value) (n c:Nat) (xs:List Value) (hown:w.ownsRow base e size v n xs):
    (Builtin.append_ #[t,t] ty #[v,.slice none 0 c]).run P w=.ok v w:=by
  rcases hown.2 with ⟨rfl,rfl⟩|⟨g,cap,cur,rfl,_,_,hnc,_⟩
  · simp[Builtin.append_,run_underlying ht,sizeOf,typeInfo,hi,Builtin.lenOf,Builtin.firstCells]
  · simp[Builtin.append_,run_underlying ht,sizeOf,typeInfo,hi,Builtin.lenOf,Builtin.firstCells,hnc,storeCells]
theorem wpList_append_reads {P:Program} {w:World} {ops:Array Oper} {rest:List Oper} {o:Oper} {a:Act} {Q:Exit→Act→World→Prop}
    {t e:TypeId} {z:Value} {size bytes:Nat} (T:SliceOf P t e z size bytes) (s x:Operand) (hgd:o.guard=none)
    (ho:o.op=.call { callee:=.builtin .append,args:=#[s,x],argTypes:=#[t,t] })
    {base:Nat} {W0:World} {v:Value} {n:Nat} {xs:List Value} (hs:a.eval s=v) (hown:w.ownsRow base e size v n xs) (hbel:Below base W0 w)
    {y:Value} {m:Nat} {news:List Value} (hx:a.eval x=y) (hr:Reads size w y m news) (h1:∀u∈news,u.oneCell'=true)
    (h63:n+m≤1152921504606846976) (hbytes:(n+m)*bytes≤140737488355328) (hbase:base≤w.heap.size)
    (h:∀ao cap w',w'.ownsRow base e size (.slice ao (n+m) cap) (n+m) (xs++news)→Below base W0 w'→
      wpList P ops Q rest (a.put o.dst (.slice ao (n+m) cap)) w'):wpList P ops Q (o::rest) a w:=by
  obtain⟨i,hi,hz0,hz1,hz2⟩:=info_parts T.info
  have shape:∀(v':Value)(w':World),w'.ownsRow base e size v' (n+m) (xs++news)→∃(ao:Option Addr)(cap:Nat),v'=Value.slice ao (n+m) cap:=by
    intro v' w' h
    rcases h.2 with ⟨rfl,e⟩|⟨g,cap,cur,rfl,_⟩
    · exact⟨none,0,by rw[e]⟩
    · exact⟨_,_,rfl⟩
  obtain⟨ao,c,rfl,hl,hmc,hcells⟩:=hr
  match ao,hcells with
  | some ad,hcells=>
    refine wpList_append_own w hgd s x t ho base e i z size bytes T.und hi hz0 hz1 hz2 T.cells T.pos v n xs hs hown ad m c news hx hl (fun j u hu=>?_) h1 (by unfold maxLen;omega) hbytes hbase ?_
    · have hm:0<m:=by
        have:=(List.getElem?_eq_some_iff.1 hu).1
        rcases Nat.eq_zero_or_pos m with e|e
        · subst e;simp at hl;subst hl;simp at this
        · exact e
      obtain⟨b,off,hb,hlt,hc⟩:=hcells hm
      obtain rfl:=Option.some.inj hb
      rw[Addr.add_lit]
      exact hc j u hu
    · intro v' w' hown' hgrow hiff
      obtain⟨ao',cap',rfl⟩:=shape v' w' hown'
      exact h ao' cap' w' hown' (hbel.grown hgrow hbase (fun k hk=>(hown.lt k hk).1))
  | none,hcells=>
    have hm:m=0:=by
      rcases Nat.eq_zero_or_pos m with e|e
      · exact e
      · obtain⟨_,_,h,_⟩:=hcells e;cases h
    subst hm
    have hnews:news=[]:=List.eq_nil_of_length_eq_zero (by simpa using hl)
    subst hnews
    simp only[Nat.add_zero,List.append_nil]at h shape
    obtain⟨ao',cap',rfl⟩:=shape v w hown
    refine wpList_plain hgd fun K hK=>?_
    have hrun:=run_append_none_any (P:=P) (w:=w) base t o.type e i size T.und hi _ n c xs hown
    unfold Oper.wp
    simp[execOp,ho,resolve,invoke,builtin,hs,hx,hrun,Result.andThen]
    exact hK _ _ (h ao' cap' w hown hbel)
theorem wpList_str_reads {P:Program} {w:World} {ops:Array Oper} {rest:List Oper} {o:Oper} {a:Act} {Q:Exit→Act→World→Prop}
    {src dst e:TypeId} (x:Operand) (hgd:o.guard=none) (ho:o.op=.convert src dst x) (hs:P.underlying src=some (.slice e)) (he:P.underlying e=some (.int .u8)) (hd:P.underlying dst=some .string)
    {n:Nat} {v:Value} (l:List UInt8) (hx:a.eval x=v) (hr:Reads 1 w v n (l.map B)) (h:wpList P ops Q rest (a.put o.dst (.string ⟨l.toArray⟩)) w):wpList P ops Q (o::rest) a w:=by
  refine wpList_plain hgd fun K hK=>?_
  have hrun:(convert src dst v).run P w=.ok (.string ⟨l.toArray⟩) w:=by
    obtain⟨ao,cap,rfl,hl,hc,hcells⟩:=hr
    have hn:n=l.length:=by simpa using hl.symm
    match ao,hcells with
    | none,hcells=>
      have:l=[]:=by
        rcases Nat.eq_zero_or_pos n with e|e
        · subst hn;exact List.eq_nil_of_length_eq_zero e
        · obtain⟨_,_,h,_⟩:=hcells e;cases h
      subst this
      rw[run_convert_bytes_nil (P:=P) w src e hs he n cap dst hd];rfl
    | some ad,hcells=>
      subst hn
      refine run_convert_bytes_back w src dst e ad cap l hs he hd (fun j hj=>?_)
      obtain⟨b,off,hb,hlt,hc⟩:=hcells (by omega)
      obtain rfl:=Option.some.inj hb
      rw[Addr.add_lit]
      exact hc j (B l[j]) (by simp[hj])
  unfold Oper.wp
  simp[execOp,ho,hx,hrun,Result.andThen]
  exact hK _ _ h
structure OnlyAt(g:Nat)(w W:World):Prop where
  os:W.os=w.os
  tape:W.tape=w.tape
  output:W.output=w.output
  size:W.heap.size=w.heap.size
  block:∀k,k≠g→W.heap[k]? = w.heap[k]?
theorem OnlyAt.below{g B0:Nat}{w W:World}(h:OnlyAt g w W)(hB:B0≤g):Below B0 w W:=
  ⟨h.os,h.tape,h.output,by rw[h.size];exact Nat.le_refl _,fun k hk=>h.block k (by omega)⟩
theorem OnlyAt.setCell{g i:Nat}(w:World)(v:Value):OnlyAt g w (w.setCell ⟨g,i,none⟩ v):=
  ⟨rfl,rfl,rfl,by simp[World.setCell],fun k hk=>Below.heap_setCell _ _ _ _ hk⟩
theorem OnlyAt.trans{g:Nat}{a b c:World}(h:OnlyAt g a b)(k:OnlyAt g b c):OnlyAt g a c:=
  ⟨k.os.trans h.os,k.tape.trans h.tape,k.output.trans h.output,k.size.trans h.size,fun i hi=>(k.block i hi).trans (h.block i hi)⟩
theorem setCell_row{w:World}{g i T:Nat}{cur:Array Value}(h:w.heap[g]? = some (.cells cur T (0,0)))(v:Value):(w.setCell ⟨g,i,none⟩ v).heap[g]? = some (.cells (cur.setIfInBounds i v) T (0,0)):=
  heap_setCell_same w g i cur T v h
theorem set4{w:World}{g T:Nat}{c0 c1 c2 c3:Value}(h:w.heap[g]? = some (.cells #[c0,c1,c2,c3] T (0,0)))(v0 v1 v2 v3:Value):
    ((((w.setCell ⟨g,0,none⟩ v0).setCell ⟨g,1,none⟩ v1).setCell ⟨g,2,none⟩ v2).setCell ⟨g,3,none⟩ v3).heap[g]? = some (.cells #[v0,v1,v2,v3] T (0,0))∧
    OnlyAt g w ((((w.setCell ⟨g,0,none⟩ v0).setCell ⟨g,1,none⟩ v1).setCell ⟨g,2,none⟩ v2).setCell ⟨g,3,none⟩ v3):=
  ⟨by have:=setCell_row (i:=3) (setCell_row (i:=2) (setCell_row (i:=1) (setCell_row (i:=0) h v0) v1) v2) v3;simpa using this,
   (((OnlyAt.setCell w v0).trans (OnlyAt.setCell _ v1)).trans (OnlyAt.setCell _ v2)).trans (OnlyAt.setCell _ v3)⟩
theorem cell_of_row'{w:World}{g T:Nat}{cur:Array Value}(h:w.heap[g]? = some (.cells cur T (0,0)))(i:Nat):w.cell? ⟨g,i,none⟩=cur[i]? :=
  cell_of_row w g i cur T (0,0) h
theorem frozen_of_row'{w:World}{g T:Nat}{cur:Array Value}(h:w.heap[g]? = some (.cells cur T (0,0)))(i:Nat):w.frozen? ⟨g,i,none⟩=false:=
  frozen_of_row w g i cur T h
theorem Reads.drop1{w:World}{b off n cap k:Nat}{xs:List Value}(h:Reads 1 w (.slice (some ⟨b,off,none⟩) n cap) n xs)(hk:k≤n)(hc:¬cap=k):
    Reads 1 w (.slice (some ⟨b,off+k,none⟩) (n-k) (cap-k)) (n-k) (xs.drop k):=by
  obtain⟨ao',cap',he,hl,hle,hr⟩:=h
  injection he with h1 _ h3
  subst h1 h3
  refine⟨_,_,rfl,by simp;omega,by omega,fun hn=>?_⟩
  obtain⟨b',off',he',hb,hcell⟩:=hr (by omega)
  injection he' with he'
  injection he' with e1 e2
  subst e1 e2
  refine⟨b,off+k,rfl,hb,fun j u hu=>?_⟩
  rw[List.getElem?_drop]at hu
  rw[Nat.add_assoc]
  exact hcell (k+j) u hu
theorem Reads.empty{w:World}{K cap:Nat}{ao:Option Addr}:Reads K w (.slice ao 0 cap) 0 []:=
  ⟨ao,cap,rfl,by simp,Nat.zero_le _,fun h=>absurd h (by omega)⟩
theorem Reads.some_addr{w:World}{K n cap:Nat}{ao:Option Addr}{xs:List Value}(h:Reads K w (.slice ao n cap) n xs)(hn:0<n):
    n≤cap∧xs.length=n*K∧∃b off,ao=some ⟨b,off,none⟩∧b<w.heap.size∧∀j u,xs[j]? = some u→w.cell? ⟨b,off+j,none⟩=some u:=by
  obtain⟨ao',cap',he,hl,hle,hr⟩:=h
  injection he with h1 _ h3
  subst h1 h3
  exact⟨hle,hl,hr hn⟩
end
end Go.Proofs.YtpajagkhmodbnaaGreat

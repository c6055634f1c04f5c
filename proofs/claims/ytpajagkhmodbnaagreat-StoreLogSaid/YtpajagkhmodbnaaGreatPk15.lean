/- Pk: texts of the store seat laid together by program: StPlain StLaws RgNum RgKit AppR CutS RgApp. Conditions: each theorem names its own. -/
import Derived.Test.YtpajagkhmodbnaaGreatPk10
import Derived.Deep.DeepCutAuto
import Derived.Deep.CutBlock
namespace Go.Proofs.YtpajagkhmodbnaaGreat
set_option linter.unusedSimpArgs false
set_option linter.unusedVariables false
section
def be8(n:Nat):List UInt8:=(List.range 8).map (hbyte n)
structure Rc where
 kind:Nat
 txn:Nat
 prev:Nat
 next:Nat
 page:Nat
 off:Nat
 before:List UInt8
 after:List UInt8
 txns:List (Nat×Nat×Nat)
 dirty:List (Nat×Nat)
 count:Nat
 deriving DecidableEq
def Rc.zero:Rc:=⟨0,0,0,0,0,0,[],[],[],[],0⟩
def Rc.size(r:Rc):Nat:=96+r.before.length+r.after.length+24*r.txns.length+16*r.dirty.length
def Rc.enc(r:Rc):List UInt8:=
 be8 (r.size-8)++be8 r.kind++be8 r.txn++be8 r.prev++be8 r.next++be8 r.page++be8 r.off++(be8 r.before.length++r.before)++(be8 r.after.length++r.after) ++
 be8 r.txns.length++r.txns.flatMap (fun t=>be8 t.1++be8 t.2.1++be8 t.2.2)++be8 r.dirty.length++r.dirty.flatMap (fun t=>be8 t.1++be8 t.2)++be8 r.count
structure Rg where
 base:Nat
 bytes:List UInt8
 start:Nat
 fin:Nat
def Rg.tail(r:Rg):Nat:=r.base+r.bytes.length
def Rg.room(n:Nat)(r:Rg):Nat:=(r.start / 118+n-1)*118-r.tail
def Rg.sec(r:Rg)(k:Nat):List UInt8:=
 let q:=k*118-r.base
 let m:=min 118 (r.bytes.length-q)
 be8 (k+1)++[UInt8.ofNat (m / 256),UInt8.ofNat m]++(r.bytes.drop q).take m++List.replicate (118-m) 0
def Rg.wrs(n:Nat)(r:Rg):Nat→Nat→Dv→Dv
 | 0,_,D=>D
 | m+1,k,D=>Rg.wrs n r m (k+1) (D.write (2+k % n) (r.sec k))
def Rg.flushD(n:Nat)(r:Rg)(D:Dv):Dv:=
 let a:=r.fin / 118
 let b:=(r.tail-1) / 118
 let D1:=Rg.wrs n r (b-a) (a+1) D
 let D2:=(D1.write (2+(b+1) % n) zsec).sync
 (D2.write (2+a % n) (r.sec a)).sync
def Rg.flush(n:Nat)(r:Rg)(D:Dv):Rg×Dv:=if r.tail=r.fin then(r,D)else({ r with fin:=r.tail },r.flushD n D)
def Rg.trim(r:Rg)(p:Nat):Rg:=if r.base<p / 118*118 then⟨p / 118*118,r.bytes.drop (p / 118*118-r.base),p,r.fin⟩ else { r with start:=p }
def rsec(b:List UInt8)(k:Nat):List UInt8×Nat:=
 if b.take 8=be8 (k+1)then(b.drop 10,if 1≤(b.getD 8 0).toNat*256+(b.getD 9 0).toNat∧(b.getD 8 0).toNat*256+(b.getD 9 0).toNat≤118 then(b.getD 8 0).toNat*256+(b.getD 9 0).toNat else 0)
 else(List.replicate 118 0,0)
def Rg.scan(n st:Nat)(sec:Nat→List UInt8):Nat→Nat→List UInt8×Nat
 | 0,_=>([],0)
 | m+1,i=>
  let x:=rsec (sec (2+(st / 118+i) % n)) (st / 118+i)
  let least:=if i=0 then st % 118 else 0
  if x.2≤least then(x.1.take least,1)else if x.2<118 then(x.1.take x.2,1)
  else(x.1.take x.2++(Rg.scan n st sec m (i+1)).1,(Rg.scan n st sec m (i+1)).2+1)
def Rg.opened(n st:Nat)(D:Dv):Rg:=⟨st / 118*118,(Rg.scan n st D.sec n 0).1,st,st / 118*118+(Rg.scan n st D.sec n 0).1.length⟩
structure Io where
 D:Dv
 R:Rg
def Io.ops(n fr:Nat):IoF Io where
 step s l:=if (s.R.fin:Int)<l then(0,{ D:=(s.R.flush n s.D).2,R:=(s.R.flush n s.D).1 })else(0,s)
 wr s p b:={ s with D:=(s.D.fwrite fr p b).2 }
 rd s:={ s with D:=s.D.reads 4 }
 pgs s p:=secsD s.D (fr+5+4*p) 4
structure Up where
 lsn:Nat
 prev:Nat
 page:Nat
 off:Nat
 before:List UInt8
structure Tx where
 id:Nat
 first:Nat
 last:Nat
 l:List Up
structure St where
 io:Io
 p:Pq
 lines:List (Nat×Rc)
 opn:List Tx
 master:Nat
 next:Nat
 commits:Nat
 redone:Nat
 undone:Nat
structure Cf where
 n:Nat
 fr:Nat
 pg:Nat
def Cf.ops(c:Cf):IoF Io:=Io.ops c.n c.fr
def layoutL(n:Nat):Nat×Nat:=if n<128 then(0,0)else(n / 4,(n-2-n / 4-5) / 4)
def Cf.of(n:Nat):Cf:=⟨(layoutL n).1,2+(layoutL n).1,(layoutL n).2⟩
section
variable(c:Cf)
def St.lay(s:St)(r:Rc):Int×Nat×St:=
 if s.io.R.room c.n<r.enc.length then(60,0,s)
 else(0,s.io.R.tail+1,{ s with io:={ s.io with R:={ s.io.R with bytes:=s.io.R.bytes++r.enc } },lines:=s.lines++[(s.io.R.tail+1,r)] })
def overB(b:List UInt8)(off:Nat)(x:List UInt8):List UInt8:=b.take off++x.take (b.length-off)++b.drop (off+x.length)
def St.get(s:St)(p:Nat):Int×List UInt8×St:=
 let r:=s.p.get c.ops c.pg s.io p
 (r.1,r.2.1,{ s with p:=r.2.2.1,io:=r.2.2.2 })
def St.put(s:St)(p:Nat)(b:List UInt8)(lsn:Nat):Int×St:=
 let r:=s.p.put c.ops c.pg s.io p b lsn
 (r.1,{ s with p:=r.2.1,io:=r.2.2 })
def St.apply(s:St)(r:Rc)(lsn:Nat):Int×St:=
 let g:=s.get c r.page
 if g.1=0 then g.2.2.put c r.page (overB (overB g.2.1 0 (be8 lsn)) (8+r.off) r.after) lsn else(g.1,g.2.2)
def St.reserved(s:St):Nat:=(s.opn.map fun x=>192+(x.l.map fun u=>96+u.before.length).sum).sum
def St.of(s:St)(t:Int):Option Nat:=s.opn.findIdx? fun x=>decide ((x.id:Int)=t)
def St.begin_(s:St):Int×Nat×St:=
 let r:Rc:={ Rc.zero with kind:=1,txn:=s.next }
 let a:=s.lay c r
 if a.1=0 then(0,s.next,{ a.2.2 with opn:=a.2.2.opn++[⟨s.next,a.2.1,a.2.1,[]⟩],next:=s.next+1 })else(a.1,0,a.2.2)
def St.setTx(s:St)(i:Nat)(x:Tx):St:={ s with opn:=s.opn.set i x }
def St.write(s:St)(i:Nat)(x:Tx)(p off:Nat)(b:List UInt8):Int×St:=
 let g:=s.get c p
 if g.1≠0 then(g.1,g.2.2)else
 let bef:=(g.2.1.drop (8+off)).take b.length
 if bef=b then(0,g.2.2)else
 let r:Rc:={ Rc.zero with kind:=2,txn:=x.id,prev:=x.last,page:=p,off:=off,before:=bef,after:=b }
 let a:=g.2.2.lay c r
 if a.1≠0 then(a.1,a.2.2)else
 (a.2.2.setTx i { x with l:=x.l++[⟨a.2.1,x.last,p,off,bef⟩],last:=a.2.1 }).put c p (overB (overB g.2.1 0 (be8 a.2.1)) (8+off) b) a.2.1
def St.step(s:St)(i:Nat)(x:Tx)(r:Rc):Int×St:=
 let a:=s.lay c { r with txn:=x.id,prev:=x.last }
 if a.1=0 then(0,a.2.2.setTx i { x with last:=a.2.1 })else(a.1,a.2.2)
def St.end_(s:St)(i:Nat)(x:Tx):Int×St:=
 let a:=s.lay c { Rc.zero with kind:=6,txn:=x.id,prev:=x.last }
 if a.1=0 then(0,{ a.2.2 with opn:=a.2.2.opn.eraseIdx i })else(a.1,a.2.2)
def St.undo (i:Nat) (mark:Nat):Nat→St→Int×St
 | 0,s=>(0,s)
 | m+1,s=>
  match s.opn[i]? with
  | none=>(0,s)
  | some x=>
   match x.l.getLast? with
   | none=>(0,s)
   | some u=>if u.lsn≤mark then(0,s)else
    let r:Rc:={ Rc.zero with kind:=3,txn:=x.id,prev:=x.last,page:=u.page,off:=u.off,after:=u.before,next:=u.prev }
    let a:=s.lay c r
    if a.1≠0 then(a.1,a.2.2)else
    let b:=(a.2.2.setTx i { x with last:=a.2.1,l:=x.l.dropLast }).apply c r a.2.1
    if b.1≠0 then b else St.undo i mark m b.2
def St.rollback(s:St)(i:Nat)(x:Tx):Int×St:=
 let a:=s.step c i x { Rc.zero with kind:=5 }
 if a.1≠0 then a else
 let b:=St.undo c i 0 (x.l.length+1) a.2
 if b.1≠0 then b else
 match b.2.opn[i]? with
 | none=>(0,b.2)
 | some y=>b.2.end_ c i y
def St.cleanL:List Nat→St→Int×St
 | [],s=>(0,s)
 | p::r,s=>
  let a:=s.p.evict c.ops s.io p
  if a.1≠0 then(a.1,{ s with p:=a.2.1,io:=a.2.2 })else St.cleanL r { s with p:=a.2.1,io:=a.2.2 }
def masterB(k start ahead next:Nat):List UInt8:=be8 k++be8 start++be8 ahead++be8 next++List.replicate 96 0
def St.mark(s:St)(start:Nat):St:=
 let l:=s.lines.filter fun x=>decide (start<x.1)
 let ahead:=s.commits-(l.filter fun x=>x.2.kind=4).length
 let k:=s.master+1
 { s with io:={ D:=(s.io.D.write (k % 2) (masterB k start ahead s.next)).sync,R:=s.io.R.trim start },master:=k,lines:=l }
end
def St.new(n frames:Nat):St:=
 let c:=Cf.of n
 let D1:=(Dv.new n).reads 2
 let D2:=D1.reads 1
 let D3:=D2.reads 1
 St.mark ⟨⟨D3,⟨0,[],0,0⟩⟩,Pq.new frames,[],[],0,1,0,0,0⟩ 0
end
section
def RSame(R R':Rg):Prop:=R'.base=R.base∧R'.bytes=R.bytes∧R'.start=R.start
theorem RSame.refl(R:Rg):RSame R R:=⟨rfl,rfl,rfl⟩
theorem RSame.trans{R R' R'':Rg}(h:RSame R R')(k:RSame R' R''):RSame R R'':=⟨k.1.trans h.1,k.2.1.trans h.2.1,k.2.2.trans h.2.2⟩
theorem RSame.tail{R R':Rg}(h:RSame R R'):R'.tail=R.tail:=by unfold Rg.tail;rw[h.1,h.2.1]
theorem RSame.room{R R':Rg}(h:RSame R R')(n:Nat):R'.room n=R.room n:=by unfold Rg.room;rw[h.tail,h.2.2]
theorem flush_same(n:Nat)(R:Rg)(D:Dv):RSame R (R.flush n D).1:=by
 unfold Rg.flush
 split
 ·exact RSame.refl _
 ·exact⟨rfl,rfl,rfl⟩
theorem flush_fin(n:Nat)(R:Rg)(D:Dv):(R.flush n D).1.fin=R.tail:=by
 unfold Rg.flush
 split
 ·next h=>exact h.symm
 ·rfl
section
variable(n fr:Nat)
theorem step_ok(s:Io)(l:Int):((Io.ops n fr).step s l).1=0∧RSame s.R ((Io.ops n fr).step s l).2.R:=by
 show(if _ then _ else _:Int×Io).1=0∧RSame s.R (if _ then _ else _:Int×Io).2.R
 split
 ·exact⟨rfl,flush_same _ _ _⟩
 ·exact⟨rfl,RSame.refl _⟩
theorem clean_ok(p:Pq)(s:Io)(i:Nat):(p.clean (Io.ops n fr) s i).1=0∧(p.clean (Io.ops n fr) s i).2.1.wr≤p.wr+1∧RSame s.R (p.clean (Io.ops n fr) s i).2.2.R:=by
 unfold Pq.clean
 split
 ·rw[if_pos (step_ok n fr s _).1]
  exact⟨rfl,Nat.le_refl _,(step_ok n fr s _).2⟩
 ·exact⟨rfl,Nat.le_succ _,RSame.refl _⟩
theorem free_ok(p:Pq)(s:Io):(p.free (Io.ops n fr) s).1=0∧(p.free (Io.ops n fr) s).2.2.1.wr≤p.wr+1∧RSame s.R (p.free (Io.ops n fr) s).2.2.2.R:=by
 unfold Pq.free
 split
 ·exact⟨rfl,Nat.le_succ _,RSame.refl _⟩
 ·obtain⟨h1,h2,h3⟩:=clean_ok n fr { p with F:=p.swept.1,hand:=p.swept.2.1 } s p.swept.2.2
  unfold Pq.freed
  rw[if_pos h1]
  exact⟨rfl,h2,h3⟩
theorem evict_ok(p:Pq)(s:Io)(m:Int):(p.evict (Io.ops n fr) s m).1=0∧(p.evict (Io.ops n fr) s m).2.1.wr≤p.wr+1∧RSame s.R (p.evict (Io.ops n fr) s m).2.2.R:=by
 unfold Pq.evict
 split
 ·exact⟨rfl,Nat.le_succ _,RSame.refl _⟩
 ·next i _=>
  obtain⟨h1,h2,h3⟩:=clean_ok n fr p s i
  rw[if_pos h1]
  exact⟨rfl,h2,h3⟩
theorem get_ok(p:Pq)(s:Io)(pg q:Nat)(hq:q<pg):(p.get (Io.ops n fr) pg s (q:Int)).1=0∧(p.get (Io.ops n fr) pg s (q:Int)).2.2.1.wr≤p.wr+1∧RSame s.R (p.get (Io.ops n fr) pg s (q:Int)).2.2.2.R:=by
 unfold Pq.get
 split
 ·exact⟨rfl,Nat.le_succ _,RSame.refl _⟩
 ·rw[if_pos (by omega)]
  obtain⟨h1,h2,h3⟩:=free_ok n fr p ((Io.ops n fr).rd s)
  unfold Pq.got
  rw[if_pos h1]
  exact⟨rfl,h2,h3⟩
theorem put_ok(p:Pq)(s:Io)(pg q:Nat)(hq:q<pg)(b:List UInt8)(hb:b.length=512)(l:Nat)(hl:1≤l):
  (p.put (Io.ops n fr) pg s (q:Int) b (l:Nat)).1=0∧(p.put (Io.ops n fr) pg s (q:Int) b (l:Nat)).2.1.wr≤p.wr+1∧RSame s.R (p.put (Io.ops n fr) pg s (q:Int) b (l:Nat)).2.2.R:=by
 unfold Pq.put
 rw[if_pos ⟨by omega,by omega,hb,by omega⟩]
 split
 ·exact⟨rfl,Nat.le_succ _,RSame.refl _⟩
 ·obtain⟨h1,h2,h3⟩:=free_ok n fr p s
  rw[if_pos h1]
  exact⟨rfl,h2,h3⟩
end
structure SSame(s s':St)(k:Nat):Prop where
 wr:s'.p.wr≤s.p.wr+k
 R:RSame s.io.R s'.io.R
 lines:s'.lines=s.lines
 opn:s'.opn=s.opn
 master:s'.master=s.master
 next:s'.next=s.next
 commits:s'.commits=s.commits
 redone:s'.redone=s.redone
 undone:s'.undone=s.undone
theorem SSame.refl(s:St):SSame s s 0:=⟨Nat.le_refl _,RSame.refl _,rfl,rfl,rfl,rfl,rfl,rfl,rfl⟩
theorem SSame.trans{a b c:St}{k l:Nat}(h:SSame a b k)(g:SSame b c l):SSame a c (k+l):=
 ⟨by have:=h.wr;have:=g.wr;omega,h.R.trans g.R,g.lines.trans h.lines,g.opn.trans h.opn,g.master.trans h.master,g.next.trans h.next,g.commits.trans h.commits,g.redone.trans h.redone,g.undone.trans h.undone⟩
theorem St.get_ok(s:St)(c:Cf)(q:Nat)(hq:q<c.pg):(s.get c q).1=0∧SSame s (s.get c q).2.2 1:=by
 obtain⟨h1,h2,h3⟩:=Go.Proofs.YtpajagkhmodbnaaGreat.get_ok c.n c.fr s.p s.io c.pg q hq
 exact⟨h1,⟨h2,h3,rfl,rfl,rfl,rfl,rfl,rfl,rfl⟩⟩
theorem St.put_ok(s:St)(c:Cf)(q:Nat)(hq:q<c.pg)(b:List UInt8)(hb:b.length=512)(l:Nat)(hl:1≤l):(s.put c q b l).1=0∧SSame s (s.put c q b l).2 1:=by
 obtain⟨h1,h2,h3⟩:=Go.Proofs.YtpajagkhmodbnaaGreat.put_ok c.n c.fr s.p s.io c.pg q hq b hb l hl
 exact⟨h1,⟨h2,h3,rfl,rfl,rfl,rfl,rfl,rfl,rfl⟩⟩
end
section
open Go.RowKit
def Z8:Array Value:=((List.replicate 8 (0:UInt8)).map B).toArray
theorem make8(w:World):(Instr.makeSlice 48 (.int .i64 8) (.int .i64 8)).run Tryz.prog w=.ok (.slice (some ⟨w.heap.size,0,none⟩) 8 8) (w.alloc (.cells Z8 5)):=by
 obtain⟨i0,hi,hz0,hz1,hz2⟩:=info_parts (P:=Tryz.prog) (e:=5) (z:=.int .u8 0) (size:=1) (bytes:=1) (by kernel_rfl)
 have h:=run_make (P:=Tryz.prog) w 48 5 i0 (.int .u8 0) Tryz.underlying48 hi hz0 .i64 .i64 8 8 (by decide) (by decide) (by rw[hz2];decide) (by decide)
 rw[h,hz1]
 have e:madeCells (Value.int .u8 0).cells (Int.toNat 8*1)=Z8:=by
  apply Array.ext'
  have e1:=toList_madeCells_one (.int .u8 0) 8
  show(madeCells #[.int .u8 0] 8).toList=_
  rw[e1]
  unfold Z8
  simp only[List.map_replicate]
  rfl
 rw[e]
 rfl
def numL(n k:Nat):List UInt8:=(List.range k).map (hbyte n)++List.replicate (8-k) 0
theorem numL_len(n:Nat){k:Nat}(hk:k≤8):(numL n k).length=8:=by simp[numL];omega
theorem numL_all(n:Nat):numL n 8=be8 n:=by simp[numL,be8]
theorem be8_len(n:Nat):(be8 n).length=8:=by simp[be8]
theorem numL_step(n:Nat){k:Nat}(hk:k<8):numL n (k+1)=(numL n k).set k (hbyte n k):=by
 unfold numL
 rw[List.range_succ,List.map_append,show 8-k=(8-(k+1))+1 by omega,List.replicate_succ,List.set_append_right _ _ (by simp)]
 simp
theorem numL_at(n:Nat){k:Nat}(hk:k<8):((numL n k).map B)[k]? = some (B 0):=by
 unfold numL
 rw[List.map_append,List.getElem?_append_right (by simp)]
 simp only[List.length_map,List.length_range,Nat.sub_self,List.map_replicate]
 rw[show 8-k=(7-k)+1 by omega,List.replicate_succ]
 rfl
theorem Buf.zero8(w:World)(n:Nat):Buf (w.alloc (.cells Z8 5)) w.heap.size (numL n 0):=by
 unfold Buf World.alloc
 simp[Z8,numL]
set_option maxRecDepth 100000 in
set_option maxHeartbeats 1600000 in
theorem rnum_any(w:World)(n:Nat)(hn:n≤4611686018427387904):
  Calls Tryz.prog 136 #[.int .i64 (n:Nat)] w fun e w'=>∃g,e=.returned (.slice (some ⟨g,0,none⟩) 8 8)∧Buf w' g (be8 n)∧w.heap.size≤g∧Below w.heap.size w w':=by
 have hmk:=make8
 go_enter Tryz.func136,Tryz.ntmps136
 go_wp2_with fail
 have hg0:Below w.heap.size w (w.alloc (.cells Z8 5)):=(Below.refl _ _).alloc (Nat.le_refl _) _
 have hb0:=Buf.zero8 w n
 obtain⟨g,hg⟩:∃g,w.heap.size=g:=⟨_,rfl⟩
 rw[hg]at hb0 hg0⊢
 generalize w.alloc (.cells Z8 5)=w1 at *
 go_loopw [8] (fun z wr=>∃k:Nat,k≤8∧z=.int .i64 k∧Buf wr g (numL n k)∧Below g w wr) (fun z _=>8-(intOf z).toNat)
 case atStart=>exact⟨0,Nat.zero_le _,rfl,hb0,hg0⟩
 case round=>
  obtain⟨k,hk,rfl,hbuf,hgw⟩:=hrel
  have HB:=Lib.hid hbuf
  have HG:=Lib.hid hgw
  by_cases hk8:k<8
  case neg=>
   obtain rfl:k=8:=by omega
   go_wp2_with fail
   go_ret
   exact⟨g,rfl,numL_all n▸HB.out,by omega,by rw[hg];exact HG.out⟩
  have hkb:decide ((k:Int)<8)=true:=by simp;omega
  have hcold:=hbuf.cell k (B 0) (numL_at n hk8)
  have hfz:=fun o=>frozen_of_row' hbuf o
  have hlt:=hbuf.lt
  clear hbuf hgw
  go_wp2_with fail
  rw[←B_hbyte]
  refine⟨⟨k+1,by omega,by simp,?_,?_⟩,?_⟩
  ·rw[numL_step n hk8]
   exact HB.out.set k (by rw[numL_len n (by omega)];omega) _
  ·exact HG.out.setCell (Nat.le_refl _) _
  ·simp[intOf];omega
set_option maxRecDepth 100000 in
set_option maxHeartbeats 1600000 in
theorem eight_any(w:World)(n:Nat)(hn:n≤4611686018427387904):
  Calls Tryz.prog 68 #[.int .i64 (n:Nat)] w fun e w'=>∃g,e=.returned (.slice (some ⟨g,0,none⟩) 8 8)∧Buf w' g (be8 n)∧w.heap.size≤g∧Below w.heap.size w w':=by
 have hmk:=make8
 go_enter Tryz.func68,Tryz.ntmps68
 go_wp2_with fail
 have hg0:Below w.heap.size w (w.alloc (.cells Z8 5)):=(Below.refl _ _).alloc (Nat.le_refl _) _
 have hb0:=Buf.zero8 w n
 obtain⟨g,hg⟩:∃g,w.heap.size=g:=⟨_,rfl⟩
 rw[hg]at hb0 hg0⊢
 generalize w.alloc (.cells Z8 5)=w1 at *
 go_loopw [8] (fun z wr=>∃k:Nat,k≤8∧z=.int .i64 k∧Buf wr g (numL n k)∧Below g w wr) (fun z _=>8-(intOf z).toNat)
 case atStart=>exact⟨0,Nat.zero_le _,rfl,hb0,hg0⟩
 case round=>
  obtain⟨k,hk,rfl,hbuf,hgw⟩:=hrel
  have HB:=Lib.hid hbuf
  have HG:=Lib.hid hgw
  by_cases hk8:k<8
  case neg=>
   obtain rfl:k=8:=by omega
   go_wp2_with fail
   go_ret
   exact⟨g,rfl,numL_all n▸HB.out,by omega,by rw[hg];exact HG.out⟩
  have hkb:decide ((k:Int)<8)=true:=by simp;omega
  have hcold:=hbuf.cell k (B 0) (numL_at n hk8)
  have hfz:=fun o=>frozen_of_row' hbuf o
  have hlt:=hbuf.lt
  clear hbuf hgw
  go_wp2_with fail
  rw[←B_hbyte]
  refine⟨⟨k+1,by omega,by simp,?_,?_⟩,?_⟩
  ·rw[numL_step n hk8]
   exact HB.out.set k (by rw[numL_len n (by omega)];omega) _
  ·exact HG.out.setCell (Nat.le_refl _) _
  ·simp[intOf];omega
end
section
open Go.RowKit
structure Rg.ok(n:Nat)(R:Rg):Prop where
 n2:2≤n
 n3:n≤8192
 base:R.base=R.start / 118*118
 sf:R.start≤R.fin
 ft:R.fin≤R.tail
 top:R.tail≤1099511627776
 room:R.tail≤(R.start / 118+n-1)*118
structure RgAt(w:World)(G r d n:Nat)(vb:Value)(R:Rg):Prop where
 box:Box w r [.pointer (some ⟨d,0,none⟩),.int .i64 2,.int .i64 (n:Nat),.int .i64 (R.base:Nat),vb,.int .i64 (R.start:Nat),.int .i64 (R.fin:Nat),.bool false]
 row:w.ownsRow G 5 1 vb R.bytes.length (R.bytes.map B)
 rb:∀q,vb.ownBlock=some q→q≠r
 gr:G≤r
theorem RgAt.grow{X:Nat→Prop}{w w':World}{G r d n:Nat}{vb:Value}{R:Rg}(h:RgAt w G r d n vb R)(hg:GrowX X w w')(h1:¬X r)(h2:∀q,vb.ownBlock=some q→¬X q):RgAt w' G r d n vb R:=
 ⟨h.box.growx hg h1,own_growx h.row hg h2,h.rb,h.gr⟩
def Quiet(w:World)(w':World):Prop:=∃m,w'=w.drewN m
theorem Quiet.grow{X:Nat→Prop}{w w':World}(h:Quiet w w'):GrowX X w w':=by
 obtain⟨m,rfl⟩:=h
 exact⟨rfl,rfl,rfl,Nat.le_refl _,fun _ _ _=>rfl⟩
theorem Quiet.below{w w':World}(h:Quiet w w'):Below w.heap.size w w':=by
 obtain⟨m,rfl⟩:=h
 exact below_dn (Below.refl _ _) m
theorem Quiet.growC{X:Nat→Nat→Prop}{w w':World}(h:Quiet w w'):GrowC X w w':=by
 obtain⟨m,rfl⟩:=h
 exact GrowC.of_grow ⟨rfl,rfl,rfl,Nat.le_refl _,fun _ _=>rfl⟩
section
variable{w:World}{G r d n:Nat}{vb:Value}{R:Rg}
theorem rstart_at(h:RgAt w G r d n vb R):Calls Tryz.prog 96 #[.pointer (some ⟨r,0,none⟩)] w fun e w'=>e=.returned (.int .i64 (R.start:Nat))∧w'=w:=by
 have c1:=h.box.cell 5 _ rfl
 have hlt:=h.box.lt
 clear h
 go_enter Tryz.func96,Tryz.ntmps96
 go_wp2_with fail
 go_ret
 exact⟨rfl,rfl⟩
theorem rend_at(h:RgAt w G r d n vb R):Calls Tryz.prog 83 #[.pointer (some ⟨r,0,none⟩)] w fun e w'=>e=.returned (.int .i64 (R.fin:Nat))∧w'=w:=by
 have c1:=h.box.cell 6 _ rfl
 have hlt:=h.box.lt
 clear h
 go_enter Tryz.func83,Tryz.ntmps83
 go_wp2_with fail
 go_ret
 exact⟨rfl,rfl⟩
theorem rtail_at(h:RgAt w G r d n vb R)(hb:R.tail≤1099511627776):Calls Tryz.prog 97 #[.pointer (some ⟨r,0,none⟩)] w fun e w'=>e=.returned (.int .i64 (R.tail:Nat))∧Quiet w w':=by
 have c1:=h.box.cell 3 _ rfl
 have c2:=h.box.cell 4 _ rfl
 have hlt:=h.box.lt
 obtain⟨ao,cp,e,_⟩:=Reads.of_own h.row
 subst e
 unfold Rg.tail at hb⊢
 obtain⟨m,hm⟩:∃m,R.bytes.length=m:=⟨_,rfl⟩
 rw[hm]at c2 hb⊢
 clear h hm
 go_enter Tryz.func97,Tryz.ntmps97
 go_wp2_with fail
 go_quiet (fail)
 go_wp2_with fail
 go_ret
 refine⟨ret_v ?_,_,rfl⟩
 show Value.int .i64 _=_
 congr 1
theorem rroom_at(h:RgAt w G r d n vb R)(hok:R.ok n):Calls Tryz.prog 88 #[.pointer (some ⟨r,0,none⟩)] w fun e w'=>e=.returned (.int .i64 (R.room n:Nat))∧Quiet w w':=by
 have c1:=h.box.cell 5 _ rfl
 have c2:=h.box.cell 2 _ rfl
 have hlt:=h.box.lt
 have hb:=hok.top
 have hs:R.start≤1099511627776:=by have:=hok.sf;have:=hok.ft;omega
 have hn:=hok.n3
 have hn2:=hok.n2
 have hr:R.tail≤(R.start / 118+n-1)*118:=hok.room
 have hcall:=fun nq=>rtail_at (h.grow (X:=fun _=>False) (Quiet.grow ⟨nq,rfl⟩) (fun h=>h) (fun _ _ h=>h):RgAt (w.drewN nq) G r d n vb R) hb
 unfold Rg.room
 obtain⟨t,ht⟩:∃t,R.tail=t:=⟨_,rfl⟩
 rw[ht]at hb hr hcall⊢
 obtain⟨s,hs'⟩:∃s,R.start=s:=⟨_,rfl⟩
 rw[hs']at hs hr c1⊢
 have HC:=Lib.hid hcall
 clear h hok ht hs' hcall
 go_enter Tryz.func88,Tryz.ntmps88
 go_wp2_with fail
 go_quiet ((go_at_call 97;exact Calls.quiet_of (HC.out _)))
 go_wp2_with fail
 all_goals
  go_ret
  refine⟨ret_v ?_,_,rfl⟩
  show Value.int .i64 _=_
  congr 1
  omega
end
end
section
open Go.RowKit
theorem run_append_any{P:Program}{t e:TypeId}{z:Value}{size bytes:Nat}(T:SliceOf P t e z size bytes)(w:World)(ty:TypeId)(base:Nat)(v:Value)(n:Nat)(xs:List Value)(hown:w.ownsRow base e size v n xs)
  (y:Value) (m:Nat) (news:List Value) (hr:Reads size w y m news) (h1:∀u∈news,u.oneCell'=true) (h63:n+m≤1152921504606846976) (hbytes:(n+m)*bytes≤140737488355328) (hbase:base≤w.heap.size):
  ∃v' w',(Builtin.append_ #[t,t] ty #[v,y]).run P w=.ok v' w'∧w'.ownsRow base e size v' (n+m) (xs++news)∧GrowX (fun b=>v.ownBlock=some b) w w'∧(∀q,v'.ownBlock=some q→v.ownBlock=some q∨w.heap.size≤q):=by
 obtain⟨i,hi,hz0,hz1,hz2⟩:=info_parts T.info
 obtain⟨ao,c,rfl,hl,hmc,hcells⟩:=hr
 rcases Nat.eq_zero_or_pos m with hm|hm
 ·subst hm
  have hnews:news=[]:=List.eq_nil_of_length_eq_zero (by simpa using hl)
  subst hnews
  refine⟨v,w,?_,by simpa using hown,GrowX.refl _,fun q h=>.inl h⟩
  rcases hown.2 with ⟨rfl,_⟩|⟨g,cap,cur,rfl,_,_,hnc,hcm,_,_⟩
  ·exact run_append_zero t ty e i T.und hi none ao 0 0 c (Nat.le_refl _) (fun _=>⟨rfl,rfl⟩)
  ·exact run_append_zero t ty e i T.und hi (some ⟨g,0,none⟩) ao n cap c hnc (fun h=>by cases h)
 ·obtain⟨b,off,rfl,hlt,hc⟩:=hcells hm
  obtain⟨g,cap,w',hrun,h2,h3,h4⟩:=run_append_k (P:=P) w base t ty e i z size bytes T.und hi hz0 hz1 hz2 T.cells T.pos v n xs hown ⟨b,off,none⟩ m c news hl (fun j u hu=>by rw[Addr.add_lit];exact hc j u hu) h1 (by unfold maxLen;omega) hbytes hbase (by omega)
  refine⟨_,w',hrun,h2,GrowX.of_growC h3 (fun k o h=>h.1),fun q hq=>?_⟩
  have e2:g=q:=by simpa[Value.ownBlock]using hq
  subst e2
  exact h4
theorem wpList_append_any{P:Program}{w:World}{ops:Array Oper}{rest:List Oper}{o:Oper}{a:Act}{Q:Exit→Act→World→Prop}
  {t e:TypeId} {z:Value} {size bytes:Nat} (T:SliceOf P t e z size bytes) (s x:Operand) (hgd:o.guard=none)
  (ho:o.op=.call { callee:=.builtin .append,args:=#[s,x],argTypes:=#[t,t] })
  {base:Nat} {v:Value} {n:Nat} {xs:List Value} (hs:a.eval s=v) (hown:w.ownsRow base e size v n xs)
  {y:Value} {m:Nat} {news:List Value} (hx:a.eval x=y) (hr:Reads size w y m news) (h1:∀u∈news,u.oneCell'=true)
  (h63:n+m≤1152921504606846976) (hbytes:(n+m)*bytes≤140737488355328) (hbase:base≤w.heap.size)
  (h:∀ao cap w',w'.ownsRow base e size (.slice ao (n+m) cap) (n+m) (xs++news)→GrowX (fun b=>v.ownBlock=some b) w w'→(∀q,(Value.slice ao (n+m) cap).ownBlock=some q→v.ownBlock=some q∨w.heap.size≤q)→
   wpList P ops Q rest (a.put o.dst (.slice ao (n+m) cap)) w'):wpList P ops Q (o::rest) a w:=by
 obtain⟨v',w',hrun,h2,h3,h4⟩:=run_append_any T w o.type base v n xs hown y m news hr h1 h63 hbytes hbase
 obtain⟨ao,cap,rfl⟩:=own_shape h2
 refine wpList_plain hgd fun K hK=>?_
 unfold Oper.wp
 simp[execOp,ho,resolve,invoke,builtin,hs,hx,hrun,Result.andThen]
 exact hK _ _ (h ao cap w' h2 h3 h4)
end
section
open Go.RowKit
def cutA(ao:Option Addr)(l c K:Nat):Option Addr:=if c=l then ao else ao.map (·.add (l*K))
theorem cutA_own(ao:Option Addr)(l c K h m:Nat)(q:Nat)(e:(Value.slice (cutA ao l c K) h m).ownBlock=some q)(n c':Nat):(Value.slice ao n c').ownBlock=some q:=by
 unfold cutA at e
 cases ao with
 | none=>split at e<;>exact absurd e (by simp[Value.ownBlock])
 | some a=>
  split at e
  ·exact e
  ·simp only[Option.map_some,Value.ownBlock,Addr.add]at e⊢
   rw[←e]
   split<;>rfl
theorem Reads.cutA{w:World}{K n c:Nat}{ao:Option Addr}{xs:List Value}(hr:Reads K w (.slice ao n c) n xs)(l h:Nat)(h1:l≤h)(h2:h≤n):
  Reads K w (.slice (cutA ao l c K) (h-l) (c-l)) (h-l) ((xs.drop (l*K)).take ((h-l)*K)):=by
 obtain⟨ao',cap,e,hl,hc,hcell⟩:=hr
 injection e with e1 _ e3
 subst e1 e3
 have hK:(h-l)*K≤n*K-l*K:=by rw[←Nat.sub_mul];exact Nat.mul_le_mul_right _ (by omega)
 refine⟨_,_,rfl,?_,by omega,fun hpos=>?_⟩
 ·rw[List.length_take,List.length_drop,hl];omega
 ·obtain⟨b,off,rfl,hlt,hx⟩:=hcell (by omega)
  refine⟨b,off+l*K,?_,hlt,fun j u hu=>?_⟩
  ·unfold Go.Proofs.YtpajagkhmodbnaaGreat.cutA
   rw[if_neg (by omega)]
   simp[Addr.add]
  ·rw[List.getElem?_take]at hu
   split at hu
   ·rw[List.getElem?_drop]at hu
    have:=hx _ u hu
    rw[show off+l*K+j=off+(l*K+j) by omega]
    exact this
   ·cases hu
theorem elem_of{P:Program}{t e:TypeId}(h:P.underlying t=some (.slice e)):P.elem t=e:=by simp[Program.elem,h]
section
variable{P:Program}{w:World}{t e:TypeId}{z:Value}{K bytes:Nat}
theorem run_cut(T:SliceOf P t e z K bytes)(ao:Option Addr)(n c l h:Nat)(h1:l≤h)(h2:h≤c):
  (Instr.sliceAt t (.slice ao n c) (some (.int .i64 (l:Int))) (some (.int .i64 (h:Int))) none).run P w=.ok (.slice (cutA ao l c K) (h-l) (c-l)) w:=by
 obtain⟨i,hi,hz0,hz1,hz2⟩:=info_parts T.info
 have ht:P.underlying t=some (.slice (P.elem t)):=by rw[elem_of T.und];exact T.und
 rw[run_sliceAt_slice (P:=P) w t _ _ _ _ ht,run_slice_lh (P:=P) w t ao n c ht .i64 .i64 l h (by omega) (by omega) (by omega)]
 simp[sizeOf,typeInfo,elem_of T.und,hi,Result.andThen,sliced,cutA,hz1]
theorem run_cut_lo(T:SliceOf P t e z K bytes)(ao:Option Addr)(n c l:Nat)(h1:l≤n):
  (Instr.sliceAt t (.slice ao n c) (some (.int .i64 (l:Int))) none none).run P w=.ok (.slice (cutA ao l c K) (n-l) (c-l)) w:=by
 obtain⟨i,hi,hz0,hz1,hz2⟩:=info_parts T.info
 have ht:P.underlying t=some (.slice (P.elem t)):=by rw[elem_of T.und];exact T.und
 rw[run_sliceAt_slice (P:=P) w t _ _ _ _ ht,run_slice_l (P:=P) w t ao n c ht .i64 l (by omega) (by omega)]
 simp[sizeOf,typeInfo,elem_of T.und,hi,Result.andThen,sliced,cutA,hz1]
theorem run_cut_hi(T:SliceOf P t e z K bytes)(ao:Option Addr)(n c h:Nat)(h1:h≤c):
  (Instr.sliceAt t (.slice ao n c) none (some (.int .i64 (h:Int))) none).run P w=.ok (.slice (cutA ao 0 c K) (h-0) (c-0)) w:=by
 obtain⟨i,hi,hz0,hz1,hz2⟩:=info_parts T.info
 have ht:P.underlying t=some (.slice (P.elem t)):=by rw[elem_of T.und];exact T.und
 rw[run_sliceAt_slice (P:=P) w t _ _ _ _ ht,run_slice_h (P:=P) w t ao n c ht .i64 h (by omega) (by omega)]
 simp[sizeOf,typeInfo,elem_of T.und,hi,Result.andThen,sliced,cutA,hz1]
variable{ops:Array Oper}{rest:List Oper}{o:Oper}{a:Act}{Q:Exit→Act→World→Prop}
theorem wpList_cut(T:SliceOf P t e z K bytes)(s lo hi:Operand)(hgd:o.guard=none)(ho:o.op=.slice t s (some lo) (some hi) none)
  {ao:Option Addr} {n c l h m:Nat} (hs:a.eval s=.slice ao n c) (hl:a.eval lo=.int .i64 (l:Int)) (hh:a.eval hi=.int .i64 (h:Int)) (h1:l≤h) (h2:h≤c) (hm:h-l=m)
  (k:wpList P ops Q rest (a.put o.dst (.slice (cutA ao l c K) m (c-l))) w):wpList P ops Q (o::rest) a w:=by
 subst hm
 refine wpList_plain hgd fun K hK=>?_
 unfold Oper.wp
 simp[execOp,ho,hs,hl,hh,run_cut T ao n c l h h1 h2,Result.andThen]
 exact hK _ _ k
theorem wpList_cut_lo(T:SliceOf P t e z K bytes)(s lo:Operand)(hgd:o.guard=none)(ho:o.op=.slice t s (some lo) none none)
  {ao:Option Addr} {n c l:Nat} (hs:a.eval s=.slice ao n c) (hl:a.eval lo=.int .i64 (l:Int)) (h1:l≤n)
  (k:wpList P ops Q rest (a.put o.dst (.slice (cutA ao l c K) (n-l) (c-l))) w):wpList P ops Q (o::rest) a w:=by
 refine wpList_plain hgd fun K hK=>?_
 unfold Oper.wp
 simp[execOp,ho,hs,hl,run_cut_lo T ao n c l h1,Result.andThen]
 exact hK _ _ k
theorem wpList_cut_hi(T:SliceOf P t e z K bytes)(s hi:Operand)(hgd:o.guard=none)(ho:o.op=.slice t s none (some hi) none)
  {ao:Option Addr} {n c h:Nat} (hs:a.eval s=.slice ao n c) (hh:a.eval hi=.int .i64 (h:Int)) (h1:h≤c)
  (k:wpList P ops Q rest (a.put o.dst (.slice (cutA ao 0 c K) h c)) w):wpList P ops Q (o::rest) a w:=by
 refine wpList_plain hgd fun K hK=>?_
 unfold Oper.wp
 simp[execOp,ho,hs,hh,run_cut_hi T ao n c h h1,Result.andThen]
 exact hK _ _ k
end
end
section
open Go.RowKit
def Rg.app(R:Rg)(b:List UInt8):Rg:={ R with bytes:=R.bytes++b }
def RgOwn(r:Nat)(vb:Value)(k:Nat):Prop:=k=r∨vb.ownBlock=some k
def WRTr6(r d n bs L cp q G pos fi HZ:Nat)(ao:Option Addr)(xs:List UInt8)(j b o:Nat):Prop:=False
def PRTr6(r d n bs L cp q G pos fi HZ:Nat)(ao:Option Addr)(xs:List UInt8)(i:Nat)(v:Value)(lo hi:Nat)(w:World):Prop:=
 match i with
 | 0=>v=.pointer (some ⟨r,0,none⟩)
 | 1=>v=.pointer (some ⟨r,0,none⟩)
 | 2=>v=.pointer (some ⟨r,0,none⟩)
 | 3=>v=.pointer (some ⟨r,4,none⟩)
 | 4=>v=.slice ao L cp
 | 5=>v=.int .i64 ((q:Nat):Int)
 | 6=>v=.pointer (some ⟨r,0,none⟩)
 | 7=>v=.pointer (some ⟨r,0,none⟩)
 | 8=>v=.pointer (some ⟨r,3,none⟩)
 | 9=>v=.int .i64 ((bs:Nat):Int)
 | 10=>v=.int .i64 ((q-bs:Nat):Int)
 | 11=>v=.slice (cutA ao (q-bs) cp 1) (L-(q-bs)) (cp-(q-bs))
 | 12=>∃a2 c2,v=.slice a2 (L-(q-bs)) c2∧w.ownsRow G 5 1 (.slice a2 (L-(q-bs)) c2) (L-(q-bs)) ((xs.drop (q-bs)).map B)∧∀b,(Value.slice a2 (L-(q-bs)) c2).ownBlock=some b→HZ≤b
 | 13=>v=.pointer (some ⟨r,0,none⟩)
 | 14=>v=.pointer (some ⟨r,4,none⟩)
 | _=>True
theorem PRTr6_stable(r d n bs L cp q G pos fi HZ:Nat)(ao:Option Addr)(xs:List UInt8)  : ∀i j,i<15→j<15→j≠i→j∉([[],[],[1],[1,2],[1,2,3],[],[],[6],[6,7],[6,7,8],[5,6,7,8,9],[1,2,3,4,5,6,7,8,9,10],[1,2,3,4,5,6,7,8,9,10,11],[0,1,2,3,4,5,6,7,8,9,10,11,12],[0,1,2,3,4,5,6,7,8,9,10,11,12,13]]:List (List Nat)).getD i []→∀v lo hi w w',PRTr6 r d n bs L cp q G pos fi HZ ao xs i v lo hi w→GrowC (WRTr6 r d n bs L cp q G pos fi HZ ao xs j) w w'→PRTr6 r d n bs L cp q G pos fi HZ ao xs i v lo hi w':=by
 intro i j hi hj hne hbs v lo hj2 w w' h hg
 match i,hi with
 | 0,_|1,_|2,_|3,_|4,_|5,_|6,_|7,_|8,_|9,_|10,_|11,_|13,_|14,_=>
  simp only[PRTr6]at h⊢
  exact h
 | 12,_=>
  simp only[PRTr6]at h⊢
  obtain⟨a2,c2,h1,h2,h3⟩:=h
  exact⟨a2,c2,h1,own_growx h2 (GrowX.of_growC hg (Y:=fun _=>False) (fun k o h=>h)) (fun _ _ h=>h),h3⟩
 | (q+15),hq=>exact absurd hq (by omega)
def WRRd3(r d n bs L cp p k G st fi HZ:Nat)(ao:Option Addr)(xs:List UInt8)(j b o:Nat):Prop:=False
def PRRd3(r d n bs L cp p k G st fi HZ:Nat)(ao:Option Addr)(xs:List UInt8)(i:Nat)(v:Value)(lo hi:Nat)(w:World):Prop:=
 match i with
 | 0=>v=.pointer (some ⟨r,0,none⟩)
 | 1=>v=.pointer (some ⟨r,0,none⟩)
 | 2=>v=.pointer (some ⟨r,4,none⟩)
 | 3=>v=.slice ao L cp
 | 4=>v=.int .i64 ((p:Nat):Int)
 | 5=>v=.pointer (some ⟨r,0,none⟩)
 | 6=>v=.pointer (some ⟨r,0,none⟩)
 | 7=>v=.pointer (some ⟨r,3,none⟩)
 | 8=>v=.int .i64 ((bs:Nat):Int)
 | 9=>v=.int .i64 ((p-bs:Nat):Int)
 | 10=>v=.int .i64 ((p:Nat):Int)
 | 11=>v=.pointer (some ⟨r,0,none⟩)
 | 12=>v=.pointer (some ⟨r,0,none⟩)
 | 13=>v=.pointer (some ⟨r,3,none⟩)
 | 14=>v=.int .i64 ((bs:Nat):Int)
 | 15=>v=.int .i64 ((p-bs:Nat):Int)
 | 16=>v=.int .i64 ((k:Nat):Int)
 | 17=>v=.int .i64 ((p-bs+k:Nat):Int)
 | 18=>v=.slice (cutA ao (p-bs) cp 1) k (cp-(p-bs))
 | _=>True
theorem PRRd3_stable(r d n bs L cp p k G st fi HZ:Nat)(ao:Option Addr)(xs:List UInt8)  : ∀i j,i<19→j<19→j≠i→j∉([[],[0],[0,1],[0,1,2],[],[],[5],[5,6],[5,6,7],[4,5,6,7,8],[],[],[11],[11,12],[11,12,13],[10,11,12,13,14],[],[10,11,12,13,14,15,16],[0,1,2,3,4,5,6,7,8,9,10,11,12,13,14,15,16,17]]:List (List Nat)).getD i []→∀v lo hi w w',PRRd3 r d n bs L cp p k G st fi HZ ao xs i v lo hi w→GrowC (WRRd3 r d n bs L cp p k G st fi HZ ao xs j) w w'→PRRd3 r d n bs L cp p k G st fi HZ ao xs i v lo hi w':=by
 intro i j hi hj hne hbs v lo hj2 w w' h hg
 match i,hi with
 | 0,_|1,_|2,_|3,_|4,_|5,_|6,_|7,_|8,_|9,_|10,_|11,_|12,_|13,_|14,_|15,_|16,_|17,_|18,_=>
  simp only[PRRd3]at h⊢
  exact h
 | (q+19),hq=>exact absurd hq (by omega)
section
variable{w:World}{G r d n:Nat}{vb:Value}{R:Rg}
set_option maxRecDepth 100000 in
set_option maxHeartbeats 1600000 in
theorem rappend_full(h:RgAt w G r d n vb R)(hok:R.ok n)(ao:Option Addr)(m c:Nat)(hm:R.room n<m):
  Calls Tryz.prog 98 #[.pointer (some ⟨r,0,none⟩),.slice ao m c] w fun e w'=>e=.returned (.int .i64 60)∧Quiet w w':=by
 have c1:=h.box.cell 7 _ rfl
 have hlt:=h.box.lt
 have hcall:=rroom_at h hok
 have hb:decide ((m:Int)>(R.room n:Nat))=true:=by simp;omega
 have hb2:decide (R.room n<m)=true:=by simpa using hm
 have HC:=Lib.hid hcall
 generalize R.room n=q at *
 clear hcall h hok
 go_enter Tryz.func98,Tryz.ntmps98
 go_wp2_with fail
 refine HC.out.mono ?_
 rintro e y ⟨rfl,hq⟩
 have HQ:=Lib.hid hq
 clear hq
 go_wp2_with fail
 go_ret
 exact⟨rfl,HQ.out⟩
set_option maxRecDepth 100000 in
set_option maxHeartbeats 1600000 in
theorem rappend_at(h:RgAt w G r d n vb R)(hok:R.ok n)(hG:G≤w.heap.size)(b:List UInt8)(ao:Option Addr)(m c:Nat)(hv:Reads 1 w (.slice ao m c) m (b.map B))(hm:m≤R.room n)(hm2:m≤1099511627776):
  Calls Tryz.prog 98 #[.pointer (some ⟨r,0,none⟩),.slice ao m c] w fun e w'=>∃vb',e=.returned (.int .i64 0)∧RgAt w' G r d n vb' (R.app b)∧GrowX (RgOwn r vb) w w'∧(∀q,vb'.ownBlock=some q→vb.ownBlock=some q∨w.heap.size≤q):=by
 have c1:=h.box.cell 7 _ rfl
 have hlt:=h.box.lt
 have hcall:=rroom_at h hok
 have hb:decide ((m:Int)>(R.room n:Nat))=false:=by simp;omega
 have hb2:decide (R.room n<m)=false:=by simpa using hm
 have HC:=Lib.hid hcall
 have HB:=Lib.hid h
 have HV:=Lib.hid hv
 have hbl:R.bytes.length≤1099511627776:=by have:=hok.top;unfold Rg.tail at this;omega
 obtain⟨L,hL⟩:∃L,R.bytes.length=L:=⟨_,rfl⟩
 have HL:=Lib.hid hL
 rw[hL]at hbl
 obtain⟨q,hq⟩:∃q,R.room n=q:=⟨_,rfl⟩
 rw[hq]at hb hb2 hm HC
 clear hcall h hok hv hL hq
 go_enter Tryz.func98,Tryz.ntmps98
 go_wp2_with fail
 refine HC.out.mono ?_
 rintro e y ⟨rfl,hq⟩
 have HQ:=Lib.hid hq
 have hrg:=HB.out.grow (X:=fun _=>False) hq.grow (fun h=>h) (fun _ _ h=>h)
 have c4:=hrg.box.cell 4 _ rfl
 have clt:=hrg.box.lt
 have HR:=Lib.hid hrg
 have hrow:y.ownsRow G 5 1 vb L (R.bytes.map B):=by rw[←HL.out];exact hrg.row
 obtain⟨bo,cp,evb⟩:=own_shape hrow
 subst evb
 have HRW:=Lib.hid hrow
 have HRD:Hid (Reads 1 y (.slice ao m c) m (b.map B)):=Lib.hid (HV.out.growx (X:=fun _=>False) hq.grow (fun _ _ h=>h))
 have hsz:w.heap.size≤y.heap.size:=hq.below.size
 clear hq hrg hrow c1 hlt
 go_wp2_with (at_builtin;refine wpList_append_any bytesOf (.tmp 18) (.tmp 19) rfl rfl rfl HRW.out rfl HRD.out (Bs_one _) (by omega) (by omega) (by omega) ?_;intro ob cq wq ho2 hg2 hn2;have hbx2:=HR.out.box.growx hg2 (fun e=>HR.out.rb r e rfl);have HX2:=Lib.hid hbx2;have HO2:=Lib.hid ho2;have HG2:Hid (GrowX (fun b=>(Value.slice bo L cp).ownBlock=some b) y wq):=Lib.hid hg2;have HN2:Hid (∀q,(Value.slice ob (L+m) cq).ownBlock=some q→(Value.slice bo L cp).ownBlock=some q∨y.heap.size≤q):=Lib.hid hn2;have d4:=hbx2.cell 4 _ rfl;have dfz:=hbx2.free;have dlt:=hbx2.lt;clear hbx2 ho2 hg2 hn2 c4 clt)
 go_ret
 have k3:=growX_setCell wq r 4 (.slice ob (L+m) cq)
 have hne:∀q,(Value.slice ob (L+m) cq).ownBlock=some q→q≠r:=fun q e=>(HN2.out q e).elim (HB.out.rb q) (fun h=>by have:=HB.out.box.lt;omega)
 refine⟨_,rfl,⟨HX2.out.setCell 4 _,?_,hne,HB.out.gr⟩,?_,fun q e=>(HN2.out q e).imp id (fun h=>by omega)⟩
 ·have e1:(R.app b).bytes.length=L+m:=by
   obtain⟨_,_,e,hl,_⟩:=HRD.out
   rw[List.length_map]at hl
   show(R.bytes++b).length=_
   rw[List.length_append,HL.out];omega
  have e2:(R.app b).bytes.map B=R.bytes.map B++b.map B:=List.map_append
  rw[e1,e2]
  exact own_growx HO2.out k3 hne
 ·exact((HQ.out.grow (X:=RgOwn r (.slice bo L cp))).trans (HG2.out.mono (fun k e=>.inr e))).trans (k3.mono (fun k e=>.inl e))
set_option maxRecDepth 100000 in
set_option maxHeartbeats 1600000 in
theorem rtrim_at(h:RgAt w G r d n vb R)(hok:R.ok n)(hG:G≤w.heap.size)(pos:Nat)(h1:R.start≤pos)(h2:pos≤R.fin):
  Calls Tryz.prog 127 #[.pointer (some ⟨r,0,none⟩),.int .i64 (pos:Nat)] w fun e w'=>∃vb',e=.returned (.int .i64 0)∧RgAt w' G r d n vb' (R.trim pos)∧GrowX (fun k=>k=r) w w'∧(∀q,vb'.ownBlock=some q→vb.ownBlock=some q∨w.heap.size≤q):=by
 have HB:=Lib.hid h
 obtain⟨bs,xs,st,fi⟩:=R
 have hft:=hok.ft
 have htop:=hok.top
 have hbse:=hok.base
 unfold Rg.tail at hft htop
 simp only at h1 h2 hft htop hbse
 obtain⟨L,hL⟩:∃L,xs.length=L:=⟨_,rfl⟩
 have hrow:=h.row
 have c5:=h.box.cell 5 _ rfl
 have c6:=h.box.cell 6 _ rfl
 have hfz:=h.box.free
 have hlt:=h.box.lt
 simp only at hrow c5 c6
 rw[hL]at hft htop hrow
 obtain⟨ao,cp,evb⟩:=own_shape hrow
 subst evb
 have b1:decide ((pos:Int)<(st:Int))=false:=by simp;omega
 have b2:decide (pos<st)=false:=by simp;omega
 have b3:decide ((pos:Int)>(fi:Int))=false:=by simp;omega
 have b4:decide (fi<pos)=false:=by simp;omega
 obtain⟨q,hq⟩:∃q,pos / 118*118=q:=⟨_,rfl⟩
 have hqi:(pos:Int) / 118*118=(q:Int):=by omega
 have hqp:q≤pos:=by omega
 have hbq:bs≤q:=by omega
 have hqL:q-bs≤L:=by omega
 have HL:=Lib.hid hL
 have HRW:=Lib.hid hrow
 have HQ:=Lib.hid hq
 have hpl:pos≤1099511627776:=by omega
 obtain⟨x1,x2⟩:=Box.set1 h.box 5 (.int .i64 (pos:Nat))
 have hX1:Hid (Box (w.setCell ⟨r,5,none⟩ (.int .i64 (pos:Nat))) r [.pointer (some ⟨d,0,none⟩),.int .i64 2,.int .i64 (n:Nat),.int .i64 (bs:Nat),.slice ao L cp,.int .i64 (pos:Nat),.int .i64 (fi:Nat),.bool false]):=Lib.hid x1
 have k1:GrowX (fun k=>k=r) w (w.setCell ⟨r,5,none⟩ (.int .i64 (pos:Nat))):=growX_setCell _ _ _ _
 have hR1:Hid ((w.setCell ⟨r,5,none⟩ (.int .i64 (pos:Nat))).ownsRow G 5 1 (.slice ao L cp) L (xs.map B)):=Lib.hid (own_growx hrow k1 (fun q e e2=>h.rb q e e2))
 have hK1:=Lib.hid k1
 clear x1 x2 k1 h hok hbse hL hrow hq
 go_enter Tryz.func127,Tryz.ntmps127
 by_cases hgt:bs<q
 ·have b5:decide ((q:Int)-(bs:Int)>0)=true:=by simp;omega
  have b6:decide ((0:Int)<(q:Int)-(bs:Int))=true:=by simp;omega
  have d3:=hX1.out.cell 3 _ rfl
  have dlt:=hX1.out.lt
  go_upto_region 6 with (fail)
  clear d3 dlt c5 c6 hfz hlt b1 b2 b3 b4 b5 b6
  have br:=hX1.out
  have HRD:=Lib.hid (Reads.of_own hR1.out)
  have HXL:Hid (xs.length=L):=HL
  have HW1:=Lib.hid hK1.out.size
  generalize w.setCell ⟨r,5,none⟩ (.int .i64 (pos:Nat))=w1 at *
  have hw1:w.heap.size≤w1.heap.size:=HW1.out
  have hB:Below w1.heap.size w1 w1:=Below.refl _ _
  refine wp_region_partsDC (WRTr6 r d n bs L cp q G pos fi (w1.heap.size) ao xs) 15 [[],[],[1],[1,2],[1,2,3],[],[],[6],[6,7],[6,7,8],[5,6,7,8,9],[1,2,3,4,5,6,7,8,9,10],[1,2,3,4,5,6,7,8,9,10,11],[0,1,2,3,4,5,6,7,8,9,10,11,12],[0,1,2,3,4,5,6,7,8,9,10,11,12,13]] [some 34,some 35,some 36,some 37,some 38,some 39,some 40,some 41,some 42,some 43,some 44,some 45,some 46,some 47,some 48,none] (by kernel_rfl) (by kernel_rfl) rfl (PRTr6 r d n bs L cp q G pos fi (w1.heap.size) ao xs) (PRTr6_stable r d n bs L cp q G pos fi (w1.heap.size) ao xs) ?pRTr6 ?_
  case pRTr6=>
   intro i hi o ho vs lo hx_ w' hg hp
   match i,hi with
   | 0,_|1,_|5,_|6,_=>
    obtain rfl:=Option.some.inj ho
    clear ho
    simp only[actsD,Act.put,actL]
    have hsz:=hg.size
    have hgB:Below w1.heap.size w1 w':=hg.below (fun k hk=>⟨hk,fun o=>by rintro⟨j,_,_,_,hw⟩;exact False.elim hw⟩)
    go_wp2
    exact⟨_,rfl,GrowC.refl _,rfl⟩
   | 2,_=>
    obtain rfl:=Option.some.inj ho
    clear ho
    simp only[actsD,Act.put,actL]
    obtain⟨_,_,_,h1⟩:=hp 1 (by simp)
    simp only[PRTr6]at h1
    have hsz:=hg.size
    have hgB:Below w1.heap.size w1 w':=hg.below (fun k hk=>⟨hk,fun o=>by rintro⟨j,_,_,_,hw⟩;exact False.elim hw⟩)
    rw[h1]
    go_wp2
    exact⟨_,rfl,GrowC.refl _,rfl⟩
   | 3,_=>
    obtain rfl:=Option.some.inj ho
    clear ho
    simp only[actsD,Act.put,actL]
    obtain⟨_,_,_,h2⟩:=hp 2 (by simp)
    simp only[PRTr6]at h2
    have hsz:=hg.size
    have hgB:Below w1.heap.size w1 w':=hg.below (fun k hk=>⟨hk,fun o=>by rintro⟨j,_,_,_,hw⟩;exact False.elim hw⟩)
    rw[h2]
    go_wp2
    exact⟨_,rfl,GrowC.refl _,rfl⟩
   | 4,_=>
    obtain rfl:=Option.some.inj ho
    clear ho
    simp only[actsD,Act.put,actL]
    obtain⟨_,_,_,h3⟩:=hp 3 (by simp)
    simp only[PRTr6]at h3
    have hsz:=hg.size
    have hgB:Below w1.heap.size w1 w':=hg.below (fun k hk=>⟨hk,fun o=>by rintro⟨j,_,_,_,hw⟩;exact False.elim hw⟩)
    rw[h3]
    have e0:=(hg.cell (r) 4 br.lt (by rintro⟨j,_,hne,hb,hw⟩;exact False.elim hw)).trans (br.cell 4 _ rfl)
    go_wp2
    exact⟨_,rfl,GrowC.refl _,rfl⟩
   | 7,_=>
    obtain rfl:=Option.some.inj ho
    clear ho
    simp only[actsD,Act.put,actL]
    obtain⟨_,_,_,h6⟩:=hp 6 (by simp)
    simp only[PRTr6]at h6
    have hsz:=hg.size
    have hgB:Below w1.heap.size w1 w':=hg.below (fun k hk=>⟨hk,fun o=>by rintro⟨j,_,_,_,hw⟩;exact False.elim hw⟩)
    rw[h6]
    go_wp2
    exact⟨_,rfl,GrowC.refl _,rfl⟩
   | 8,_=>
    obtain rfl:=Option.some.inj ho
    clear ho
    simp only[actsD,Act.put,actL]
    obtain⟨_,_,_,h7⟩:=hp 7 (by simp)
    simp only[PRTr6]at h7
    have hsz:=hg.size
    have hgB:Below w1.heap.size w1 w':=hg.below (fun k hk=>⟨hk,fun o=>by rintro⟨j,_,_,_,hw⟩;exact False.elim hw⟩)
    rw[h7]
    go_wp2
    exact⟨_,rfl,GrowC.refl _,rfl⟩
   | 9,_=>
    obtain rfl:=Option.some.inj ho
    clear ho
    simp only[actsD,Act.put,actL]
    obtain⟨_,_,_,h8⟩:=hp 8 (by simp)
    simp only[PRTr6]at h8
    have hsz:=hg.size
    have hgB:Below w1.heap.size w1 w':=hg.below (fun k hk=>⟨hk,fun o=>by rintro⟨j,_,_,_,hw⟩;exact False.elim hw⟩)
    rw[h8]
    have e0:=(hg.cell (r) 3 br.lt (by rintro⟨j,_,hne,hb,hw⟩;exact False.elim hw)).trans (br.cell 3 _ rfl)
    go_wp2
    exact⟨_,rfl,GrowC.refl _,rfl⟩
   | 10,_=>
    obtain rfl:=Option.some.inj ho
    clear ho
    simp only[actsD,Act.put,actL]
    obtain⟨_,_,_,h5⟩:=hp 5 (by simp)
    simp only[PRTr6]at h5
    obtain⟨_,_,_,h9⟩:=hp 9 (by simp)
    simp only[PRTr6]at h9
    have hsz:=hg.size
    have hgB:Below w1.heap.size w1 w':=hg.below (fun k hk=>⟨hk,fun o=>by rintro⟨j,_,_,_,hw⟩;exact False.elim hw⟩)
    rw[h5,h9]
    go_wp2
    refine⟨_,rfl,GrowC.refl _,?_⟩
    simp only[PRTr6]
    first|omega|(congr 1<;>omega)|skip
   | 11,_=>
    obtain rfl:=Option.some.inj ho
    clear ho
    simp only[actsD,Act.put,actL]
    obtain⟨_,_,_,h4⟩:=hp 4 (by simp)
    simp only[PRTr6]at h4
    obtain⟨_,_,_,h10⟩:=hp 10 (by simp)
    simp only[PRTr6]at h10
    have hsz:=hg.size
    have hgB:Below w1.heap.size w1 w':=hg.below (fun k hk=>⟨hk,fun o=>by rintro⟨j,_,_,_,hw⟩;exact False.elim hw⟩)
    rw[h4,h10]
    refine wpList_cut_lo bytesOf (.tmp 38) (.tmp 44) rfl rfl rfl rfl (by omega) ?_
    go_wp2
    exact⟨_,rfl,GrowC.refl _,rfl⟩
   | 12,_=>
    obtain rfl:=Option.some.inj ho
    clear ho
    simp only[actsD,Act.put,actL]
    obtain⟨_,_,_,h11⟩:=hp 11 (by simp)
    simp only[PRTr6]at h11
    have hsz:=hg.size
    have hgB:Below w1.heap.size w1 w':=hg.below (fun k hk=>⟨hk,fun o=>by rintro⟨j,_,_,_,hw⟩;exact False.elim hw⟩)
    rw[h11]
    have hrd:Reads 1 w' (.slice ao L cp) L (xs.map B):=HRD.out.below hgB (Nat.le_refl _)
    have hcut:=hrd.cutA (q-bs) L (by omega) (Nat.le_refl _)
    have hcx:((xs.map B).drop ((q-bs)*1)).take ((L-(q-bs))*1)=(xs.drop (q-bs)).map B:=by rw[Nat.mul_one,Nat.mul_one,List.map_drop,List.take_of_length_le];rw[List.length_drop,List.length_map,HXL.out];omega
    rw[hcx]at hcut
    go_wp2_with (at_builtin;refine wpList_append_any bytesOf (.const (.slice none 0 0)) (.tmp 45) rfl rfl (base:=G) rfl (World.ownsRow_nil _ _ _ _) rfl hcut (Bs_one _) (by omega) (by omega) (by have:=hgB.size;omega) ?_;intro ob cq wq ho2 hg2 hn2)
    have ho3:wq.ownsRow G 5 1 (.slice ob (L-(q-bs)) cq) (L-(q-bs)) ((xs.drop (q-bs)).map B):=by have:=ho2;simpa using this
    exact⟨_,rfl,GrowC.of_grow ⟨hg2.os,hg2.tape,hg2.output,hg2.size,fun k hk=>hg2.block k hk (fun e=>by cases e)⟩,ob,cq,rfl,ho3,fun b e=>(hn2 b (by rw[Nat.zero_add];exact e)).elim (fun e=>by cases e) (fun h=>Nat.le_trans hgB.size h)⟩
   | 13,_=>
    obtain rfl:=Option.some.inj ho
    clear ho
    simp only[actsD,Act.put,actL]
    obtain⟨_,_,_,h0⟩:=hp 0 (by simp)
    simp only[PRTr6]at h0
    have hsz:=hg.size
    have hgB:Below w1.heap.size w1 w':=hg.below (fun k hk=>⟨hk,fun o=>by rintro⟨j,_,_,_,hw⟩;exact False.elim hw⟩)
    rw[h0]
    go_wp2
    exact⟨_,rfl,GrowC.refl _,rfl⟩
   | 14,_=>
    obtain rfl:=Option.some.inj ho
    clear ho
    simp only[actsD,Act.put,actL]
    obtain⟨_,_,_,h13⟩:=hp 13 (by simp)
    simp only[PRTr6]at h13
    have hsz:=hg.size
    have hgB:Below w1.heap.size w1 w':=hg.below (fun k hk=>⟨hk,fun o=>by rintro⟨j,_,_,_,hw⟩;exact False.elim hw⟩)
    rw[h13]
    go_wp2
    exact⟨_,rfl,GrowC.refl _,rfl⟩
   | (q+15),hq=>exact absurd hq (by omega)
  intro vS lo hi w6 hg hp hd
  obtain⟨_,_,_,h0⟩:=hp 0 (by decide)
  obtain⟨_,_,_,h1⟩:=hp 1 (by decide)
  obtain⟨_,_,_,h2⟩:=hp 2 (by decide)
  obtain⟨_,_,_,h3⟩:=hp 3 (by decide)
  obtain⟨_,_,_,h4⟩:=hp 4 (by decide)
  obtain⟨_,_,_,h5⟩:=hp 5 (by decide)
  obtain⟨_,_,_,h6⟩:=hp 6 (by decide)
  obtain⟨_,_,_,h7⟩:=hp 7 (by decide)
  obtain⟨_,_,_,h8⟩:=hp 8 (by decide)
  obtain⟨_,_,_,h9⟩:=hp 9 (by decide)
  obtain⟨_,_,_,h10⟩:=hp 10 (by decide)
  obtain⟨_,_,_,h11⟩:=hp 11 (by decide)
  obtain⟨_,_,_,h12⟩:=hp 12 (by decide)
  obtain⟨_,_,_,h13⟩:=hp 13 (by decide)
  obtain⟨_,_,_,h14⟩:=hp 14 (by decide)
  simp only[PRTr6]at h0 h1 h2 h3 h4 h5 h6 h7 h8 h9 h10 h11 h12 h13 h14
  clear hp hd
  have hsz:=hg.size
  replace br:=br.grow hg (by intro i _;rintro⟨j,_,hw⟩;exact False.elim hw)
  replace hB:=hB.trans (hg.below (fun k hk=>⟨by omega,fun o=>by rintro⟨j,_,hw⟩;exact False.elim hw⟩))
  have hr:List.range 15=[0,1,2,3,4,5,6,7,8,9,10,11,12,13,14]:=rfl
  rw[hr]
  clear hr
  simp only[List.drop_succ_cons,List.drop_zero,List.drop_nil,actsD,Act.put,actL,h0,h1,h2,h3,h4,h5,h6,h7,h8,h9,h10,h11,h13,h14]
  clear h0 h1 h2 h3 h4 h5 h6 h7 h8 h9 h10 h11 h13 h14
  obtain⟨a2,c2,e12,o12,n12⟩:=h12
  rw[e12]
  have O12:=Lib.hid o12
  have N12:=Lib.hid n12
  have BR:=Lib.hid br
  have HBW:=Lib.hid hB
  have d4:=br.cell 4 _ rfl
  have d3:=br.cell 3 _ rfl
  have dfz:=br.free
  have dlt:=br.lt
  clear br e12 o12 n12 hB hg
  go_wp2_with fail
  go_ret
  have hne:∀k,(Value.slice a2 (L-(q-bs)) c2).ownBlock=some k→k≠r:=fun k e=>by have:=N12.out k e;have:=hX1.out.lt;omega
  have k3:=growX_setCell w6 r 4 (.slice a2 (L-(q-bs)) c2)
  have k4:=growX_setCell (w6.setCell ⟨r,4,none⟩ (.slice a2 (L-(q-bs)) c2)) r 3 (.int .i64 (q:Nat))
  have e1:Rg.trim ⟨bs,xs,st,fi⟩ pos=⟨q,xs.drop (q-bs),pos,fi⟩:=by unfold Rg.trim;simp only[HQ.out];rw[if_pos hgt]
  rw[e1]
  refine⟨.slice a2 (L-(q-bs)) c2,rfl,⟨(BR.out.setCell 4 _).setCell 3 _,?_,hne,HB.out.gr⟩,((hK1.out.trans (grow_below HBW.out)).trans k3).trans k4,fun k e=>.inr (by have:=N12.out k e;omega)⟩
  have e2:(xs.drop (q-bs)).length=L-(q-bs):=by rw[List.length_drop,HL.out]
  show World.ownsRow _ G 5 1 _ (xs.drop (q-bs)).length _
  rw[e2]
  exact own_growx (own_growx O12.out k3 hne) k4 hne
 ·have b5:decide ((q:Int)-(bs:Int)>0)=false:=by simp;omega
  have b6:decide ((0:Int)<(q:Int)-(bs:Int))=false:=by simp;omega
  have d3:=hX1.out.cell 3 _ rfl
  have dlt:=hX1.out.lt
  go_wp2_with fail
  go_ret
  have e1:Rg.trim ⟨bs,xs,st,fi⟩ pos=⟨bs,xs,pos,fi⟩:=by unfold Rg.trim;simp only[HQ.out];rw[if_neg hgt]
  rw[e1]
  refine⟨.slice ao L cp,rfl,⟨hX1.out,?_,HB.out.rb,HB.out.gr⟩,hK1.out,fun k e=>.inl e⟩
  show World.ownsRow _ G 5 1 _ xs.length _
  rw[HL.out]
  exact hR1.out
set_option maxRecDepth 100000 in
set_option maxHeartbeats 1600000 in
theorem rread_at(h:RgAt w G r d n vb R)(hok:R.ok n)(p k:Nat)(h1:R.start≤p)(h2:p+k≤R.tail):
  Calls Tryz.prog 137 #[.pointer (some ⟨r,0,none⟩),.int .i64 (p:Nat),.int .i64 (k:Nat)] w fun e w'=>∃v,e=.returned (.tuple #[v,.int .i64 0])∧w'.ownsRow w.heap.size 5 1 v k (((R.bytes.drop (p-R.base)).take k).map B)∧Below w.heap.size w w':=by
 have HB:=Lib.hid h
 have hok0:=hok
 have hcall:=fun nq=>rtail_at (h.grow (X:=fun _=>False) (Quiet.grow ⟨nq,rfl⟩) (fun h=>h) (fun _ _ h=>h):RgAt (w.drewN nq) G r d n vb R) hok.top
 have hcall0:=rtail_at h hok.top
 obtain⟨bs,xs,st,fi⟩:=R
 have htop:=hok.top
 have hbse:=hok.base
 have hsf:=hok.sf
 have hft:=hok.ft
 obtain⟨t,ht⟩:∃t,Rg.tail ⟨bs,xs,st,fi⟩=t:=⟨_,rfl⟩
 rw[ht]at hcall hcall0 h2 htop hft
 unfold Rg.tail at ht
 simp only at h1 h2 hft htop hbse hsf ht
 obtain⟨L,hL⟩:∃L,xs.length=L:=⟨_,rfl⟩
 have hrow:=h.row
 have c5:=h.box.cell 5 _ rfl
 have hlt:=h.box.lt
 simp only at hrow c5
 rw[hL]at hrow ht
 obtain⟨ao,cp,evb⟩:=own_shape hrow
 subst evb
 have hLc:L≤cp:=by obtain⟨_,_,e,_,hc,_⟩:=Reads.of_own hrow;injection e with _ _ e3;omega
 have b0:decide ((k:Int)<0)=false:=by simp
 have b1:decide ((p:Int)<(st:Int))=false:=by simp;omega
 have b2:decide (p<st)=false:=by simp;omega
 have b3:decide ((p:Int)>(t:Int))=false:=by simp;omega
 have b4:decide (t<p)=false:=by simp;omega
 have b5:decide ((k:Int)>(t:Int)-(p:Int))=false:=by simp;omega
 have b6:decide ((t:Int)-(p:Int)<(k:Int))=false:=by simp;omega
 have hbp:bs≤p:=by omega
 have hpL:p-bs+k≤L:=by omega
 have HL:=Lib.hid hL
 have HRD:=Lib.hid (Reads.of_own hrow)
 have HC:=Lib.hid hcall
 have HC0:=Lib.hid hcall0
 have HOK:=Lib.hid hok0
 have hpl:p+k≤1099511627776:=by omega
 have HT:=Lib.hid ht
 clear h hok hok0 hbse hsf hft hL hrow hcall hcall0 ht h1 h2
 go_enter Tryz.func137,Tryz.ntmps137
 go_wp2_with fail
 refine HC0.out.mono ?_
 rintro e y ⟨rfl,nq,rfl⟩
 go_wp2_with fail
 refine(HC.out nq).mono ?_
 rintro e y ⟨rfl,nq2,rfl⟩
 rw[World.drewN_drewN]
 go_upto_region 3 with (fail)
 have hqq:Quiet w (w.drewN (nq+nq2)):=⟨_,rfl⟩
 have HQQ:=Lib.hid hqq
 have hR1:=HB.out.grow (X:=fun _=>False) hqq.grow (fun h=>h) (fun _ _ h=>h)
 have br:=hR1.box
 have hRDW:=(Reads.of_own hR1.row)
 simp only at br hRDW
 rw[HL.out]at hRDW
 have HRD:=Lib.hid hRDW
 clear hqq hR1 hRDW c5 hlt b0 b1 b2 b3 b4 b5 b6
 generalize w.drewN (nq+nq2)=w1 at *
 have hw1:w.heap.size≤w1.heap.size:=HQQ.out.below.size
 have hB:Below w1.heap.size w1 w1:=Below.refl _ _
 refine wp_region_partsDC (WRRd3 r d n bs L cp p k G st fi (w.heap.size) ao xs) 19 [[],[0],[0,1],[0,1,2],[],[],[5],[5,6],[5,6,7],[4,5,6,7,8],[],[],[11],[11,12],[11,12,13],[10,11,12,13,14],[],[10,11,12,13,14,15,16],[0,1,2,3,4,5,6,7,8,9,10,11,12,13,14,15,16,17]] [some 32,some 33,some 34,some 35,some 36,some 37,some 38,some 39,some 40,some 41,some 42,some 43,some 44,some 45,some 46,some 47,some 48,some 49,some 50,some 51,some 6,some 7] (by kernel_rfl) (by kernel_rfl) rfl (PRRd3 r d n bs L cp p k G st fi (w.heap.size) ao xs) (PRRd3_stable r d n bs L cp p k G st fi (w.heap.size) ao xs) ?pRRd3 ?_
 case pRRd3=>
  intro i hi o ho vs lo hx_ w' hg hp
  match i,hi with
  | 0,_|4,_|5,_|10,_|11,_|16,_=>
   obtain rfl:=Option.some.inj ho
   clear ho
   simp only[actsD,Act.put,actL]
   have hsz:=hg.size
   have hgB:Below w1.heap.size w1 w':=hg.below (fun k hk=>⟨hk,fun o=>by rintro⟨j,_,_,_,hw⟩;exact False.elim hw⟩)
   go_wp2
   exact⟨_,rfl,GrowC.refl _,rfl⟩
  | 1,_=>
   obtain rfl:=Option.some.inj ho
   clear ho
   simp only[actsD,Act.put,actL]
   obtain⟨_,_,_,h0⟩:=hp 0 (by simp)
   simp only[PRRd3]at h0
   have hsz:=hg.size
   have hgB:Below w1.heap.size w1 w':=hg.below (fun k hk=>⟨hk,fun o=>by rintro⟨j,_,_,_,hw⟩;exact False.elim hw⟩)
   rw[h0]
   go_wp2
   exact⟨_,rfl,GrowC.refl _,rfl⟩
  | 2,_=>
   obtain rfl:=Option.some.inj ho
   clear ho
   simp only[actsD,Act.put,actL]
   obtain⟨_,_,_,h1⟩:=hp 1 (by simp)
   simp only[PRRd3]at h1
   have hsz:=hg.size
   have hgB:Below w1.heap.size w1 w':=hg.below (fun k hk=>⟨hk,fun o=>by rintro⟨j,_,_,_,hw⟩;exact False.elim hw⟩)
   rw[h1]
   go_wp2
   exact⟨_,rfl,GrowC.refl _,rfl⟩
  | 3,_=>
   obtain rfl:=Option.some.inj ho
   clear ho
   simp only[actsD,Act.put,actL]
   obtain⟨_,_,_,h2⟩:=hp 2 (by simp)
   simp only[PRRd3]at h2
   have hsz:=hg.size
   have hgB:Below w1.heap.size w1 w':=hg.below (fun k hk=>⟨hk,fun o=>by rintro⟨j,_,_,_,hw⟩;exact False.elim hw⟩)
   rw[h2]
   have e0:=(hg.cell (r) 4 br.lt (by rintro⟨j,_,hne,hb,hw⟩;exact False.elim hw)).trans (br.cell 4 _ rfl)
   go_wp2
   exact⟨_,rfl,GrowC.refl _,rfl⟩
  | 6,_=>
   obtain rfl:=Option.some.inj ho
   clear ho
   simp only[actsD,Act.put,actL]
   obtain⟨_,_,_,h5⟩:=hp 5 (by simp)
   simp only[PRRd3]at h5
   have hsz:=hg.size
   have hgB:Below w1.heap.size w1 w':=hg.below (fun k hk=>⟨hk,fun o=>by rintro⟨j,_,_,_,hw⟩;exact False.elim hw⟩)
   rw[h5]
   go_wp2
   exact⟨_,rfl,GrowC.refl _,rfl⟩
  | 7,_=>
   obtain rfl:=Option.some.inj ho
   clear ho
   simp only[actsD,Act.put,actL]
   obtain⟨_,_,_,h6⟩:=hp 6 (by simp)
   simp only[PRRd3]at h6
   have hsz:=hg.size
   have hgB:Below w1.heap.size w1 w':=hg.below (fun k hk=>⟨hk,fun o=>by rintro⟨j,_,_,_,hw⟩;exact False.elim hw⟩)
   rw[h6]
   go_wp2
   exact⟨_,rfl,GrowC.refl _,rfl⟩
  | 8,_=>
   obtain rfl:=Option.some.inj ho
   clear ho
   simp only[actsD,Act.put,actL]
   obtain⟨_,_,_,h7⟩:=hp 7 (by simp)
   simp only[PRRd3]at h7
   have hsz:=hg.size
   have hgB:Below w1.heap.size w1 w':=hg.below (fun k hk=>⟨hk,fun o=>by rintro⟨j,_,_,_,hw⟩;exact False.elim hw⟩)
   rw[h7]
   have e0:=(hg.cell (r) 3 br.lt (by rintro⟨j,_,hne,hb,hw⟩;exact False.elim hw)).trans (br.cell 3 _ rfl)
   go_wp2
   exact⟨_,rfl,GrowC.refl _,rfl⟩
  | 9,_=>
   obtain rfl:=Option.some.inj ho
   clear ho
   simp only[actsD,Act.put,actL]
   obtain⟨_,_,_,h4⟩:=hp 4 (by simp)
   simp only[PRRd3]at h4
   obtain⟨_,_,_,h8⟩:=hp 8 (by simp)
   simp only[PRRd3]at h8
   have hsz:=hg.size
   have hgB:Below w1.heap.size w1 w':=hg.below (fun k hk=>⟨hk,fun o=>by rintro⟨j,_,_,_,hw⟩;exact False.elim hw⟩)
   rw[h4,h8]
   go_wp2
   refine⟨_,rfl,GrowC.refl _,?_⟩
   simp only[PRRd3]
   first|omega|(congr 1<;>omega)|skip
  | 12,_=>
   obtain rfl:=Option.some.inj ho
   clear ho
   simp only[actsD,Act.put,actL]
   obtain⟨_,_,_,h11⟩:=hp 11 (by simp)
   simp only[PRRd3]at h11
   have hsz:=hg.size
   have hgB:Below w1.heap.size w1 w':=hg.below (fun k hk=>⟨hk,fun o=>by rintro⟨j,_,_,_,hw⟩;exact False.elim hw⟩)
   rw[h11]
   go_wp2
   exact⟨_,rfl,GrowC.refl _,rfl⟩
  | 13,_=>
   obtain rfl:=Option.some.inj ho
   clear ho
   simp only[actsD,Act.put,actL]
   obtain⟨_,_,_,h12⟩:=hp 12 (by simp)
   simp only[PRRd3]at h12
   have hsz:=hg.size
   have hgB:Below w1.heap.size w1 w':=hg.below (fun k hk=>⟨hk,fun o=>by rintro⟨j,_,_,_,hw⟩;exact False.elim hw⟩)
   rw[h12]
   go_wp2
   exact⟨_,rfl,GrowC.refl _,rfl⟩
  | 14,_=>
   obtain rfl:=Option.some.inj ho
   clear ho
   simp only[actsD,Act.put,actL]
   obtain⟨_,_,_,h13⟩:=hp 13 (by simp)
   simp only[PRRd3]at h13
   have hsz:=hg.size
   have hgB:Below w1.heap.size w1 w':=hg.below (fun k hk=>⟨hk,fun o=>by rintro⟨j,_,_,_,hw⟩;exact False.elim hw⟩)
   rw[h13]
   have e0:=(hg.cell (r) 3 br.lt (by rintro⟨j,_,hne,hb,hw⟩;exact False.elim hw)).trans (br.cell 3 _ rfl)
   go_wp2
   exact⟨_,rfl,GrowC.refl _,rfl⟩
  | 15,_=>
   obtain rfl:=Option.some.inj ho
   clear ho
   simp only[actsD,Act.put,actL]
   obtain⟨_,_,_,h10⟩:=hp 10 (by simp)
   simp only[PRRd3]at h10
   obtain⟨_,_,_,h14⟩:=hp 14 (by simp)
   simp only[PRRd3]at h14
   have hsz:=hg.size
   have hgB:Below w1.heap.size w1 w':=hg.below (fun k hk=>⟨hk,fun o=>by rintro⟨j,_,_,_,hw⟩;exact False.elim hw⟩)
   rw[h10,h14]
   go_wp2
   refine⟨_,rfl,GrowC.refl _,?_⟩
   simp only[PRRd3]
   first|omega|(congr 1<;>omega)|skip
  | 17,_=>
   obtain rfl:=Option.some.inj ho
   clear ho
   simp only[actsD,Act.put,actL]
   obtain⟨_,_,_,h15⟩:=hp 15 (by simp)
   simp only[PRRd3]at h15
   obtain⟨_,_,_,h16⟩:=hp 16 (by simp)
   simp only[PRRd3]at h16
   have hsz:=hg.size
   have hgB:Below w1.heap.size w1 w':=hg.below (fun k hk=>⟨hk,fun o=>by rintro⟨j,_,_,_,hw⟩;exact False.elim hw⟩)
   rw[h15,h16]
   go_wp2
   refine⟨_,rfl,GrowC.refl _,?_⟩
   simp only[PRRd3]
   first|omega|(congr 1<;>omega)|skip
  | 18,_=>
   obtain rfl:=Option.some.inj ho
   clear ho
   simp only[actsD,Act.put,actL]
   obtain⟨_,_,_,h3⟩:=hp 3 (by simp)
   simp only[PRRd3]at h3
   obtain⟨_,_,_,h9⟩:=hp 9 (by simp)
   simp only[PRRd3]at h9
   obtain⟨_,_,_,h17⟩:=hp 17 (by simp)
   simp only[PRRd3]at h17
   have hsz:=hg.size
   have hgB:Below w1.heap.size w1 w':=hg.below (fun k hk=>⟨hk,fun o=>by rintro⟨j,_,_,_,hw⟩;exact False.elim hw⟩)
   rw[h3,h9,h17]
   refine wpList_cut bytesOf (.tmp 35) (.tmp 41) (.tmp 49) rfl rfl rfl rfl rfl (by omega) (by omega) (m:=k) (by omega) ?_
   go_wp2
   exact⟨_,rfl,GrowC.refl _,rfl⟩
  | (q+19),hq=>exact absurd hq (by omega)
 intro vS lo hi w6 hg hp hd
 obtain⟨_,_,_,h0⟩:=hp 0 (by decide)
 obtain⟨_,_,_,h1⟩:=hp 1 (by decide)
 obtain⟨_,_,_,h2⟩:=hp 2 (by decide)
 obtain⟨_,_,_,h3⟩:=hp 3 (by decide)
 obtain⟨_,_,_,h4⟩:=hp 4 (by decide)
 obtain⟨_,_,_,h5⟩:=hp 5 (by decide)
 obtain⟨_,_,_,h6⟩:=hp 6 (by decide)
 obtain⟨_,_,_,h7⟩:=hp 7 (by decide)
 obtain⟨_,_,_,h8⟩:=hp 8 (by decide)
 obtain⟨_,_,_,h9⟩:=hp 9 (by decide)
 obtain⟨_,_,_,h10⟩:=hp 10 (by decide)
 obtain⟨_,_,_,h11⟩:=hp 11 (by decide)
 obtain⟨_,_,_,h12⟩:=hp 12 (by decide)
 obtain⟨_,_,_,h13⟩:=hp 13 (by decide)
 obtain⟨_,_,_,h14⟩:=hp 14 (by decide)
 obtain⟨_,_,_,h15⟩:=hp 15 (by decide)
 obtain⟨_,_,_,h16⟩:=hp 16 (by decide)
 obtain⟨_,_,_,h17⟩:=hp 17 (by decide)
 obtain⟨_,_,_,h18⟩:=hp 18 (by decide)
 simp only[PRRd3]at h0 h1 h2 h3 h4 h5 h6 h7 h8 h9 h10 h11 h12 h13 h14 h15 h16 h17 h18
 clear hp hd
 have hsz:=hg.size
 replace br:=br.grow hg (by intro i _;rintro⟨j,_,hw⟩;exact False.elim hw)
 replace hB:=hB.trans (hg.below (fun k hk=>⟨by omega,fun o=>by rintro⟨j,_,hw⟩;exact False.elim hw⟩))
 have hr:List.range 19=[0,1,2,3,4,5,6,7,8,9,10,11,12,13,14,15,16,17,18]:=rfl
 rw[hr]
 clear hr
 simp only[List.drop_succ_cons,List.drop_zero,List.drop_nil,actsD,Act.put,actL,h0,h1,h2,h3,h4,h5,h6,h7,h8,h9,h10,h11,h12,h13,h14,h15,h16,h17,h18]
 clear h0 h1 h2 h3 h4 h5 h6 h7 h8 h9 h10 h11 h12 h13 h14 h15 h16 h17 h18
 have hrd:Reads 1 w6 (.slice ao L cp) L (xs.map B):=HRD.out.below hB (Nat.le_refl _)
 have hcut:=hrd.cutA (p-bs) (p-bs+k) (by omega) hpL
 rw[Nat.add_sub_cancel_left]at hcut
 have hcx:((xs.map B).drop ((p-bs)*1)).take (k*1)=((xs.drop (p-bs)).take k).map B:=by
  rw[Nat.mul_one,Nat.mul_one,List.map_take,List.map_drop]
 rw[hcx]at hcut
 have HCUT:=Lib.hid hcut
 have HBB:=Lib.hid hB
 have hw6:=hB.size
 clear hcut hcx hrd hB hg br
 go_wp2_with (at_builtin;refine wpList_append_any bytesOf (.const (.slice none 0 0)) (.tmp 50) rfl rfl (base:=w.heap.size) rfl (World.ownsRow_nil _ _ _ _) rfl HCUT.out (Bs_one _) (by omega) (by omega) (by omega) ?_;intro ob cq wq ho2 hg2 hn2;have HO2:Hid (wq.ownsRow w.heap.size 5 1 (.slice ob (0+k) cq) (0+k) (((xs.drop (p-bs)).take k).map B)):=Lib.hid ho2;have HG2:Hid (GrowX (fun b=>(Value.slice none 0 0).ownBlock=some b) w6 wq):=Lib.hid hg2;clear ho2 hg2 hn2)
 go_ret2
 have e1:0+k=k:=by omega
 have HO3:=HO2.out
 rw[e1]at HO3 
 have hbw:Below w.heap.size w wq:=(HQQ.out.below.trans (HBB.out.mono hw1)).trans (HG2.out.below (fun k hk=>⟨by omega,fun e=>by cases e⟩))
 exact⟨_,rfl,HO3,hbw⟩
end
end
end Go.Proofs.YtpajagkhmodbnaaGreat

/- Pr: texts of the store seat laid together by program: StPlain StLaws RgNum RgKit AppR CutS RgApp. Conditions: each theorem names its own. -/
import Derived.Test.YtpajagkhmodbnaaGreatPr8
import Derived.Deep.DeepCutAuto
import Derived.Deep.CutBlock
namespace Go.Proofs.YtpajagkhmodbnaaGreat
set_option maxRecDepth 100000
set_option maxHeartbeats 1600000
open Lib(hid)
set_option linter.unusedSimpArgs false
set_option linter.unusedVariables false
section
def aJ(n:Nat):List UInt8:=(List.range 8).map (hbyte n)
structure Rc where
 kind:Nat
 aV:Nat
 prev:Nat
 next:Nat
 page:Nat
 off:Nat
 before:List UInt8
 after:List UInt8
 lQ:List (Nat×Nat×Nat)
 dirty:List (Nat×Nat)
 count:Nat
 deriving DecidableEq
def Rc.zero:Rc:=⟨0,0,0,0,0,0,[],[],[],[],0⟩
def Rc.size(r:Rc):Nat:=96+r.before.length+r.after.length+24*r.lQ.length+16*r.dirty.length
def Rc.enc(r:Rc):List UInt8:=
 aJ (r.size-8)++aJ r.kind++aJ r.aV++aJ r.prev++aJ r.next++aJ r.page++aJ r.off++(aJ r.before.length++r.before)++(aJ r.after.length++r.after) ++
 aJ r.lQ.length++r.lQ.flatMap (fun t=>aJ t.1++aJ t.2.1++aJ t.2.2)++aJ r.dirty.length++r.dirty.flatMap (fun t=>aJ t.1++aJ t.2)++aJ r.count
structure Rg where
 base:Nat
 bytes:List UInt8
 start:Nat
 fin:Nat
def Rg.tail(r:Rg):Nat:=r.base+r.bytes.length
def Rg.room(n:Nat)(r:Rg):Nat:=(r.start / 118+n-1)*118-r.tail
def Rg.sec(r:Rg)(k:Nat):List UInt8:=
 let q:=k*118-r.base
 let m:=min 118 (r.bytes.length-q)
 aJ (k+1)++[UInt8.ofNat (m / 256),UInt8.ofNat m]++(r.bytes.drop q).take m++List.replicate (118-m) 0
def Rg.nM(n:Nat)(r:Rg):Nat->Nat->Dv->Dv
 | 0,_,D=>D
 | m+1,k,D=>Rg.nM n r m (k+1) (D.write (2+k % n) (r.sec k))
def Rg.jm(n:Nat)(r:Rg)(D:Dv):Dv:=
 let a:=r.fin / 118
 let b:=(r.tail-1) / 118
 let D1:=Rg.nM n r (b-a) (a+1) D
 let D2:=(D1.write (2+(b+1) % n) dB).sync
 (D2.write (2+a % n) (r.sec a)).sync
def Rg.flush(n:Nat)(r:Rg)(D:Dv):Rg×Dv:=if r.tail=r.fin then(r,D)else({ r with fin:=r.tail },r.jm n D)
def Rg.trim(r:Rg)(p:Nat):Rg:=if r.base<p / 118*118 then⟨p / 118*118,r.bytes.drop (p / 118*118-r.base),p,r.fin⟩ else { r with start:=p }
structure Io where
 D:Dv
 R:Rg
def Io.ops(n fr:Nat):qc Io where
 step s l:=if (s.R.fin:Int)<l then(0,{ D:=(s.R.flush n s.D).2,R:=(s.R.flush n s.D).1 })else(0,s)
 wr s p b:={ s with D:=(s.D.dQ fr p b).2 }
 rd s:={ s with D:=s.D.reads 4 }
 fJ s p:=dO s.D (fr+5+4*p) 4
structure Up where
 aN:Nat
 prev:Nat
 page:Nat
 off:Nat
 before:List UInt8
structure Tx where
 id:Nat
 first:Nat
 last:Nat
 l:List Up
structure St where
 io:Io
 p:Pq
 lines:List (Nat×Rc)
 opn:List Tx
 master:Nat
 next:Nat
 commits:Nat
 aW:Nat
 aZ:Nat
structure Cf where
 n:Nat
 fr:Nat
 pg:Nat
def Cf.ops(c:Cf):qc Io:=Io.ops c.n c.fr
def jg(n:Nat):Nat×Nat:=if n<128 then(0,0)else(n / 4,(n-2-n / 4-5) / 4)
def Cf.of(n:Nat):Cf:=⟨(jg n).1,2+(jg n).1,(jg n).2⟩
section
variable(c:Cf)
def St.lay(s:St)(r:Rc):Int×Nat×St:=
 if s.io.R.room c.n<r.enc.length then(60,0,s)
 else(0,s.io.R.tail+1,{ s with io:={ s.io with R:={ s.io.R with bytes:=s.io.R.bytes++r.enc } },lines:=s.lines++[(s.io.R.tail+1,r)] })
def aX(b:List UInt8)(off:Nat)(x:List UInt8):List UInt8:=b.take off++x.take (b.length-off)++b.drop (off+x.length)
def St.get(s:St)(p:Nat):Int×List UInt8×St:=
 let r:=s.p.get c.ops c.pg s.io p
 (r.1,r.2.1,{ s with p:=r.2.2.1,io:=r.2.2.2 })
def St.put(s:St)(p:Nat)(b:List UInt8)(aN:Nat):Int×St:=
 let r:=s.p.put c.ops c.pg s.io p b aN
 (r.1,{ s with p:=r.2.1,io:=r.2.2 })
def St.apply(s:St)(r:Rc)(aN:Nat):Int×St:=
 let g:=s.get c r.page
 if g.1=0 then g.2.2.put c r.page (aX (aX g.2.1 0 (aJ aN)) (8+r.off) r.after) aN else(g.1,g.2.2)
def St.reserved(s:St):Nat:=(s.opn.map fun x=>192+(x.l.map fun u=>96+u.before.length).sum).sum
def St.of(s:St)(t:Int):Option Nat:=s.opn.findIdx? fun x=>decide ((x.id:Int)=t)
def St.begin_(s:St):Int×Nat×St:=
 let r:Rc:={ Rc.zero with kind:=1,aV:=s.next }
 let a:=s.lay c r
 if a.1=0 then(0,s.next,{ a.2.2 with opn:=a.2.2.opn++[⟨s.next,a.2.1,a.2.1,[]⟩],next:=s.next+1 })else(a.1,0,a.2.2)
def St.wZ(s:St)(i:Nat)(x:Tx):St:={ s with opn:=s.opn.set i x }
def St.write(s:St)(i:Nat)(x:Tx)(p off:Nat)(b:List UInt8):Int×St:=
 let g:=s.get c p
 if g.1≠0 then(g.1,g.2.2)else
 let dM:=(g.2.1.drop (8+off)).take b.length
 if dM=b then(0,g.2.2)else
 let r:Rc:={ Rc.zero with kind:=2,aV:=x.id,prev:=x.last,page:=p,off:=off,before:=dM,after:=b }
 let a:=g.2.2.lay c r
 if a.1≠0 then(a.1,a.2.2)else
 (a.2.2.wZ i { x with l:=x.l++[⟨a.2.1,x.last,p,off,dM⟩],last:=a.2.1 }).put c p (aX (aX g.2.1 0 (aJ a.2.1)) (8+off) b) a.2.1
def St.step(s:St)(i:Nat)(x:Tx)(r:Rc):Int×St:=
 let a:=s.lay c { r with aV:=x.id,prev:=x.last }
 if a.1=0 then(0,a.2.2.wZ i { x with last:=a.2.1 })else(a.1,a.2.2)
def St.end_(s:St)(i:Nat)(x:Tx):Int×St:=
 let a:=s.lay c { Rc.zero with kind:=6,aV:=x.id,prev:=x.last }
 if a.1=0 then(0,{ a.2.2 with opn:=a.2.2.opn.eraseIdx i })else(a.1,a.2.2)
def St.undo (i:Nat) (mark:Nat):Nat->St->Int×St
 | 0,s=>(0,s)
 | m+1,s=>
  match s.opn[i]? with
  | none=>(0,s)
  | some x=>
   match x.l.getLast? with
   | none=>(0,s)
   | some u=>if u.aN<=mark then(0,s)else
    let r:Rc:={ Rc.zero with kind:=3,aV:=x.id,prev:=x.last,page:=u.page,off:=u.off,after:=u.before,next:=u.prev }
    let a:=s.lay c r
    if a.1≠0 then(a.1,a.2.2)else
    let b:=(a.2.2.wZ i { x with last:=a.2.1,l:=x.l.dropLast }).apply c r a.2.1
    if b.1≠0 then b else St.undo i mark m b.2
def St.rollback(s:St)(i:Nat)(x:Tx):Int×St:=
 let a:=s.step c i x { Rc.zero with kind:=5 }
 if a.1≠0 then a else
 let b:=St.undo c i 0 (x.l.length+1) a.2
 if b.1≠0 then b else
 match b.2.opn[i]? with
 | none=>(0,b.2)
 | some y=>b.2.end_ c i y
def dw(k start ahead next:Nat):List UInt8:=aJ k++aJ start++aJ ahead++aJ next++List.replicate 96 0
def St.mark(s:St)(start:Nat):St:=
 let l:=s.lines.filter fun x=>decide (start<x.1)
 let ahead:=s.commits-(l.filter fun x=>x.2.kind=4).length
 let k:=s.master+1
 { s with io:={ D:=(s.io.D.write (k % 2) (dw k start ahead s.next)).sync,R:=s.io.R.trim start },master:=k,lines:=l }
end
def St.new(n frames:Nat):St:=
 let c:=Cf.of n
 let D1:=(Dv.new n).reads 2
 let D2:=D1.reads 1
 let D3:=D2.reads 1
 St.mark ⟨⟨D3,⟨0,[],0,0⟩⟩,Pq.new frames,[],[],0,1,0,0,0⟩ 0
end
section
def gy(R R':Rg):Prop:=R'.base=R.base/\R'.bytes=R.bytes/\R'.start=R.start
theorem gy.refl(R:Rg):gy R R:=⟨rfl,rfl,rfl⟩
theorem gy.trans{R R' R'':Rg}(h:gy R R')(k:gy R' R''):gy R R'':=⟨k.1.trans h.1,k.2.1.trans h.2.1,k.2.2.trans h.2.2⟩
theorem gy.tail{R R':Rg}(h:gy R R'):R'.tail=R.tail:=by unfold Rg.tail;rw[h.1,h.2.1]
theorem gy.room{R R':Rg}(h:gy R R')(n:Nat):R'.room n=R.room n:=by unfold Rg.room;rw[h.tail,h.2.2]
theorem rX(n:Nat)(R:Rg)(D:Dv):gy R (R.flush n D).1:=by
 unfold Rg.flush;split
 ·exact gy.refl _
 ·exact⟨rfl,rfl,rfl⟩
theorem KW(n:Nat)(R:Rg)(D:Dv):(R.flush n D).1.fin=R.tail:=by
 unfold Rg.flush;split
 ·next h=>exact h.symm
 ·rfl
section
variable(n fr:Nat)
theorem step_ok(s:Io)(l:Int):((Io.ops n fr).step s l).1=0/\gy s.R ((Io.ops n fr).step s l).2.R:=by
 show(if _ then _ else _:Int×Io).1=0/\gy s.R (if _ then _ else _:Int×Io).2.R;split
 ·exact⟨rfl,rX _ _ _⟩
 ·exact⟨rfl,gy.refl _⟩
theorem uj(p:Pq)(s:Io)(i:Nat):(p.clean (Io.ops n fr) s i).1=0/\(p.clean (Io.ops n fr) s i).2.1.wr<=p.wr+1/\gy s.R (p.clean (Io.ops n fr) s i).2.2.R:=by
 unfold Pq.clean;split
 ·rw[if_pos (step_ok n fr s _).1];exact⟨rfl,Nat.le_refl _,(step_ok n fr s _).2⟩
 ·exact⟨rfl,Nat.le_succ _,gy.refl _⟩
theorem UG(p:Pq)(s:Io):(p.free (Io.ops n fr) s).1=0/\(p.free (Io.ops n fr) s).2.2.1.wr<=p.wr+1/\gy s.R (p.free (Io.ops n fr) s).2.2.2.R:=by
 unfold Pq.free;split
 ·exact⟨rfl,Nat.le_succ _,gy.refl _⟩
 ·obtain⟨h1,h2,h3⟩:=uj n fr { p with F:=p.iy.1,hand:=p.iy.2.1 } s p.iy.2.2;unfold Pq.freed;rw[if_pos h1];exact⟨rfl,h2,h3⟩
theorem aa6(p:Pq)(s:Io)(m:Int):(p.bQ (Io.ops n fr) s m).1=0/\(p.bQ (Io.ops n fr) s m).2.1.wr<=p.wr+1/\gy s.R (p.bQ (Io.ops n fr) s m).2.2.R:=by
 unfold Pq.bQ;split
 ·exact⟨rfl,Nat.le_succ _,gy.refl _⟩
 ·next i _=>
  obtain⟨h1,h2,h3⟩:=uj n fr p s i;rw[if_pos h1];exact⟨rfl,h2,h3⟩
theorem iV(p:Pq)(s:Io)(pg q:Nat)(hq:q<pg):(p.get (Io.ops n fr) pg s (q:Int)).1=0/\(p.get (Io.ops n fr) pg s (q:Int)).2.2.1.wr<=p.wr+1/\gy s.R (p.get (Io.ops n fr) pg s (q:Int)).2.2.2.R:=by
 unfold Pq.get;split
 ·exact⟨rfl,Nat.le_succ _,gy.refl _⟩
 ·rw[if_pos (by omega)];obtain⟨h1,h2,h3⟩:=UG n fr p ((Io.ops n fr).rd s);unfold Pq.got;rw[if_pos h1];exact⟨rfl,h2,h3⟩
theorem xY(p:Pq)(s:Io)(pg q:Nat)(hq:q<pg)(b:List UInt8)(hb:b.length=512)(l:Nat)(hl:1<=l):
  (p.put (Io.ops n fr) pg s (q:Int) b (l:Nat)).1=0/\(p.put (Io.ops n fr) pg s (q:Int) b (l:Nat)).2.1.wr<=p.wr+1/\gy s.R (p.put (Io.ops n fr) pg s (q:Int) b (l:Nat)).2.2.R:=by
 unfold Pq.put;rw[if_pos ⟨by omega,by omega,hb,by omega⟩];split
 ·exact⟨rfl,Nat.le_succ _,gy.refl _⟩
 ·obtain⟨h1,h2,h3⟩:=UG n fr p s;rw[if_pos h1];exact⟨rfl,h2,h3⟩
end
structure jy(s s':St)(k:Nat):Prop where
 wr:s'.p.wr<=s.p.wr+k
 R:gy s.io.R s'.io.R
 lines:s'.lines=s.lines
 opn:s'.opn=s.opn
 master:s'.master=s.master
 next:s'.next=s.next
 commits:s'.commits=s.commits
 aW:s'.aW=s.aW
 aZ:s'.aZ=s.aZ
theorem jy.refl(s:St):jy s s 0:=⟨Nat.le_refl _,gy.refl _,rfl,rfl,rfl,rfl,rfl,rfl,rfl⟩
theorem jy.trans{a b c:St}{k l:Nat}(h:jy a b k)(g:jy b c l):jy a c (k+l):=
 ⟨by have:=h.wr;have:=g.wr;omega,h.R.trans g.R,g.lines.trans h.lines,g.opn.trans h.opn,g.master.trans h.master,g.next.trans h.next,g.commits.trans h.commits,g.aW.trans h.aW,g.aZ.trans h.aZ⟩
theorem St.iV(s:St)(c:Cf)(q:Nat)(hq:q<c.pg):(s.get c q).1=0/\jy s (s.get c q).2.2 1:=by
 obtain⟨h1,h2,h3⟩:=Go.Proofs.YtpajagkhmodbnaaGreat.iV c.n c.fr s.p s.io c.pg q hq;exact⟨h1,⟨h2,h3,rfl,rfl,rfl,rfl,rfl,rfl,rfl⟩⟩
theorem St.xY(s:St)(c:Cf)(q:Nat)(hq:q<c.pg)(b:List UInt8)(hb:b.length=512)(l:Nat)(hl:1<=l):(s.put c q b l).1=0/\jy s (s.put c q b l).2 1:=by
 obtain⟨h1,h2,h3⟩:=Go.Proofs.YtpajagkhmodbnaaGreat.xY c.n c.fr s.p s.io c.pg q hq b hb l hl;exact⟨h1,⟨h2,h3,rfl,rfl,rfl,rfl,rfl,rfl,rfl⟩⟩
end
section
open Go.RowKit
def Z8:Array Value:=((List.replicate 8 (0:UInt8)).map B).toArray
theorem ado(w:World):(Instr.makeSlice 48 (.int .i64 8) (.int .i64 8)).run Tryz.prog w=.ok (.slice (some ⟨w.heap.size,0,none⟩) 8 8) (w.alloc (.cells Z8 5)):=by
 obtain⟨i0,hi,hz0,hz1,hz2⟩:=info_parts (P:=Tryz.prog) (e:=5) (z:=.int .u8 0) (size:=1) (bytes:=1) (by kernel_rfl);have h:=run_make (P:=Tryz.prog) w 48 5 i0 (.int .u8 0) Tryz.underlying48 hi hz0 .i64 .i64 8 8 (by decide) (by decide) (by rw[hz2];decide) (by decide);rw[h,hz1];have e:madeCells (Value.int .u8 0).cells (Int.toNat 8*1)=Z8:=by
  apply Array.ext';have e1:=toList_madeCells_one (.int .u8 0) 8;show(madeCells #[.int .u8 0] 8).toList=_;rw[e1];unfold Z8;simp only[List.map_replicate];rfl
 rw[e];rfl
def um(n k:Nat):List UInt8:=(List.range k).map (hbyte n)++List.replicate (8-k) 0
theorem OW(n:Nat){k:Nat}(hk:k<=8):(um n k).length=8:=by simp[um];omega
theorem OX(n:Nat):um n 8=aJ n:=by simp[um,aJ]
theorem dL(n:Nat):(aJ n).length=8:=by simp[aJ]
theorem KX(n:Nat){k:Nat}(hk:k<8):um n (k+1)=(um n k).set k (hbyte n k):=by
 unfold um;rw[List.range_succ,List.map_append,show 8-k=(8-(k+1))+1 by omega,List.replicate_succ,List.set_append_right _ _ (by simp)];simp
theorem UH(n:Nat){k:Nat}(hk:k<8):((um n k).map B)[k]? = some (B 0):=by
 unfold um;rw[List.map_append,List.getElem?_append_right (by simp)];simp only[List.length_map,List.length_range,Nat.sub_self,List.map_replicate];rw[show 8-k=(7-k)+1 by omega,List.replicate_succ];rfl
theorem Buf.adp(w:World)(n:Nat):Buf (w.alloc (.cells Z8 5)) w.heap.size (um n 0):=by
 unfold Buf World.alloc;simp[Z8,um]
theorem GK(w:World)(n:Nat)(hn:n<=4611686018427387904):
  Calls Tryz.prog 136 #[.int .i64 (n:Nat)] w fun e w'=>∃g,e=.returned (.slice (some ⟨g,0,none⟩) 8 8)/\Buf w' g (aJ n)/\w.heap.size<=g/\Below w.heap.size w w':=by
 have hmk:=ado;go_enter Tryz.func136,Tryz.ntmps136;go_wp2_with fail;have hg0:Below w.heap.size w (w.alloc (.cells Z8 5)):=(Below.refl _ _).alloc (Nat.le_refl _) _;have hb0:=Buf.adp w n;obtain⟨g,hg⟩:∃g,w.heap.size=g:=⟨_,rfl⟩
 rw[hg]at hb0 hg0⊢;generalize w.alloc (.cells Z8 5)=w1 at *;go_loopw [8] (fun z wr=>∃k:Nat,k<=8/\z=.int .i64 k/\Buf wr g (um n k)/\Below g w wr) (fun z _=>8-(intOf z).toNat)
 case atStart=>exact⟨0,Nat.zero_le _,rfl,hb0,hg0⟩
 case round=>
  obtain⟨k,hk,rfl,hbuf,hgw⟩:=hrel;have HB:=hid hbuf;have HG:=hid hgw;by_cases hk8:k<8
  case neg=>
   obtain rfl:k=8:=by omega
   go_wp2_with fail;go_ret;exact⟨g,rfl,OX n▸HB.out,by omega,by rw[hg];exact HG.out⟩
  have hkb:decide ((k:Int)<8)=true:=by simp;omega
  have Ii:=hbuf.cell k (B 0) (UH n hk8);have hfz:=fun o=>lJ hbuf o;have hlt:=hbuf.lt;clear hbuf hgw;go_wp2_with fail;rw[<-EG];refine⟨⟨k+1,by omega,by simp,?_,?_⟩,?_⟩
  ·rw[KX n hk8];exact HB.out.set k (by rw[OW n (by omega)];omega) _
  ·exact HG.out.setCell (Nat.le_refl _) _
  ·simp[intOf];omega
theorem rC(w:World)(n:Nat)(hn:n<=4611686018427387904):
  Calls Tryz.prog 68 #[.int .i64 (n:Nat)] w fun e w'=>∃g,e=.returned (.slice (some ⟨g,0,none⟩) 8 8)/\Buf w' g (aJ n)/\w.heap.size<=g/\Below w.heap.size w w':=by
 have hmk:=ado;go_enter Tryz.func68,Tryz.ntmps68;go_wp2_with fail;have hg0:Below w.heap.size w (w.alloc (.cells Z8 5)):=(Below.refl _ _).alloc (Nat.le_refl _) _;have hb0:=Buf.adp w n;obtain⟨g,hg⟩:∃g,w.heap.size=g:=⟨_,rfl⟩
 rw[hg]at hb0 hg0⊢;generalize w.alloc (.cells Z8 5)=w1 at *;go_loopw [8] (fun z wr=>∃k:Nat,k<=8/\z=.int .i64 k/\Buf wr g (um n k)/\Below g w wr) (fun z _=>8-(intOf z).toNat)
 case atStart=>exact⟨0,Nat.zero_le _,rfl,hb0,hg0⟩
 case round=>
  obtain⟨k,hk,rfl,hbuf,hgw⟩:=hrel;have HB:=hid hbuf;have HG:=hid hgw;by_cases hk8:k<8
  case neg=>
   obtain rfl:k=8:=by omega
   go_wp2_with fail;go_ret;exact⟨g,rfl,OX n▸HB.out,by omega,by rw[hg];exact HG.out⟩
  have hkb:decide ((k:Int)<8)=true:=by simp;omega
  have Ii:=hbuf.cell k (B 0) (UH n hk8);have hfz:=fun o=>lJ hbuf o;have hlt:=hbuf.lt;clear hbuf hgw;go_wp2_with fail;rw[<-EG];refine⟨⟨k+1,by omega,by simp,?_,?_⟩,?_⟩
  ·rw[KX n hk8];exact HB.out.set k (by rw[OW n (by omega)];omega) _
  ·exact HG.out.setCell (Nat.le_refl _) _
  ·simp[intOf];omega
end
section
open Go.RowKit
structure Rg.ok(n:Nat)(R:Rg):Prop where
 n2:2<=n
 n3:n<=8192
 base:R.base=R.start / 118*118
 sf:R.start<=R.fin
 ft:R.fin<=R.tail
 top:R.tail<=1099511627776
 room:R.tail<=(R.start / 118+n-1)*118
structure kF(w:World)(G r d n:Nat)(vb:Value)(R:Rg):Prop where
 box:Box w r [.pointer (some ⟨d,0,none⟩),.int .i64 2,.int .i64 (n:Nat),.int .i64 (R.base:Nat),vb,.int .i64 (R.start:Nat),.int .i64 (R.fin:Nat),.bool false]
 row:w.ownsRow G 5 1 vb R.bytes.length (R.bytes.map B)
 rb:∀q,vb.ownBlock=some q->q≠r
 gr:G<=r
theorem kF.grow{X:Nat->Prop}{w w':World}{G r d n:Nat}{vb:Value}{R:Rg}(h:kF w G r d n vb R)(hg:aj X w w')(h1:¬X r)(h2:∀q,vb.ownBlock=some q->¬X q):kF w' G r d n vb R:=
 ⟨h.box.aH hg h1,aI h.row hg h2,h.rb,h.gr⟩
def Quiet(w:World)(w':World):Prop:=∃m,w'=w.drewN m
theorem Quiet.grow{X:Nat->Prop}{w w':World}(h:Quiet w w'):aj X w w':=by
 obtain⟨m,rfl⟩:=h;exact⟨rfl,rfl,rfl,Nat.le_refl _,fun _ _ _=>rfl⟩
theorem Quiet.below{w w':World}(h:Quiet w w'):Below w.heap.size w w':=by
 obtain⟨m,rfl⟩:=h;exact jW (Below.refl _ _) m
section
variable{w:World}{G r d n:Nat}{vb:Value}{R:Rg}
theorem YX(h:kF w G r d n vb R):Calls Tryz.prog 96 #[.pointer (some ⟨r,0,none⟩)] w fun e w'=>e=.returned (.int .i64 (R.start:Nat))/\w'=w:=by
 have c1:=h.box.cell 5 _ rfl;have hlt:=h.box.lt;clear h;go_enter Tryz.func96,Tryz.ntmps96;go_wp2_with fail;go_ret;exact⟨rfl,rfl⟩
theorem JK(h:kF w G r d n vb R):Calls Tryz.prog 83 #[.pointer (some ⟨r,0,none⟩)] w fun e w'=>e=.returned (.int .i64 (R.fin:Nat))/\w'=w:=by
 have c1:=h.box.cell 6 _ rfl;have hlt:=h.box.lt;clear h;go_enter Tryz.func83,Tryz.ntmps83;go_wp2_with fail;go_ret;exact⟨rfl,rfl⟩
theorem kZ(h:kF w G r d n vb R)(hb:R.tail<=1099511627776):Calls Tryz.prog 97 #[.pointer (some ⟨r,0,none⟩)] w fun e w'=>e=.returned (.int .i64 (R.tail:Nat))/\Quiet w w':=by
 have c1:=h.box.cell 3 _ rfl;have c2:=h.box.cell 4 _ rfl;have hlt:=h.box.lt;obtain⟨ao,cp,e,_⟩:=Reads.aY h.row;subst e;unfold Rg.tail at hb⊢;obtain⟨m,hm⟩:∃m,R.bytes.length=m:=⟨_,rfl⟩
 rw[hm]at c2 hb⊢;clear h hm;go_enter Tryz.func97,Tryz.ntmps97;go_wp2_with fail;go_quiet (fail);go_wp2_with fail;go_ret;refine⟨rO ?_,_,rfl⟩;show Value.int .i64 _=_;congr 1
theorem OY(h:kF w G r d n vb R)(hok:R.ok n):Calls Tryz.prog 88 #[.pointer (some ⟨r,0,none⟩)] w fun e w'=>e=.returned (.int .i64 (R.room n:Nat))/\Quiet w w':=by
 have c1:=h.box.cell 5 _ rfl;have c2:=h.box.cell 2 _ rfl;have hlt:=h.box.lt;have hb:=hok.top;have hs:R.start<=1099511627776:=by have:=hok.sf;have:=hok.ft;omega
 have hn:=hok.n3;have hn2:=hok.n2;have hr:R.tail<=(R.start / 118+n-1)*118:=hok.room;have hcall:=fun nq=>kZ (h.grow (X:=fun _=>False) (Quiet.grow ⟨nq,rfl⟩) (fun h=>h) (fun _ _ h=>h):kF (w.drewN nq) G r d n vb R) hb;unfold Rg.room;obtain⟨t,ht⟩:∃t,R.tail=t:=⟨_,rfl⟩
 rw[ht]at hb hr hcall⊢;obtain⟨s,hs'⟩:∃s,R.start=s:=⟨_,rfl⟩
 rw[hs']at hs hr c1⊢;have HC:=hid hcall;clear h hok ht hs' hcall;go_enter Tryz.func88,Tryz.ntmps88;go_wp2_with fail;go_quiet ((go_at_call 97;exact Calls.quiet_of (HC.out _)));go_wp2_with fail
 all_goals
  go_ret;refine⟨rO ?_,_,rfl⟩;show Value.int .i64 _=_;congr 1;omega
end
end
section
open Go.RowKit
theorem JL{P:Program}{t e:TypeId}{z:Value}{size bytes:Nat}(T:SliceOf P t e z size bytes)(w:World)(ty:TypeId)(base:Nat)(v:Value)(n:Nat)(xs:List Value)(hown:w.ownsRow base e size v n xs)
  (y:Value) (m:Nat) (news:List Value) (hr:Reads size w y m news) (h1:∀u∈news,u.oneCell'=true) (h63:n+m<=1152921504606846976) (hbytes:(n+m)*bytes<=140737488355328) (hbase:base<=w.heap.size):
  ∃v' w',(Builtin.append_ #[t,t] ty #[v,y]).run P w=.ok v' w'/\w'.ownsRow base e size v' (n+m) (xs++news)/\aj (fun b=>v.ownBlock=some b) w w'/\(∀q,v'.ownBlock=some q->v.ownBlock=some q\/w.heap.size<=q):=by
 obtain⟨i,hi,hz0,hz1,hz2⟩:=info_parts T.info;obtain⟨ao,c,rfl,hl,hmc,hcells⟩:=hr;rcases Nat.eq_zero_or_pos m with hm|hm
 ·subst hm;have hnews:news=[]:=List.eq_nil_of_length_eq_zero (by simpa using hl);subst hnews;refine⟨v,w,?_,by simpa using hown,aj.refl _,fun q h=>.inl h⟩;rcases hown.2 with ⟨rfl,_⟩|⟨g,cap,cur,rfl,_,_,hnc,hcm,_,_⟩
  ·exact kJ t ty e i T.und hi none ao 0 0 c (Nat.le_refl _) (fun _=>⟨rfl,rfl⟩)
  ·exact kJ t ty e i T.und hi (some ⟨g,0,none⟩) ao n cap c hnc (fun h=>by cases h)
 ·obtain⟨b,off,rfl,hlt,hc⟩:=hcells hm;obtain⟨g,cap,w',hrun,h2,h3,h4⟩:=xI (P:=P) w base t ty e i z size bytes T.und hi hz0 hz1 hz2 T.cells T.pos v n xs hown ⟨b,off,none⟩ m c news hl (fun j u hu=>by rw[Addr.add_lit];exact hc j u hu) h1 (by unfold maxLen;omega) hbytes hbase (by omega);refine⟨_,w',hrun,h2,aj.aK h3 (fun k o h=>h.1),fun q hq=>?_⟩;have e2:g=q:=by simpa[Value.ownBlock]using hq
  subst e2;exact h4
theorem bI{P:Program}{w:World}{ops:Array Oper}{rest:List Oper}{o:Oper}{a:Act}{Q:Exit->Act->World->Prop}
  {t e:TypeId} {z:Value} {size bytes:Nat} (T:SliceOf P t e z size bytes) (s x:Operand) (hgd:o.guard=none)
  (ho:o.op=.call { callee:=.builtin .append,args:=#[s,x],argTypes:=#[t,t] })
  {base:Nat} {v:Value} {n:Nat} {xs:List Value} (hs:a.eval s=v) (hown:w.ownsRow base e size v n xs)
  {y:Value} {m:Nat} {news:List Value} (hx:a.eval x=y) (hr:Reads size w y m news) (h1:∀u∈news,u.oneCell'=true)
  (h63:n+m<=1152921504606846976) (hbytes:(n+m)*bytes<=140737488355328) (hbase:base<=w.heap.size)
  (h:∀ao cap w',w'.ownsRow base e size (.slice ao (n+m) cap) (n+m) (xs++news)->aj (fun b=>v.ownBlock=some b) w w'->(∀q,(Value.slice ao (n+m) cap).ownBlock=some q->v.ownBlock=some q\/w.heap.size<=q)->
   wpList P ops Q rest (a.put o.dst (.slice ao (n+m) cap)) w'):wpList P ops Q (o::rest) a w:=by
 obtain⟨v',w',hrun,h2,h3,h4⟩:=JL T w o.type base v n xs hown y m news hr h1 h63 hbytes hbase;obtain⟨ao,cap,rfl⟩:=bF h2;refine wpList_plain hgd fun K hK=>?_;unfold Oper.wp;simp[execOp,ho,resolve,invoke,builtin,hs,hx,hrun,Result.andThen];exact hK _ _ (h ao cap w' h2 h3 h4)
end
section
open Go.RowKit
def bY(ao:Option Addr)(l c K:Nat):Option Addr:=if c=l then ao else ao.map (·.add (l*K))
theorem mM(ao:Option Addr)(l c K h m:Nat)(q:Nat)(e:(Value.slice (bY ao l c K) h m).ownBlock=some q)(n c':Nat):(Value.slice ao n c').ownBlock=some q:=by
 unfold bY at e;cases ao with
 | none=>split at e<;>exact absurd e (by simp[Value.ownBlock])
 | some a=>
  split at e
  ·exact e
  ·simp only[Option.map_some,Value.ownBlock,Addr.add]at e⊢;rw[<-e];split<;>rfl
theorem Reads.bY{w:World}{K n c:Nat}{ao:Option Addr}{xs:List Value}(hr:Reads K w (.slice ao n c) n xs)(l h:Nat)(h1:l<=h)(h2:h<=n):
  Reads K w (.slice (bY ao l c K) (h-l) (c-l)) (h-l) ((xs.drop (l*K)).take ((h-l)*K)):=by
 obtain⟨ao',cap,e,hl,hc,hcell⟩:=hr;injection e with e1 _ e3;subst e1 e3;have hK:(h-l)*K<=n*K-l*K:=by rw[<-Nat.sub_mul];exact Nat.mul_le_mul_right _ (by omega)
 refine⟨_,_,rfl,?_,by omega,fun hpos=>?_⟩
 ·rw[List.length_take,List.length_drop,hl];omega
 ·obtain⟨b,off,rfl,hlt,hx⟩:=hcell (by omega);refine⟨b,off+l*K,?_,hlt,fun j u hu=>?_⟩
  ·unfold Go.Proofs.YtpajagkhmodbnaaGreat.bY;rw[if_neg (by omega)];simp[Addr.add]
  ·rw[List.getElem?_take]at hu;split at hu
   ·rw[List.getElem?_drop]at hu;have:=hx _ u hu;rw[show off+l*K+j=off+(l*K+j) by omega];exact this
   ·cases hu
theorem xB{P:Program}{t e:TypeId}(h:P.underlying t=some (.slice e)):P.elem t=e:=by simp[Program.elem,h]
section
variable{P:Program}{w:World}{t e:TypeId}{z:Value}{K bytes:Nat}
theorem afl(T:SliceOf P t e z K bytes)(ao:Option Addr)(n c l h:Nat)(h1:l<=h)(h2:h<=c):
  (Instr.sliceAt t (.slice ao n c) (some (.int .i64 (l:Int))) (some (.int .i64 (h:Int))) none).run P w=.ok (.slice (bY ao l c K) (h-l) (c-l)) w:=by
 obtain⟨i,hi,hz0,hz1,hz2⟩:=info_parts T.info;have ht:P.underlying t=some (.slice (P.elem t)):=by rw[xB T.und];exact T.und
 rw[run_sliceAt_slice (P:=P) w t _ _ _ _ ht,run_slice_lh (P:=P) w t ao n c ht .i64 .i64 l h (by omega) (by omega) (by omega)];simp[sizeOf,typeInfo,xB T.und,hi,Result.andThen,sliced,bY,hz1]
theorem V8(T:SliceOf P t e z K bytes)(ao:Option Addr)(n c l:Nat)(h1:l<=n):
  (Instr.sliceAt t (.slice ao n c) (some (.int .i64 (l:Int))) none none).run P w=.ok (.slice (bY ao l c K) (n-l) (c-l)) w:=by
 obtain⟨i,hi,hz0,hz1,hz2⟩:=info_parts T.info;have ht:P.underlying t=some (.slice (P.elem t)):=by rw[xB T.und];exact T.und
 rw[run_sliceAt_slice (P:=P) w t _ _ _ _ ht,run_slice_l (P:=P) w t ao n c ht .i64 l (by omega) (by omega)];simp[sizeOf,typeInfo,xB T.und,hi,Result.andThen,sliced,bY,hz1]
theorem V9(T:SliceOf P t e z K bytes)(ao:Option Addr)(n c h:Nat)(h1:h<=c):
  (Instr.sliceAt t (.slice ao n c) none (some (.int .i64 (h:Int))) none).run P w=.ok (.slice (bY ao 0 c K) (h-0) (c-0)) w:=by
 obtain⟨i,hi,hz0,hz1,hz2⟩:=info_parts T.info;have ht:P.underlying t=some (.slice (P.elem t)):=by rw[xB T.und];exact T.und
 rw[run_sliceAt_slice (P:=P) w t _ _ _ _ ht,run_slice_h (P:=P) w t ao n c ht .i64 h (by omega) (by omega)];simp[sizeOf,typeInfo,xB T.und,hi,Result.andThen,sliced,bY,hz1]
variable{ops:Array Oper}{rest:List Oper}{o:Oper}{a:Act}{Q:Exit->Act->World->Prop}
theorem Iu(T:SliceOf P t e z K bytes)(s lo hi:Operand)(hgd:o.guard=none)(ho:o.op=.slice t s (some lo) (some hi) none)
  {ao:Option Addr} {n c l h m:Nat} (hs:a.eval s=.slice ao n c) (hl:a.eval lo=.int .i64 (l:Int)) (hh:a.eval hi=.int .i64 (h:Int)) (h1:l<=h) (h2:h<=c) (hm:h-l=m)
  (k:wpList P ops Q rest (a.put o.dst (.slice (bY ao l c K) m (c-l))) w):wpList P ops Q (o::rest) a w:=by
 subst hm;refine wpList_plain hgd fun K hK=>?_;unfold Oper.wp;simp[execOp,ho,hs,hl,hh,afl T ao n c l h h1 h2,Result.andThen];exact hK _ _ k
theorem iI(T:SliceOf P t e z K bytes)(s lo:Operand)(hgd:o.guard=none)(ho:o.op=.slice t s (some lo) none none)
  {ao:Option Addr} {n c l:Nat} (hs:a.eval s=.slice ao n c) (hl:a.eval lo=.int .i64 (l:Int)) (h1:l<=n)
  (k:wpList P ops Q rest (a.put o.dst (.slice (bY ao l c K) (n-l) (c-l))) w):wpList P ops Q (o::rest) a w:=by
 refine wpList_plain hgd fun K hK=>?_;unfold Oper.wp;simp[execOp,ho,hs,hl,V8 T ao n c l h1,Result.andThen];exact hK _ _ k
theorem nD(T:SliceOf P t e z K bytes)(s hi:Operand)(hgd:o.guard=none)(ho:o.op=.slice t s none (some hi) none)
  {ao:Option Addr} {n c h:Nat} (hs:a.eval s=.slice ao n c) (hh:a.eval hi=.int .i64 (h:Int)) (h1:h<=c)
  (k:wpList P ops Q rest (a.put o.dst (.slice (bY ao 0 c K) h c)) w):wpList P ops Q (o::rest) a w:=by
 refine wpList_plain hgd fun K hK=>?_;unfold Oper.wp;simp[execOp,ho,hs,hh,V9 T ao n c h h1,Result.andThen];exact hK _ _ k
end
end
section
open Go.RowKit
def Rg.app(R:Rg)(b:List UInt8):Rg:={ R with bytes:=R.bytes++b }
def Ba(r:Nat)(vb:Value)(k:Nat):Prop:=k=r\/vb.ownBlock=some k
def adq(r d n bs L cp q G pos fi HZ:Nat)(ao:Option Addr)(xs:List UInt8)(j b o:Nat):Prop:=False
def rY(r d n bs L cp q G pos fi HZ:Nat)(ao:Option Addr)(xs:List UInt8)(i:Nat)(v:Value)(lo hi:Nat)(w:World):Prop:=
 match i with
 | 0=>v=.pointer (some ⟨r,0,none⟩)
 | 1=>v=.pointer (some ⟨r,0,none⟩)
 | 2=>v=.pointer (some ⟨r,0,none⟩)
 | 3=>v=.pointer (some ⟨r,4,none⟩)
 | 4=>v=.slice ao L cp
 | 5=>v=.int .i64 ((q:Nat):Int)
 | 6=>v=.pointer (some ⟨r,0,none⟩)
 | 7=>v=.pointer (some ⟨r,0,none⟩)
 | 8=>v=.pointer (some ⟨r,3,none⟩)
 | 9=>v=.int .i64 ((bs:Nat):Int)
 | 10=>v=.int .i64 ((q-bs:Nat):Int)
 | 11=>v=.slice (bY ao (q-bs) cp 1) (L-(q-bs)) (cp-(q-bs))
 | 12=>∃a2 c2,v=.slice a2 (L-(q-bs)) c2/\w.ownsRow G 5 1 (.slice a2 (L-(q-bs)) c2) (L-(q-bs)) ((xs.drop (q-bs)).map B)/\∀b,(Value.slice a2 (L-(q-bs)) c2).ownBlock=some b->HZ<=b
 | 13=>v=.pointer (some ⟨r,0,none⟩)
 | 14=>v=.pointer (some ⟨r,4,none⟩)
 | _=>True
theorem OZ(r d n bs L cp q G pos fi HZ:Nat)(ao:Option Addr)(xs:List UInt8)  : ∀i j,i<15->j<15->j≠i->j∉([[],[],[1],[1,2],[1,2,3],[],[],[6],[6,7],[6,7,8],[5,6,7,8,9],[1,2,3,4,5,6,7,8,9,10],[1,2,3,4,5,6,7,8,9,10,11],[0,1,2,3,4,5,6,7,8,9,10,11,12],[0,1,2,3,4,5,6,7,8,9,10,11,12,13]]:List (List Nat)).getD i []->∀v lo hi w w',rY r d n bs L cp q G pos fi HZ ao xs i v lo hi w->aB (adq r d n bs L cp q G pos fi HZ ao xs j) w w'->rY r d n bs L cp q G pos fi HZ ao xs i v lo hi w':=by
 intro i j hi hj hne hbs v lo hj2 w w' h hg
 match i,hi with
 | 0,_|1,_|2,_|3,_|4,_|5,_|6,_|7,_|8,_|9,_|10,_|11,_|13,_|14,_=>
  simp only[rY]at h⊢;exact h
 | 12,_=>
  simp only[rY]at h⊢;obtain⟨a2,c2,h1,h2,h3⟩:=h;exact⟨a2,c2,h1,aI h2 (aj.aK hg (Y:=fun _=>False) (fun k o h=>h)) (fun _ _ h=>h),h3⟩
 | (q+15),hq=>exact absurd hq (by omega)
def adr(r d n bs L cp p k G st fi HZ:Nat)(ao:Option Addr)(xs:List UInt8)(j b o:Nat):Prop:=False
def oQ(r d n bs L cp p k G st fi HZ:Nat)(ao:Option Addr)(xs:List UInt8)(i:Nat)(v:Value)(lo hi:Nat)(w:World):Prop:=
 match i with
 | 0=>v=.pointer (some ⟨r,0,none⟩)
 | 1=>v=.pointer (some ⟨r,0,none⟩)
 | 2=>v=.pointer (some ⟨r,4,none⟩)
 | 3=>v=.slice ao L cp
 | 4=>v=.int .i64 ((p:Nat):Int)
 | 5=>v=.pointer (some ⟨r,0,none⟩)
 | 6=>v=.pointer (some ⟨r,0,none⟩)
 | 7=>v=.pointer (some ⟨r,3,none⟩)
 | 8=>v=.int .i64 ((bs:Nat):Int)
 | 9=>v=.int .i64 ((p-bs:Nat):Int)
 | 10=>v=.int .i64 ((p:Nat):Int)
 | 11=>v=.pointer (some ⟨r,0,none⟩)
 | 12=>v=.pointer (some ⟨r,0,none⟩)
 | 13=>v=.pointer (some ⟨r,3,none⟩)
 | 14=>v=.int .i64 ((bs:Nat):Int)
 | 15=>v=.int .i64 ((p-bs:Nat):Int)
 | 16=>v=.int .i64 ((k:Nat):Int)
 | 17=>v=.int .i64 ((p-bs+k:Nat):Int)
 | 18=>v=.slice (bY ao (p-bs) cp 1) k (cp-(p-bs))
 | _=>True
theorem O1(r d n bs L cp p k G st fi HZ:Nat)(ao:Option Addr)(xs:List UInt8)  : ∀i j,i<19->j<19->j≠i->j∉([[],[0],[0,1],[0,1,2],[],[],[5],[5,6],[5,6,7],[4,5,6,7,8],[],[],[11],[11,12],[11,12,13],[10,11,12,13,14],[],[10,11,12,13,14,15,16],[0,1,2,3,4,5,6,7,8,9,10,11,12,13,14,15,16,17]]:List (List Nat)).getD i []->∀v lo hi w w',oQ r d n bs L cp p k G st fi HZ ao xs i v lo hi w->aB (adr r d n bs L cp p k G st fi HZ ao xs j) w w'->oQ r d n bs L cp p k G st fi HZ ao xs i v lo hi w':=by
 intro i j hi hj hne hbs v lo hj2 w w' h hg
 match i,hi with
 | 0,_|1,_|2,_|3,_|4,_|5,_|6,_|7,_|8,_|9,_|10,_|11,_|12,_|13,_|14,_|15,_|16,_|17,_|18,_=>
  simp only[oQ]at h⊢;exact h
 | (q+19),hq=>exact absurd hq (by omega)
section
variable{w:World}{G r d n:Nat}{vb:Value}{R:Rg}
theorem Wh(h:kF w G r d n vb R)(hok:R.ok n)(hG:G<=w.heap.size)(b:List UInt8)(ao:Option Addr)(m c:Nat)(hv:Reads 1 w (.slice ao m c) m (b.map B))(hm:m<=R.room n)(hm2:m<=1099511627776):
  Calls Tryz.prog 98 #[.pointer (some ⟨r,0,none⟩),.slice ao m c] w fun e w'=>∃Iw,e=.returned (.int .i64 0)/\kF w' G r d n Iw (R.app b)/\aj (Ba r vb) w w'/\(∀q,Iw.ownBlock=some q->vb.ownBlock=some q\/w.heap.size<=q):=by
 have c1:=h.box.cell 7 _ rfl;have hlt:=h.box.lt;have hcall:=OY h hok;have hb:decide ((m:Int)>(R.room n:Nat))=false:=by simp;omega
 have hb2:decide (R.room n<m)=false:=by simpa using hm
 have HC:=hid hcall;have HB:=hid h;have HV:=hid hv;have hbl:R.bytes.length<=1099511627776:=by have:=hok.top;unfold Rg.tail at this;omega
 obtain⟨L,hL⟩:∃L,R.bytes.length=L:=⟨_,rfl⟩
 have HL:=hid hL;rw[hL]at hbl;obtain⟨q,hq⟩:∃q,R.room n=q:=⟨_,rfl⟩
 rw[hq]at hb hb2 hm HC;clear hcall h hok hv hL hq;go_enter Tryz.func98,Tryz.ntmps98;go_wp2_with fail;refine HC.out.mono ?_;rintro e y ⟨rfl,hq⟩;have HQ:=hid hq;have hrg:=HB.out.grow (X:=fun _=>False) hq.grow (fun h=>h) (fun _ _ h=>h);have c4:=hrg.box.cell 4 _ rfl;have bU:=hrg.box.lt;have HR:=hid hrg;have hrow:y.ownsRow G 5 1 vb L (R.bytes.map B):=by rw[<-HL.out];exact hrg.row
 obtain⟨bo,cp,oh⟩:=bF hrow;subst oh;have HRW:=hid hrow;have jD:Hid (Reads 1 y (.slice ao m c) m (b.map B)):=hid (HV.out.aH (X:=fun _=>False) hq.grow (fun _ _ h=>h));have hsz:w.heap.size<=y.heap.size:=hq.below.size;clear hq hrg hrow c1 hlt;go_wp2_with (at_builtin;refine bI bytesOf (.tmp 18) (.tmp 19) rfl rfl rfl HRW.out rfl jD.out (eU _) (by omega) (by omega) (by omega) ?_;intro ob cq wq ho2 hg2 hn2;have hbx2:=HR.out.box.aH hg2 (fun e=>HR.out.rb r e rfl);have O4:=hid hbx2;have rP:=hid ho2;have HG2:Hid (aj (fun b=>(Value.slice bo L cp).ownBlock=some b) y wq):=hid hg2;have FC:Hid (∀q,(Value.slice ob (L+m) cq).ownBlock=some q->(Value.slice bo L cp).ownBlock=some q\/y.heap.size<=q):=hid hn2;have d4:=hbx2.cell 4 _ rfl;have KY:=hbx2.free;have mg:=hbx2.lt;clear hbx2 ho2 hg2 hn2 c4 bU);go_ret;have k3:=aF wq r 4 (.slice ob (L+m) cq);have hne:∀q,(Value.slice ob (L+m) cq).ownBlock=some q->q≠r:=fun q e=>(FC.out q e).elim (HB.out.rb q) (fun h=>by have:=HB.out.box.lt;omega);refine⟨_,rfl,⟨O4.out.setCell 4 _,?_,hne,HB.out.gr⟩,?_,fun q e=>(FC.out q e).imp id (fun h=>by omega)⟩
 ·have e1:(R.app b).bytes.length=L+m:=by
   obtain⟨_,_,e,hl,_⟩:=jD.out;rw[List.length_map]at hl;show(R.bytes++b).length=_;rw[List.length_append,HL.out];omega
  have e2:(R.app b).bytes.map B=R.bytes.map B++b.map B:=List.map_append;rw[e1,e2];exact aI rP.out k3 hne
 ·exact((HQ.out.grow (X:=Ba r (.slice bo L cp))).trans (HG2.out.mono (fun k e=>.inr e))).trans (k3.mono (fun k e=>.inl e))
theorem aa7(h:kF w G r d n vb R)(hok:R.ok n)(hG:G<=w.heap.size)(pos:Nat)(h1:R.start<=pos)(h2:pos<=R.fin):
  Calls Tryz.prog 127 #[.pointer (some ⟨r,0,none⟩),.int .i64 (pos:Nat)] w fun e w'=>∃Iw,e=.returned (.int .i64 0)/\kF w' G r d n Iw (R.trim pos)/\aj (fun k=>k=r) w w'/\(∀q,Iw.ownBlock=some q->vb.ownBlock=some q\/w.heap.size<=q):=by
 have HB:=hid h;obtain⟨bs,xs,st,fi⟩:=R;have hft:=hok.ft;have htop:=hok.top;have O5:=hok.base;unfold Rg.tail at hft htop;simp only at h1 h2 hft htop O5;obtain⟨L,hL⟩:∃L,xs.length=L:=⟨_,rfl⟩
 have hrow:=h.row;have c5:=h.box.cell 5 _ rfl;have c6:=h.box.cell 6 _ rfl;have hfz:=h.box.free;have hlt:=h.box.lt;simp only at hrow c5 c6;rw[hL]at hft htop hrow;obtain⟨ao,cp,oh⟩:=bF hrow;subst oh;have b1:decide ((pos:Int)<(st:Int))=false:=by simp;omega
 have b2:decide (pos<st)=false:=by simp;omega
 have b3:decide ((pos:Int)>(fi:Int))=false:=by simp;omega
 have b4:decide (fi<pos)=false:=by simp;omega
 obtain⟨q,hq⟩:∃q,pos / 118*118=q:=⟨_,rfl⟩
 have hqi:(pos:Int) / 118*118=(q:Int):=by omega
 have hqp:q<=pos:=by omega
 have hbq:bs<=q:=by omega
 have hqL:q-bs<=L:=by omega
 have HL:=hid hL;have HRW:=hid hrow;have HQ:=hid hq;have hpl:pos<=1099511627776:=by omega
 obtain⟨x1,x2⟩:=Box.set1 h.box 5 (.int .i64 (pos:Nat));have hX1:Hid (Box (w.setCell ⟨r,5,none⟩ (.int .i64 (pos:Nat))) r [.pointer (some ⟨d,0,none⟩),.int .i64 2,.int .i64 (n:Nat),.int .i64 (bs:Nat),.slice ao L cp,.int .i64 (pos:Nat),.int .i64 (fi:Nat),.bool false]):=hid x1;have k1:aj (fun k=>k=r) w (w.setCell ⟨r,5,none⟩ (.int .i64 (pos:Nat))):=aF _ _ _ _;have hR1:Hid ((w.setCell ⟨r,5,none⟩ (.int .i64 (pos:Nat))).ownsRow G 5 1 (.slice ao L cp) L (xs.map B)):=hid (aI hrow k1 (fun q e e2=>h.rb q e e2));have hK1:=hid k1;clear x1 x2 k1 h hok O5 hL hrow hq;go_enter Tryz.func127,Tryz.ntmps127;by_cases hgt:bs<q
 ·have b5:decide ((q:Int)-(bs:Int)>0)=true:=by simp;omega
  have b6:decide ((0:Int)<(q:Int)-(bs:Int))=true:=by simp;omega
  have d3:=hX1.out.cell 3 _ rfl;have mg:=hX1.out.lt;go_upto_region 6 with (fail);clear d3 mg c5 c6 hfz hlt b1 b2 b3 b4 b5 b6;have br:=hX1.out;have jD:=hid (Reads.aY hR1.out);have O6:Hid (xs.length=L):=HL;have HW1:=hid hK1.out.size;generalize w.setCell ⟨r,5,none⟩ (.int .i64 (pos:Nat))=w1 at *;have hw1:w.heap.size<=w1.heap.size:=HW1.out;have hB:Below w1.heap.size w1 w1:=Below.refl _ _;refine aQ (adq r d n bs L cp q G pos fi (w1.heap.size) ao xs) 15 [[],[],[1],[1,2],[1,2,3],[],[],[6],[6,7],[6,7,8],[5,6,7,8,9],[1,2,3,4,5,6,7,8,9,10],[1,2,3,4,5,6,7,8,9,10,11],[0,1,2,3,4,5,6,7,8,9,10,11,12],[0,1,2,3,4,5,6,7,8,9,10,11,12,13]] [some 34,some 35,some 36,some 37,some 38,some 39,some 40,some 41,some 42,some 43,some 44,some 45,some 46,some 47,some 48,none] (by kernel_rfl) (by kernel_rfl) rfl (rY r d n bs L cp q G pos fi (w1.heap.size) ao xs) (OZ r d n bs L cp q G pos fi (w1.heap.size) ao xs) ?alh ?_
  case alh=>
   intro i hi o ho vs lo eX w' hg hp;have hsz:=hg.size;have hgB:Below w1.heap.size w1 w':=hg.below (fun k hk=>⟨hk,fun o=>by rintro⟨j,_,_,_,hw⟩;exact False.elim hw⟩);replace hp:=fun j hj=>(hp j hj).2.2.2
   match i,hi with
   | 0,_|1,_|5,_|6,_|2,_|3,_|4,_|7,_|8,_|9,_|13,_|14,_=>
    cases ho;simp only[aA,rY]at hp
    first|simp only[ak,Act.put,aA,hp]|simp only[ak,Act.put,aA]
    try have e0:=(hg.cell (r) 4 br.lt (by rintro⟨j,_,hne,hb,hw⟩;exact False.elim hw)).trans (br.cell 4 _ rfl)
    try have e1:=(hg.cell (r) 3 br.lt (by rintro⟨j,_,hne,hb,hw⟩;exact False.elim hw)).trans (br.cell 3 _ rfl)
    go_wp2;exact⟨_,rfl,aB.refl _,rfl⟩
   | 10,_=>
    cases ho;simp only[ak,Act.put,aA];have h5:=hp 5 (by simp);have h9:=hp 9 (by simp);simp only[rY]at h5 h9;rw[h5,h9];go_wp2;refine⟨_,rfl,aB.refl _,?_⟩;simp only[rY]
    first|omega|(congr 1<;>omega)|skip
   | 11,_=>
    cases ho;simp only[ak,Act.put,aA];have h4:=hp 4 (by simp);have h10:=hp 10 (by simp);simp only[rY]at h4 h10;rw[h4,h10];refine iI bytesOf (.tmp 38) (.tmp 44) rfl rfl rfl rfl (by omega) ?_;go_wp2;exact⟨_,rfl,aB.refl _,rfl⟩
   | 12,_=>
    cases ho;simp only[ak,Act.put,aA];have h11:=hp 11 (by simp);simp only[rY]at h11;rw[h11];have hrd:Reads 1 w' (.slice ao L cp) L (xs.map B):=jD.out.below hgB (Nat.le_refl _);have hcut:=hrd.bY (q-bs) L (by omega) (Nat.le_refl _);have hcx:((xs.map B).drop ((q-bs)*1)).take ((L-(q-bs))*1)=(xs.drop (q-bs)).map B:=by rw[Nat.mul_one,Nat.mul_one,List.map_drop,List.take_of_length_le];rw[List.length_drop,List.length_map,O6.out];omega
    rw[hcx]at hcut;go_wp2_with (at_builtin;refine bI bytesOf (.const (.slice none 0 0)) (.tmp 45) rfl rfl (base:=G) rfl (World.ownsRow_nil _ _ _ _) rfl hcut (eU _) (by omega) (by omega) (by have:=hgB.size;omega) ?_;intro ob cq wq ho2 hg2 hn2);have ho3:wq.ownsRow G 5 1 (.slice ob (L-(q-bs)) cq) (L-(q-bs)) ((xs.drop (q-bs)).map B):=by have:=ho2;simpa using this
    exact⟨_,rfl,aB.bK ⟨hg2.os,hg2.tape,hg2.output,hg2.size,fun k hk=>hg2.block k hk (fun e=>by cases e)⟩,ob,cq,rfl,ho3,fun b e=>(hn2 b (by rw[Nat.zero_add];exact e)).elim (fun e=>by cases e) (fun h=>Nat.le_trans hgB.size h)⟩
   | (q+15),hq=>exact absurd hq (by omega)
  intro vS lo hi w6 hg hp hd;have hP:=fun j hj=>(hp j hj).2.2.2;have h0:=hP 0 (by decide);have h1:=hP 1 (by decide);have h2:=hP 2 (by decide);have h3:=hP 3 (by decide);have h4:=hP 4 (by decide);have h5:=hP 5 (by decide);have h6:=hP 6 (by decide);have h7:=hP 7 (by decide);have h8:=hP 8 (by decide);have h9:=hP 9 (by decide);have h10:=hP 10 (by decide);have h11:=hP 11 (by decide);have h12:=hP 12 (by decide);have h13:=hP 13 (by decide);have dH:=hP 14 (by decide);clear hP;simp only[rY]at h0 h1 h2 h3 h4 h5 h6 h7 h8 h9 h10 h11 h12 h13 dH;clear hp hd;have hsz:=hg.size;replace br:=br.grow hg (by intro i _;rintro⟨j,_,hw⟩;exact False.elim hw);replace hB:=hB.trans (hg.below (fun k hk=>⟨by omega,fun o=>by rintro⟨j,_,hw⟩;exact False.elim hw⟩));have hr:List.range 15=[0,1,2,3,4,5,6,7,8,9,10,11,12,13,14]:=rfl;rw[hr];clear hr;simp only[List.drop_succ_cons,List.drop_zero,List.drop_nil,ak,Act.put,aA,h0,h1,h2,h3,h4,h5,h6,h7,h8,h9,h10,h11,h13,dH];clear h0 h1 h2 h3 h4 h5 h6 h7 h8 h9 h10 h11 h13 dH;obtain⟨a2,c2,e12,o12,n12⟩:=h12;rw[e12];have O12:=hid o12;have N12:=hid n12;have BR:=hid br;have HBW:=hid hB;have d4:=br.cell 4 _ rfl;have d3:=br.cell 3 _ rfl;have KY:=br.free;have mg:=br.lt;clear br e12 o12 n12 hB hg;go_wp2_with fail;go_ret;have hne:∀k,(Value.slice a2 (L-(q-bs)) c2).ownBlock=some k->k≠r:=fun k e=>by have:=N12.out k e;have:=hX1.out.lt;omega
  have k3:=aF w6 r 4 (.slice a2 (L-(q-bs)) c2);have k4:=aF (w6.setCell ⟨r,4,none⟩ (.slice a2 (L-(q-bs)) c2)) r 3 (.int .i64 (q:Nat));have e1:Rg.trim ⟨bs,xs,st,fi⟩ pos=⟨q,xs.drop (q-bs),pos,fi⟩:=by unfold Rg.trim;simp only[HQ.out];rw[if_pos hgt]
  rw[e1];refine⟨.slice a2 (L-(q-bs)) c2,rfl,⟨(BR.out.setCell 4 _).setCell 3 _,?_,hne,HB.out.gr⟩,((hK1.out.trans (aC HBW.out)).trans k3).trans k4,fun k e=>.inr (by have:=N12.out k e;omega)⟩;have e2:(xs.drop (q-bs)).length=L-(q-bs):=by rw[List.length_drop,HL.out]
  show World.ownsRow _ G 5 1 _ (xs.drop (q-bs)).length _;rw[e2];exact aI (aI O12.out k3 hne) k4 hne
 ·have b5:decide ((q:Int)-(bs:Int)>0)=false:=by simp;omega
  have b6:decide ((0:Int)<(q:Int)-(bs:Int))=false:=by simp;omega
  have d3:=hX1.out.cell 3 _ rfl;have mg:=hX1.out.lt;go_wp2_with fail;go_ret;have e1:Rg.trim ⟨bs,xs,st,fi⟩ pos=⟨bs,xs,pos,fi⟩:=by unfold Rg.trim;simp only[HQ.out];rw[if_neg hgt]
  rw[e1];refine⟨.slice ao L cp,rfl,⟨hX1.out,?_,HB.out.rb,HB.out.gr⟩,hK1.out,fun k e=>.inl e⟩;show World.ownsRow _ G 5 1 _ xs.length _;rw[HL.out];exact hR1.out
theorem aa8(h:kF w G r d n vb R)(hok:R.ok n)(p k:Nat)(h1:R.start<=p)(h2:p+k<=R.tail):
  Calls Tryz.prog 137 #[.pointer (some ⟨r,0,none⟩),.int .i64 (p:Nat),.int .i64 (k:Nat)] w fun e w'=>∃v,e=.returned (.tuple #[v,.int .i64 0])/\w'.ownsRow w.heap.size 5 1 v k (((R.bytes.drop (p-R.base)).take k).map B)/\Below w.heap.size w w':=by
 have HB:=hid h;have hok0:=hok;have hcall:=fun nq=>kZ (h.grow (X:=fun _=>False) (Quiet.grow ⟨nq,rfl⟩) (fun h=>h) (fun _ _ h=>h):kF (w.drewN nq) G r d n vb R) hok.top;have O7:=kZ h hok.top;obtain⟨bs,xs,st,fi⟩:=R;have htop:=hok.top;have O5:=hok.base;have hsf:=hok.sf;have hft:=hok.ft;obtain⟨t,ht⟩:∃t,Rg.tail ⟨bs,xs,st,fi⟩=t:=⟨_,rfl⟩
 rw[ht]at hcall O7 h2 htop hft;unfold Rg.tail at ht;simp only at h1 h2 hft htop O5 hsf ht;obtain⟨L,hL⟩:∃L,xs.length=L:=⟨_,rfl⟩
 have hrow:=h.row;have c5:=h.box.cell 5 _ rfl;have hlt:=h.box.lt;simp only at hrow c5;rw[hL]at hrow ht;obtain⟨ao,cp,oh⟩:=bF hrow;subst oh;have hLc:L<=cp:=by obtain⟨_,_,e,_,hc,_⟩:=Reads.aY hrow;injection e with _ _ e3;omega
 have b0:decide ((k:Int)<0)=false:=by simp
 have b1:decide ((p:Int)<(st:Int))=false:=by simp;omega
 have b2:decide (p<st)=false:=by simp;omega
 have b3:decide ((p:Int)>(t:Int))=false:=by simp;omega
 have b4:decide (t<p)=false:=by simp;omega
 have b5:decide ((k:Int)>(t:Int)-(p:Int))=false:=by simp;omega
 have b6:decide ((t:Int)-(p:Int)<(k:Int))=false:=by simp;omega
 have hbp:bs<=p:=by omega
 have hpL:p-bs+k<=L:=by omega
 have HL:=hid hL;have jD:=hid (Reads.aY hrow);have HC:=hid hcall;have FD:=hid O7;have KQ:=hid hok0;have hpl:p+k<=1099511627776:=by omega
 have HT:=hid ht;clear h hok hok0 O5 hsf hft hL hrow hcall O7 ht h1 h2;go_enter Tryz.func137,Tryz.ntmps137;go_wp2_with fail;refine FD.out.mono ?_;rintro e y ⟨rfl,nq,rfl⟩;go_wp2_with fail;refine(HC.out nq).mono ?_;rintro e y ⟨rfl,nq2,rfl⟩;rw[World.drewN_drewN];go_upto_region 3 with (fail);have hqq:Quiet w (w.drewN (nq+nq2)):=⟨_,rfl⟩
 have HQQ:=hid hqq;have hR1:=HB.out.grow (X:=fun _=>False) hqq.grow (fun h=>h) (fun _ _ h=>h);have br:=hR1.box;have Wi:=(Reads.aY hR1.row)
 simp only at br Wi;rw[HL.out]at Wi;have jD:=hid Wi;clear hqq hR1 Wi c5 hlt b0 b1 b2 b3 b4 b5 b6;generalize w.drewN (nq+nq2)=w1 at *;have hw1:w.heap.size<=w1.heap.size:=HQQ.out.below.size;have hB:Below w1.heap.size w1 w1:=Below.refl _ _;refine aQ (adr r d n bs L cp p k G st fi (w.heap.size) ao xs) 19 [[],[0],[0,1],[0,1,2],[],[],[5],[5,6],[5,6,7],[4,5,6,7,8],[],[],[11],[11,12],[11,12,13],[10,11,12,13,14],[],[10,11,12,13,14,15,16],[0,1,2,3,4,5,6,7,8,9,10,11,12,13,14,15,16,17]] [some 32,some 33,some 34,some 35,some 36,some 37,some 38,some 39,some 40,some 41,some 42,some 43,some 44,some 45,some 46,some 47,some 48,some 49,some 50,some 51,some 6,some 7] (by kernel_rfl) (by kernel_rfl) rfl (oQ r d n bs L cp p k G st fi (w.heap.size) ao xs) (O1 r d n bs L cp p k G st fi (w.heap.size) ao xs) ?ali ?_
 case ali=>
  intro i hi o ho vs lo eX w' hg hp;have hsz:=hg.size;have hgB:Below w1.heap.size w1 w':=hg.below (fun k hk=>⟨hk,fun o=>by rintro⟨j,_,_,_,hw⟩;exact False.elim hw⟩);replace hp:=fun j hj=>(hp j hj).2.2.2
  match i,hi with
  | 0,_|4,_|5,_|10,_|11,_|16,_|1,_|2,_|3,_|6,_|7,_|8,_|12,_|13,_|14,_=>
   cases ho;simp only[aA,oQ]at hp
   first|simp only[ak,Act.put,aA,hp]|simp only[ak,Act.put,aA]
   try have e0:=(hg.cell (r) 4 br.lt (by rintro⟨j,_,hne,hb,hw⟩;exact False.elim hw)).trans (br.cell 4 _ rfl)
   try have e1:=(hg.cell (r) 3 br.lt (by rintro⟨j,_,hne,hb,hw⟩;exact False.elim hw)).trans (br.cell 3 _ rfl)
   go_wp2;exact⟨_,rfl,aB.refl _,rfl⟩
  | 9,_=>
   cases ho;simp only[ak,Act.put,aA];have h4:=hp 4 (by simp);have h8:=hp 8 (by simp);simp only[oQ]at h4 h8;rw[h4,h8];go_wp2;refine⟨_,rfl,aB.refl _,?_⟩;simp only[oQ]
   first|omega|(congr 1<;>omega)|skip
  | 15,_=>
   cases ho;simp only[ak,Act.put,aA];have h10:=hp 10 (by simp);have dH:=hp 14 (by simp);simp only[oQ]at h10 dH;rw[h10,dH];go_wp2;refine⟨_,rfl,aB.refl _,?_⟩;simp only[oQ]
   first|omega|(congr 1<;>omega)|skip
  | 17,_=>
   cases ho;simp only[ak,Act.put,aA];have h15:=hp 15 (by simp);have h16:=hp 16 (by simp);simp only[oQ]at h15 h16;rw[h15,h16];go_wp2;refine⟨_,rfl,aB.refl _,?_⟩;simp only[oQ]
   first|omega|(congr 1<;>omega)|skip
  | 18,_=>
   cases ho;simp only[ak,Act.put,aA];have h3:=hp 3 (by simp);have h9:=hp 9 (by simp);have h17:=hp 17 (by simp);simp only[oQ]at h3 h9 h17;rw[h3,h9,h17];refine Iu bytesOf (.tmp 35) (.tmp 41) (.tmp 49) rfl rfl rfl rfl rfl (by omega) (by omega) (m:=k) (by omega) ?_;go_wp2;exact⟨_,rfl,aB.refl _,rfl⟩
  | (q+19),hq=>exact absurd hq (by omega)
 intro vS lo hi w6 hg hp hd;have hP:=fun j hj=>(hp j hj).2.2.2;have h0:=hP 0 (by decide);have h1:=hP 1 (by decide);have h2:=hP 2 (by decide);have h3:=hP 3 (by decide);have h4:=hP 4 (by decide);have h5:=hP 5 (by decide);have h6:=hP 6 (by decide);have h7:=hP 7 (by decide);have h8:=hP 8 (by decide);have h9:=hP 9 (by decide);have h10:=hP 10 (by decide);have h11:=hP 11 (by decide);have h12:=hP 12 (by decide);have h13:=hP 13 (by decide);have dH:=hP 14 (by decide);have h15:=hP 15 (by decide);have h16:=hP 16 (by decide);have h17:=hP 17 (by decide);have h18:=hP 18 (by decide);clear hP;simp only[oQ]at h0 h1 h2 h3 h4 h5 h6 h7 h8 h9 h10 h11 h12 h13 dH h15 h16 h17 h18;clear hp hd;have hsz:=hg.size;replace br:=br.grow hg (by intro i _;rintro⟨j,_,hw⟩;exact False.elim hw);replace hB:=hB.trans (hg.below (fun k hk=>⟨by omega,fun o=>by rintro⟨j,_,hw⟩;exact False.elim hw⟩));have hr:List.range 19=[0,1,2,3,4,5,6,7,8,9,10,11,12,13,14,15,16,17,18]:=rfl;rw[hr];clear hr;simp only[List.drop_succ_cons,List.drop_zero,List.drop_nil,ak,Act.put,aA,h0,h1,h2,h3,h4,h5,h6,h7,h8,h9,h10,h11,h12,h13,dH,h15,h16,h17,h18];clear h0 h1 h2 h3 h4 h5 h6 h7 h8 h9 h10 h11 h12 h13 dH h15 h16 h17 h18;have hrd:Reads 1 w6 (.slice ao L cp) L (xs.map B):=jD.out.below hB (Nat.le_refl _);have hcut:=hrd.bY (p-bs) (p-bs+k) (by omega) hpL;rw[Nat.add_sub_cancel_left]at hcut;have hcx:((xs.map B).drop ((p-bs)*1)).take (k*1)=((xs.drop (p-bs)).take k).map B:=by
  rw[Nat.mul_one,Nat.mul_one,List.map_take,List.map_drop]
 rw[hcx]at hcut;have mO:=hid hcut;have xZ:=hid hB;have hw6:=hB.size;clear hcut hcx hrd hB hg br;go_wp2_with (at_builtin;refine bI bytesOf (.const (.slice none 0 0)) (.tmp 50) rfl rfl (base:=w.heap.size) rfl (World.ownsRow_nil _ _ _ _) rfl mO.out (eU _) (by omega) (by omega) (by omega) ?_;intro ob cq wq ho2 hg2 hn2;have rP:Hid (wq.ownsRow w.heap.size 5 1 (.slice ob (0+k) cq) (0+k) (((xs.drop (p-bs)).take k).map B)):=hid ho2;have HG2:Hid (aj (fun b=>(Value.slice none 0 0).ownBlock=some b) w6 wq):=hid hg2;clear ho2 hg2 hn2);go_ret2;have e1:0+k=k:=by omega
 have tH:=rP.out;rw[e1]at tH ;have hbw:Below w.heap.size w wq:=(HQQ.out.below.trans (xZ.out.mono hw1)).trans (HG2.out.below (fun k hk=>⟨by omega,fun e=>by cases e⟩));exact⟨_,rfl,tH,hbw⟩
end
end
end Go.Proofs.YtpajagkhmodbnaaGreat

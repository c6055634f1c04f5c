/- A row of bytes of one's own, and what is copied over the whole of it. Conditions: none. -/
import Derived.Test.YtdnjjdpenfhpeaaDvNew
import Derived.Laws.CopyOwn
namespace Go.Proofs.Ytdnjjdpenfhpeaa
set_option linter.unusedSimpArgs false
set_option linter.unusedVariables false
open Go.RowKit

/-- block g holds just the bytes l -/
def Buf (w : World) (g : Nat) (l : List UInt8) : Prop := w.heap[g]? = some (.cells (l.map B).toArray 5 (0, 0))
theorem Buf.lt {w : World} {g : Nat} {l : List UInt8} (h : Buf w g l) : g < w.heap.size := by
  unfold Buf at h
  exact (Array.getElem?_eq_some_iff.1 h).1
theorem Buf.growx {X : Nat → Prop} {w w' : World} {g : Nat} {l : List UInt8} (h : Buf w g l) (hg : GrowX X w w') (hX : ¬ X g) : Buf w' g l := by
  have := hg.block g h.lt hX
  unfold Buf at *
  rw [this]; exact h
theorem bytesOf : SliceOf Try.prog 37 5 (.int .u8 0) 1 1 := ⟨Try.underlying37, by kernel_rfl, rfl, by decide⟩
/-- what l leaves of cur, copied over it -/
def overL (cur l : List UInt8) : List UInt8 := if l = [] then cur else l
theorem wpList_copy_all {w : World} {ops : Array Oper} {rest : List Oper} {o : Oper} {a : Act} {Q : Exit → Act → World → Prop} (hgd : o.guard = none) (d s : Operand)
    (ho : o.op = .call { callee := .builtin .copy, args := #[d, s], argTypes := #[37, 37] })
    (g c : Nat) (cur l : List UInt8) (v : Value) (hd : a.eval d = .slice (some ⟨g, 0, none⟩) 128 c) (hs : a.eval s = v) (hb : Buf w g cur) (hc : cur.length = 128) (hv : Reads 1 w v l.length (l.map B)) (hl : l = [] ∨ l.length = 128)
    (h : ∀ w' n, Buf w' g (overL cur l) → GrowX (fun k => k = g) w w' → wpList Try.prog ops Q rest (a.put o.dst (goInt n)) w') : wpList Try.prog ops Q (o :: rest) a w := by
  obtain ⟨ao, cp, rfl, _, _, hr⟩ := hv
  rcases hl with rfl | hl
  · exact wpList_copy_nothing hgd d s 37 37 ho 5 Try.underlying37 (by kernel_rfl) _ ao 128 c 0 cp hd hs rfl (h w 0 (by simpa [overL] using hb) (GrowX.refl w))
  · obtain ⟨b, of, rfl, hbl, hcell⟩ := hr (by omega)
    rw [hl] at hs
    have hne : ¬ l = [] := fun e => by rw [e] at hl; cases hl
    refine wpList_copy_own hgd d s 37 37 ho 5 Try.underlying37 (by kernel_rfl) g 0 128 c ⟨b, of, none⟩ 128 cp hd hs _ _ hb (l.map B) (by rw [List.length_map, hl]; rfl) (fun j u hu => by rw [Addr.add_lit]; exact hcell j u hu) (by simp [hl, hc]) (Bs_one l) ?_
    have e : (((cur.map B).toArray.toList.take 0 ++ (l.map B ++ (cur.map B).toArray.toList.drop (0 + (l.map B).length)))).toArray = (l.map B).toArray := by
      simp [hl, hc]
    rw [e]
    refine h _ _ ?_ ?_
    · unfold overL
      rw [if_neg hne]
      exact setRow_heap w g _ _ _ _ hb
    · exact ⟨rfl, rfl, rfl, by simp [World.setRow], fun k hk hx => setRow_other w g k _ hx⟩
def Z128 : Array Value := (zsec.map B).toArray
theorem make128 (w : World) : (Instr.makeSlice 37 (.int .i64 128) (.int .i64 128)).run Try.prog w = .ok (.slice (some ⟨w.heap.size, 0, none⟩) 128 128) (w.alloc (.cells Z128 5)) := by
  obtain ⟨i0, hi, hz0, hz1, hz2⟩ := info_parts (P := Try.prog) (e := 5) (z := .int .u8 0) (size := 1) (bytes := 1) (by kernel_rfl)
  have h := run_make (P := Try.prog) w 37 5 i0 (.int .u8 0) Try.underlying37 hi hz0 .i64 .i64 128 128 (by decide) (by decide) (by rw [hz2]; decide) (by decide)
  rw [h, hz1]
  have e : madeCells (Value.int .u8 0).cells (Int.toNat 128 * 1) = Z128 := by
    apply Array.ext'
    have e1 := toList_madeCells_one (.int .u8 0) 128
    show (madeCells #[.int .u8 0] 128).toList = _
    rw [e1]
    unfold Z128 zsec
    simp only [List.map_replicate]
    rfl
  rw [e]
  rfl
theorem Buf.zero (w : World) : Buf (w.alloc (.cells Z128 5)) w.heap.size zsec := by
  unfold Buf World.alloc
  simp [Z128]
end Go.Proofs.Ytdnjjdpenfhpeaa

/- append(b, make([]byte, k)...), and the program's four, long and Size. Conditions: short lists. -/
import Derived.Test.YtfbblgcdggpehaaNMay
import Derived.Lib.AppendZerosOnto
namespace Go.Proofs.Ytfbblgcdggpehaa
set_option linter.unusedSimpArgs false
set_option linter.unusedVariables false
open Go.RowKit

theorem zeroCells_list (k : Nat) : (Builtin.zeroCells (Value.int .u8 0).cells k).toList = (List.replicate k (0 : UInt8)).map B := by
  apply List.ext_getElem
  · simp [Builtin.zeroCells, Value.cells]
  · intro j h1 h2
    simp [Builtin.zeroCells, Value.cells, B, Nat.mod_one]

theorem run_append_own_zeros {P : Program} {w : World} {t tn e : TypeId} (T : SliceOf P t e (.int .u8 0) 1 1) (ty : TypeId) (htn : P.underlying tn = some (.int .i64))
    {base g n cap : Nat} {l : List UInt8} (hown : w.ownsRow base e 1 (.slice (some ⟨g, 0, none⟩) n cap) n (l.map B)) (k : Nat)
    (h63 : n + k ≤ 1099511627776) (hbase : base ≤ w.heap.size) :
    ∃ ao c' w', (Builtin.append_ #[t, tn] ty #[.slice (some ⟨g, 0, none⟩) n cap, .int .i64 k]).run P w = .ok (.slice ao (n + k) c') w' ∧
      w'.ownsRow base e 1 (.slice ao (n + k) c') (n + k) ((l ++ List.replicate k 0).map B) ∧ w.grownBy w' (some g) := by
  obtain ⟨i, hi, hz0, hz1, hz2⟩ := info_parts T.info
  have hown' := hown
  rcases hown.2 with ⟨h, _⟩ | ⟨kb', cap', cur, he, hb, hg, hnc, hcm, hcs, ht⟩
  · cases h
  injection he with e1 _ e3
  injection e1 with e1
  injection e1 with e1
  subst e1 e3
  have hll : l.length = n := by simpa using hown'.1
  have hw : IntKind.i64.wrap (k : Int) = k := by rw [IntKind.wrap_i64]; omega
  have hneg : ¬ ((k : Int) < 0) := by omega
  have hlen : ((l ++ List.replicate k 0).map B).length = (n + k) * 1 := by simp [hll]
  have h48i : ¬ (281474976710656 < (k : Int)) := by omega
  by_cases hroom : n + k ≤ cap
  · have hst := run_storeCells_at P g n e ((List.replicate k (0 : UInt8)).map B) 0 cur w hg (by simp; omega) (Bs_one _)
    simp only [Nat.add_zero] at hst
    have hzl := zeroCells_list k
    have hrun : (Builtin.append_ #[t, tn] ty #[.slice (some ⟨g, 0, none⟩) n cap, .int .i64 k]).run P w =
        .ok (.slice (some ⟨g, 0, none⟩) (n + k) cap) (w.setRow g (cur.toList.take n ++ (List.replicate k (0 : UInt8)).map B ++ cur.toList.drop (n + ((List.replicate k (0 : UInt8)).map B).length)).toArray) := by
      by_cases hk : k = 0
      · subst hk
        have hw0 : IntKind.i64.wrap 0 = 0 := hw
        simp only [List.replicate_zero, List.map_nil] at hst ⊢
        simp [Builtin.append_, run_underlying T.und, run_underlying htn, sizeOf, typeInfo, zeroValue, hi, hz0, hz1, hz2, asInt, asIntOf, hw0, hnc, Addr.add_lit]
        simp at hst
        rw [hst]
        rfl
      · simp [Builtin.append_, run_underlying T.und, run_underlying htn, sizeOf, typeInfo, zeroValue, hi, hz0, hz1, hz2, asInt, asIntOf, hw, hneg, h48i, hroom, hk, Addr.add_lit, hzl]
        simp at hst
        rw [hst]
        rfl
    refine ⟨_, _, _, hrun, ⟨hlen, .inr ⟨g, cap, _, rfl, hb, setRow_heap w g cur _ e _ hg, hroom, hcm, ?_, ?_⟩⟩, ⟨rfl, rfl, rfl, by simp, fun j _ hj => setRow_other w g j _ (fun e => hj (by rw [e]))⟩⟩
    · simp only [List.size_toArray, List.length_append, List.length_take, List.length_drop, Array.length_toList, List.length_map, List.length_replicate]
      omega
    · have ht' : cur.toList.take n = l.map B := by simpa using ht
      rw [ht', ← hlen, List.map_append]
      exact List.take_left
  · have hge := grownCap_ge w (n + k) cap e
    have hcm2 : grownCap w (n + k) cap e ≤ maxLen := grownCap_le_maxLen w (n + k) cap e (by unfold maxLen; omega)
    have hold := run_firstCells_some (P := P) w.drew i.size n ⟨g, 0, none⟩ n cap (l.map B) (by simp [hll, hz1]) (fun j u hu => (own_cells hown' j u hu : w.cell? _ = some u))
    have hrun := Lib.run_append_grow_zeros (P := P) (ty := ty) w t tn e i (.int .u8 0) .i64 .i64 T.und htn hi hz0 (some ⟨g, 0, none⟩) n cap (l.map B) hold k (by omega) (by omega) (by omega) (by omega) (by rw [hz2]; omega) (by rw [hz2]; exact growslice_fits (by omega) (by omega))
    refine ⟨_, _, _, hrun, ⟨hlen, .inr ⟨w.heap.size, _, _, rfl, hbase, heap_alloc_new w.drew _, hge, hcm2, ?_, ?_⟩⟩, ⟨rfl, rfl, rfl, by simp, fun j hj _ => Below.heap_alloc w.drew _ j (by exact hj)⟩⟩
    · have hzc : (Value.int IntKind.u8 0).cells.size = 1 := rfl
      simp only [Array.size_append, List.size_toArray, size_zeroCells, hzc, List.length_map, hll]
      omega
    · simp only [Array.toList_append, zeroCells_list, List.append_assoc]
      rw [← List.append_assoc, ← hlen, List.map_append]
      exact List.take_left

theorem wpList_append_zeros {P : Program} {w : World} {ops : Array Oper} {rest : List Oper} {o : Oper} {a : Act} {Q : Exit → Act → World → Prop}
    {t tn e : TypeId} (T : SliceOf P t e (.int .u8 0) 1 1) (htn : P.underlying tn = some (.int .i64)) (s x : Operand) (hgd : o.guard = none)
    (ho : o.op = .call { callee := .builtin .append, args := #[s, x], argTypes := #[t, tn] })
    {base g n cap : Nat} {W0 : World} {l : List UInt8} (hs : a.eval s = .slice (some ⟨g, 0, none⟩) n cap) (hown : w.ownsRow base e 1 (.slice (some ⟨g, 0, none⟩) n cap) n (l.map B)) (hbel : Below base W0 w)
    {k : Nat} {ki : Int} (hx : a.eval x = .int .i64 ki) (hk : ki = k) (h63 : n + k ≤ 1099511627776) (hbase : base ≤ w.heap.size)
    (h : ∀ ao cap w', w'.ownsRow base e 1 (.slice ao (n + k) cap) (n + k) ((l ++ List.replicate k 0).map B) → Below base W0 w' →
      wpList P ops Q rest (a.put o.dst (.slice ao (n + k) cap)) w') : wpList P ops Q (o :: rest) a w := by
  subst hk
  obtain ⟨ao, c', w', hrun, hown', hgr⟩ := run_append_own_zeros (P := P) T o.type htn hown k h63 hbase
  refine wpList_plain hgd fun K hK => ?_
  unfold Oper.wp
  simp [execOp, ho, resolve, invoke, builtin, hs, hx, hrun, Result.andThen]
  exact hK _ _ (h ao c' w' hown' (hbel.grown hgr hbase (fun k hk => by obtain rfl := Option.some.inj hk; exact (hown.lt g rfl).1)))

theorem pfour_any (v : Value) (n u : Nat) (xs : List Value) (base : Nat) (w : World) (hown : w.ownsRow base 5 1 v n xs) (hbase : base ≤ w.heap.size) (ni : Int) (hn : ni = (u : Int)) (hu : u ≤ 1152921504606846976) (hs : n ≤ 1099511627776) :
    Calls Try.prog 33 #[v, .int .i64 ni] w fun e w' => ∃ ao cap, e = .returned (.slice ao (n + 4) cap) ∧ w'.ownsRow base 5 1 (.slice ao (n + 4) cap) (n + 4) (xs ++ (four u).map B) ∧ Below base w w' := by
  subst hn
  have HO := Lib.hid hown
  clear hown
  go_enter Try.func33, Try.ntmps33
  go_wp2_with (first
    | (at_builtin; refine wpList_app sl_bytes (.tmp 5) (.tmp 17) rfl rfl (base := base) (W0 := w) rfl HO.out (Below.refl _ _) rfl rfl (by intro z hz; simp at hz; rcases hz with rfl | rfl | rfl | rfl <;> rfl) (by omega) (by omega) hbase (by omega) ?_; intro g4 cap4 wm hown4 hbel hg4 hlt5 hle4))
  go_ret
  refine ⟨_, _, rfl, ?_, hbel⟩
  have e : (four u).map B = [.int .u8 ((u : Int) / 16777216 % 256), .int .u8 ((u : Int) / 65536 % 256), .int .u8 ((u : Int) / 256 % 256), .int .u8 ((u : Int) % 256)] := by
    simp only [four, List.map_cons, List.map_nil, ofNat_B]
    rw [show ((u / 256 : Nat) : Int) = (u : Int) / 256 by omega, show ((u / 65536 : Nat) : Int) = (u : Int) / 65536 by omega, show ((u / 16777216 : Nat) : Int) = (u : Int) / 16777216 by omega]
  rw [e]
  exact hown4

theorem plong_any (v y : Value) (n : Nat) (xs : List Value) (l : List UInt8) (base : Nat) (w : World) (hown : w.ownsRow base 5 1 v n xs) (hbase : base ≤ w.heap.size) (hr : ∀ w', Below base w w' → Reads 1 w' y l.length (l.map B)) (hl : l.length ≤ 1099511627776) (hs : n ≤ 1099511627776) :
    Calls Try.prog 34 #[v, y] w fun e w' => ∃ ao cap, e = .returned (.slice ao (n + 2 + l.length) cap) ∧ w'.ownsRow base 5 1 (.slice ao (n + 2 + l.length) cap) (n + 2 + l.length) (xs ++ (two l.length).map B ++ l.map B) ∧ Below base w w' := by
  obtain ⟨ya, yc, rfl⟩ := (hr w (Below.refl _ _)).shape
  have HO := Lib.hid hown
  have HR := Lib.hid hr
  clear hown hr
  go_enter Try.func34, Try.ntmps34
  go_wp2_with (first
    | (at_builtin; refine wpList_app sl_bytes (.tmp 5) (.tmp 13) rfl rfl (base := base) (W0 := w) rfl HO.out (Below.refl _ _) rfl rfl (by intro z hz; simp at hz; rcases hz with rfl | rfl <;> rfl) (by omega) (by omega) hbase (by omega) ?_; intro g4 cap4 wm hown4 hbel hg4 hlt5 hle4)
    | (at_builtin; refine wpList_append_reads sl_bytes (.tmp 14) (.tmp 15) rfl rfl (base := base) (W0 := w) rfl hown4 hbel rfl (HR.out _ hbel) (Bs_one _) (by omega) (by omega) (by have := hbel.size; omega) ?_; intro ao cap wn hown5 hbel5))
  go_ret
  refine ⟨_, _, rfl, ?_, hbel5⟩
  have e : (two l.length).map B = [.int .u8 ((l.length : Int) / 256 % 256), .int .u8 ((l.length : Int) % 256)] := by
    simp only [two, List.map_cons, List.map_nil, ofNat_B]
    rw [show ((l.length / 256 : Nat) : Int) = (l.length : Int) / 256 by omega]
  rw [e]
  simpa [List.append_assoc] using hown5

/-- the sizes of the first k texts -/
def sumL (L : List (List UInt8)) : Nat → Nat
  | 0 => 0
  | k + 1 => sumL L k + (2 + (L.getD k []).length)
theorem sumL_le {L : List (List UInt8)} (h : ∀ l ∈ L, l.length ≤ 1048576) : ∀ k, sumL L k ≤ k * 1048578
  | 0 => by unfold sumL; omega
  | k + 1 => by
    have h1 := sumL_le h k
    have h2 := getD_len h k
    rw [sumL]; omega
def psize (x : Nd) : Nat := (if x.leaf then 7 else 7 + 4 * x.kids.length) + sumL x.keys x.keys.length + (if x.leaf then sumL x.vals x.vals.length else 0)

theorem rsize_sum (x : Nd) : ∀ k, rsize x k = (if x.leaf then 7 else 11) + sumL x.keys k + (if x.leaf then sumL x.vals k else 4 * k)
  | 0 => by unfold rsize sumL; split <;> simp_all
  | k + 1 => by
    rw [rsize, rsize_sum x k, sumL, sumL]
    split <;> omega

theorem psize_eq {x : Nd} (h : x.fits = true) : psize x = rsize x x.keys.length := by
  rw [rsize_sum, psize]
  unfold Nd.fits fitsB at h
  split at h
  · rename_i hl
    simp only [Bool.and_eq_true, beq_iff_eq] at h
    simp only [hl, if_true, h.1]
  · rename_i hl
    simp only [Bool.and_eq_true, beq_iff_eq] at h
    simp only [hl, Bool.false_eq_true, if_false, h.1]
    omega

end Go.Proofs.Ytfbblgcdggpehaa

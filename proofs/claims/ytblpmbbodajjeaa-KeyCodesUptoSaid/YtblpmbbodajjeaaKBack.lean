/- The walk of the law KeyBack. Conditions: the lists and texts are short. -/
import Derived.Test.YtblpmbbodajjeaaKSame
import Derived.Test.YtblpmbbodajjeaaKAwake
import Derived.WalkLawsBesides
namespace Go.Proofs.Ytblpmbbodajjeaa
set_option linter.unusedSimpArgs false
set_option linter.unusedVariables false
open Go.RowKit
open K (Val enc dec cellsOf split clean join)

set_option maxRecDepth 100000 in
set_option maxHeartbeats 3200000 in
theorem back_any (ao bo : Option Addr) (n c n' c' : Nat) (l : List Val) (more : List UInt8) (w : World) (hb2 : n ≤ 1099511627776) (hb3 : n' ≤ 1048576) (hr : Reads 4 w (.slice ao n c) n (cellsOf l)) (hr' : Reads 1 w (.slice bo n' c') n' (more.map B))
    (hok : ∀ x ∈ l, x.ok) (hbk : ∀ x ∈ l, (enc (clean x)).length ≤ 1099510579200) (hj : (join (l.map clean)).length ≤ 1099511627776) :
    Calls Try.prog 5 #[.slice ao n c, .slice bo n' c'] w fun e w' => e = .returned (.bool true) ∧ Below w.heap.size w w' := by
  have hln : n = l.length := by obtain ⟨_, _, _, h, _⟩ := hr; rw [K.cellsOf_length] at h; omega
  have HL := Lib.hid hln
  have HR := Lib.hid hr
  have HR' := Lib.hid hr'
  have HOK := Lib.hid hok
  have HBK := Lib.hid hbk
  have HJ := Lib.hid hj
  clear hln hr hr' hok hbk hj
  go_enter Try.func5, Try.ntmps5
  go_wp2
  go_loopw [5, 6] (fun v i wr => ∃ (k cb : Nat) (uo : Option Addr), k ≤ n ∧ i = .int .i64 k ∧ v = .slice uo k cb ∧
      wr.ownsRow w.heap.size 23 4 (.slice uo k cb) k (cellsOf ((l.map clean).take k)) ∧ Below w.heap.size w wr) (fun _ i _ => n - (intOf i).toNat)
  case atStart => exact ⟨0, 0, none, Nat.zero_le _, rfl, rfl, World.ownsRow_nil _ _ _ _, Below.refl _ _⟩
  case round =>
    obtain ⟨k, cb, uo, hk, rfl, rfl, hown, hnx⟩ := hrel
    have hsz := hnx.size
    have hcr := bcellB hnx
    by_cases hlt : k < n
    · have hkl : k < l.length := by rw [← HL.out]; exact hlt
      obtain ⟨_, _, b, off, rfl, hb, hc⟩ := HR.out.some_addr (by omega)
      obtain ⟨x0, hx0⟩ : ∃ x, l[k] = x := ⟨_, rfl⟩
      obtain ⟨c0, c1, c2, c3⟩ := reads_val hc k hkl hx0
      obtain ⟨x, hx⟩ : ∃ x, clean x0 = x := ⟨_, rfl⟩
      have HT := Lib.hid (K.cellsOf_take_map l k hkl)
      rw [hx0, hx] at HT
      have hmem : x0 ∈ l := by rw [← hx0]; exact List.getElem_mem hkl
      have hcl : K.Clean x := by rw [← hx]; exact K.clean_is x0 (HOK.out x0 hmem)
      have hxo : x.ok := by rw [← hx]; exact K.clean_ok x0 (HOK.out x0 hmem)
      have hbx : (enc x).length ≤ 1099510579200 := by rw [← hx]; exact HBK.out x0 hmem
      obtain ⟨q1, q2, q3⟩ := hxo
      have HX := Lib.hid hx
      have HCL := Lib.hid hcl
      clear hc hx0 hx hmem hcl
      go_wp2_with fail
      refine (clean_any x0.ty x0.num x0.txt x0.tru _).mono ?_
      rintro e w1 ⟨rfl, hbel⟩
      rw [HX.out]
      simp only [Val.v]
      have hown1 := own_below hown hbel (fun g hg => (hown.lt g hg).2)
      have hnx1 := hnx.trans (hbel.mono hsz)
      have hsz1 := hnx1.size
      clear hown hnx hsz hcr hbel c0 c1 c2 c3 hb
      go_wp2_with fail
      obtain ⟨w2, hw2⟩ : ∃ w2 : World, w2 = w1.alloc (.cells #[.int .i64 x.ty, .int .i64 x.num, .string x.txt, .bool x.tru] 23) := ⟨_, rfl⟩
      have r7 : w2.heap[w1.heap.size]? = some (.cells #[.int .i64 x.ty, .int .i64 x.num, .string x.txt, .bool x.tru] 23) := by rw [hw2]; exact heap_alloc_new _ _
      have hown2 := hown1.alloc (.cells #[.int .i64 x.ty, .int .i64 x.num, .string x.txt, .bool x.tru] 23)
      have hnx2 := hnx1.alloc hsz1 (.cells #[.int .i64 x.ty, .int .i64 x.num, .string x.txt, .bool x.tru] 23)
      have h12 : w1.heap.size + 1 = w2.heap.size := by rw [hw2]; simp
      rw [← hw2] at hown2 hnx2 ⊢
      clear hw2 hown1 hnx1
      refine (enc_any x.ty x.num x.txt x.tru _ q1 q2 q3).mono ?_
      rintro e w3 ⟨g3, n3, k3, rfl, hrow3, hbel3⟩
      have hn3 : n3 = (enc x).length := by have := hrow3.1; simpa using this.symm
      have hn3b : n3 ≤ 1099510579200 := by rw [hn3]; exact hbx
      have HN3 := Lib.hid hn3
      clear hn3 hbx
      have hs3 := hbel3.size
      have hown2' : ∀ g, (Value.slice uo k cb).ownBlock = some g → g < w2.heap.size := fun g hg => (hown2.lt g hg).2
      have hown3 := own_below hown2 hbel3 (fun g hg => (hown2.lt g hg).2)
      have hnx3 := hnx2.trans (hbel3.mono (by omega))
      have r73 : w3.heap[w1.heap.size]? = some (.cells #[.int .i64 x.ty, .int .i64 x.num, .string x.txt, .bool x.tru] 23) := (hbel3.block _ (by omega)).trans r7
      have hrm : Reads 1 w3 (.slice bo n' c') n' (more.map B) := HR'.out.below hnx3 (Nat.le_refl _)
      have HRM := Lib.hid hrm
      clear hown2 hnx2 r7 hrm
      have hbase : Below w2.heap.size w3 w3 := Below.refl _ _
      go_wp2_with (first
        | (at_builtin; refine wpList_append_reads sl_bytes (.tmp 26) (.tmp 27) rfl rfl rfl hrow3 hbase rfl HRM.out (Bs_one _) (by omega) (by omega) hs3 ?_; intro ao4 cap4 w4 hown4 hbel4))
      have hlen4 : (enc x ++ more).length ≤ 1099511627776 := by
        have h1 := hown4.1
        have h2 : n3 + n' ≤ 1099511627776 := by omega
        rw [List.length_append, List.length_map, List.length_map] at h1
        rw [List.length_append]
        simp only [Nat.mul_one] at h1
        have : (enc x).length + more.length = n3 + n' := h1
        omega
      have hrd4 : Reads 1 w4 (.slice ao4 (n3 + n') cap4) (n3 + n') ((enc x ++ more).map B) := by
        rw [List.map_append]; exact Reads.of_own hown4
      have hs4 := hbel4.size
      have r74 : w4.heap[w1.heap.size]? = some (.cells #[.int .i64 x.ty, .int .i64 x.num, .string x.txt, .bool x.tru] 23) := (hbel4.block _ (by omega)).trans r73
      have hnx4 : Below w.heap.size w w4 := hnx3.trans (hbel4.mono (by omega))
      have hown5 := own_below hown3 hbel4 (fun g hg => by have := (hown2' g hg); omega)
      refine (dec_reads ao4 (n3 + n') cap4 (enc x ++ more) _ (by omega) hrd4).mono ?_
      rintro e w5 ⟨rfl, hbel5⟩
      rw [K.dec_enc x HCL.out more]
      simp only [decV, Val.v]
      rw [← HN3.out]
      have hs5 := hbel5.size
      have r75 : w5.heap[w1.heap.size]? = some (.cells #[.int .i64 x.ty, .int .i64 x.num, .string x.txt, .bool x.tru] 23) := (hbel5.block _ (by omega)).trans r74
      have hnx5 : Below w.heap.size w w5 := hnx4.trans (hbel5.mono (by omega))
      have hown6 := own_below hown5 hbel5 (fun g hg => (hown5.lt g hg).2)
      have hc5 := cell_of_row' r75
      have hsw5 := hnx5.size
      have hlt5 : w1.heap.size < w5.heap.size := by omega
      clear hown3 hown4 hown5 hrd4 hrow3 hbel3 hbel4 hbel5 hbase r73 r74 hnx3 hnx4 hlen4 HRM
      go_wp2_with fail
      obtain ⟨w6, hw6⟩ : ∃ w6 : World, w6 = w5.alloc (.cells #[.int .i64 x.ty, .int .i64 x.num, .string x.txt, .bool x.tru] 23) := ⟨_, rfl⟩
      have hown7 := hown6.alloc (.cells #[.int .i64 x.ty, .int .i64 x.num, .string x.txt, .bool x.tru] 23)
      have hnx6 := hnx5.alloc hsw5 (.cells #[.int .i64 x.ty, .int .i64 x.num, .string x.txt, .bool x.tru] 23)
      have r76 : w6.heap[w1.heap.size]? = some (.cells #[.int .i64 x.ty, .int .i64 x.num, .string x.txt, .bool x.tru] 23) := by rw [hw6, Below.heap_alloc _ _ _ hlt5]; exact r75
      have h56 : w5.heap.size + 1 = w6.heap.size := by rw [hw6]; simp
      rw [← hw6] at hown7 hnx6 ⊢
      clear hw6 hown6 hnx5 r75 hc5
      refine (enc_any x.ty x.num x.txt x.tru _ q1 q2 q3).mono ?_
      rintro e w7 ⟨g7, n7, k7, rfl, hrow7, hbel7⟩
      obtain rfl : n7 = n3 := by
        have := hrow7.1
        rw [HN3.out]
        simpa using this.symm
      have hs7 := hbel7.size
      have hown8 := own_below hown7 hbel7 (fun g hg => (hown7.lt g hg).2)
      have hnx7 := hnx6.trans (hbel7.mono (by omega))
      have r77 : w7.heap[w1.heap.size]? = some (.cells #[.int .i64 x.ty, .int .i64 x.num, .string x.txt, .bool x.tru] 23) := (hbel7.block _ (by omega)).trans r76
      have hc7 := cell_of_row' r77
      have hsw7 := hnx7.size
      have hb7 : (((n7 : Nat) : Int) != ((n7 : Nat) : Int)) = false := by simp
      clear hown7 hnx6 r76 hrow7 hbel7 r77
      go_wp2_with (first
        | (at_builtin; refine wpList_app sl_vals (.tmp 47) (.tmp 49) rfl rfl rfl hown8 hnx7 rfl rfl (by intro u hu; simp at hu; rcases hu with rfl | rfl | rfl | rfl <;> rfl) (by omega) (by omega) hsw7 (by omega) ?_; intro g8 cap8 w8 hown9 hbel9 hg9 hlt9 hcap9))
      go_roundw
      case rel => exact ⟨k + 1, cap8, _, by omega, by go_num, rfl, by rw [HT.out]; simpa [Val.cells] using hown9, hbel9⟩
      case measure => simp [intOf]; omega
    · obtain rfl : k = n := by omega
      rw [List.take_of_length_le (by rw [List.length_map, ← HL.out]; exact Nat.le_refl _)] at hown
      have hcl : ∀ x ∈ l.map clean, K.Clean x := by intro x hx; obtain ⟨y, hy, rfl⟩ := List.mem_map.1 hx; exact K.clean_is y (HOK.out y hy)
      have hol : ∀ x ∈ l.map clean, x.ok := by intro x hx; obtain ⟨y, hy, rfl⟩ := List.mem_map.1 hx; exact K.clean_ok y (HOK.out y hy)
      have HS := Lib.hid (K.split_join (l.map clean) hcl)
      have HOL := Lib.hid hol
      clear hcl hol
      have hru := Reads.of_own hown
      have HRU := Lib.hid hru
      clear hown hru
      go_wp2_with fail
      refine (join_any uo k cb (l.map clean) _ HRU.out HOL.out HJ.out hb2).mono ?_
      rintro e w1 ⟨v, m, rfl, hrd, hbel⟩
      obtain ⟨jo, jc, rfl, hjl, hjc, hjr⟩ := hrd
      have hm : m ≤ 1099511627776 := by
        have h1 := HJ.out
        simp only [List.length_map, Nat.mul_one] at hjl
        omega
      have hrd : Reads 1 w1 (.slice jo m jc) m ((join (l.map clean)).map B) := ⟨jo, jc, rfl, hjl, hjc, hjr⟩
      have HRD := Lib.hid hrd
      have hs1 := hbel.size
      have hru1 := HRU.out.below hbel (Nat.le_refl _)
      have hnx1 := hnx.trans (hbel.mono hsz)
      have HRU1 := Lib.hid hru1
      clear hjl hjc hjr hrd hru1 hnx hbel hcr
      go_wp2_with fail
      refine (split_any jo m jc (join (l.map clean)) _ hm HRD.out).mono ?_
      rintro e w2 ⟨hres, hbel2⟩
      rw [HS.out] at hres
      obtain ⟨v2, n2, rfl, hrd2⟩ := hres
      have hn2 : n2 = k := by
        obtain ⟨_, _, _, h, _⟩ := hrd2
        rw [K.cellsOf_length, List.length_map, ← HL.out] at h
        omega
      subst hn2
      obtain ⟨so, sc, rfl, hsl, hscap, hsr⟩ := hrd2
      have hrd2 : Reads 4 w2 (.slice so n2 sc) n2 (cellsOf (l.map clean)) := ⟨so, sc, rfl, hsl, hscap, hsr⟩
      have hru2 := HRU1.out.below hbel2 (Nat.le_refl _)
      have hs2 := hbel2.size
      have hnx2 := hnx1.trans (hbel2.mono (by omega))
      have HR2 := Lib.hid hrd2
      have HU2 := Lib.hid hru2
      clear hsl hscap hsr hrd2 hru2 hbel2 hnx1
      have hsw2 := hnx2.size
      go_wp2_with fail
      refine (same_any uo so n2 cb sc (l.map clean) _ hb2 HU2.out HR2.out).mono ?_
      rintro e w3 ⟨rfl, hbel3⟩
      have hnx3 := hnx2.trans (hbel3.mono hsw2)
      have hsw3 := hnx3.size
      clear hbel3 hnx2
      go_wp2_with fail
      refine (awake_any _).mono ?_
      rintro e w4 ⟨rfl, hbel4⟩
      go_wp2
      go_ret
      exact ⟨rfl, hnx3.trans (hbel4.mono hsw3)⟩
end Go.Proofs.Ytblpmbbodajjeaa

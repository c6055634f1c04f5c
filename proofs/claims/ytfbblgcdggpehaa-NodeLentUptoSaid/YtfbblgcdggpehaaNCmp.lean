/- bytes.Compare, and what a node's numbers may be. Conditions: none. -/
import Derived.Test.YtfbblgcdggpehaaNREnc
import Derived.Lib.Bytealg
import Derived.Lib.BytesEntry
import Derived.Laws.Externs
namespace Go.Proofs.Ytfbblgcdggpehaa
set_option linter.unusedSimpArgs false
set_option linter.unusedVariables false
open Go.RowKit

theorem run_bytesOf {P : Program} {w : World} {v : Value} {n : Nat} (a : List UInt8) (hr : Reads 1 w v n (a.map B)) : (Extern.Bytes.bytesOf v).run P w = .ok ⟨a.toArray⟩ w := by
  obtain ⟨ao, cap, rfl, hl, hc, hcells⟩ := hr
  have hn : a.length = n := by simpa using hl
  subst hn
  match ao, hcells with
  | none, hcells =>
    have : a = [] := by
      rcases Nat.eq_zero_or_pos a.length with e | e
      · exact List.eq_nil_of_length_eq_zero e
      · obtain ⟨_, _, h, _⟩ := hcells e; cases h
    subst this
    rfl
  | some ad, hcells =>
    have h : (Extern.Bytes.bytesOf (.slice (some ad) a.length cap)).run P w = (Extern.Bytes.loadBytes ad a.length .empty).run P w := rfl
    rw [h]
    have := Lib.run_loadBytesX (P := P) w (a.map fun c => (c.toNat : Int)) ad .empty (fun j x hx => by
      have hj := (List.getElem?_eq_some_iff.1 hx).1
      rw [List.length_map] at hj
      obtain ⟨b, off, hb, hlt, hc⟩ := hcells (by omega)
      obtain rfl := Option.some.inj hb
      rw [Addr.add_lit]
      rw [List.getElem?_map, List.getElem?_eq_getElem hj] at hx
      obtain rfl := Option.some.inj hx
      exact hc j (B a[j]) (by rw [List.getElem?_map, List.getElem?_eq_getElem hj]; rfl))
    rw [List.length_map] at this
    rw [this]
    congr 1
    apply ByteArray.ext
    have e : ((fun n : Int => UInt8.ofNat n.toNat) ∘ fun c : UInt8 => (c.toNat : Int)) = id := by funext c; simp
    simp [Lib.bytesOf, e]

theorem bcompare_any (u v : Value) (n m : Nat) (a b : List UInt8) (w : World) (h1 : Reads 1 w u n (a.map B)) (h2 : Reads 1 w v m (b.map B)) :
    Calls Try.prog 44 #[u, v] w fun e w' => e = .returned (.int .i64 (Lib.compareBytes a b)) ∧ w' = w := by
  have hrun : (Extern.BytealgCompare.compare #[u, v]).run Try.prog w = .ok (.int .i64 (Lib.compareBytes a b)) w := by
    change Sem.run Try.prog (do pure (goInt (Extern.BytealgCompare.cmp (← Extern.Bytes.bytesOf u) (← Extern.Bytes.bytesOf v)))) w = _
    simp only [Sem.run_bind, Sem.run_pure, run_bytesOf a h1, run_bytesOf b h2, Result.andThen]
    rw [Lib.cmp_eq]
    rfl
  go_enter Try.func44, Try.ntmps44
  go_wp2
  rw [run_callFunc_extern (fn := Try.f54) (by kernel_rfl) (by kernel_rfl) (by kernel_rfl) (by kernel_rfl) (e := Extern.BytealgCompare.compare) (by kernel_rfl), hrun]
  simp only [Result.andThen]
  rw [Oper.upon_value]
  go_wp2
  go_ret
  exact ⟨rfl, rfl⟩

theorem cmp_less : ∀ a b : List UInt8, (Lib.compareBytes a b < 0) ↔ lessB a b = true
  | [], [] => by simp [Lib.compareBytes, lessB, Op.bytesLess]
  | [], _ :: _ => by simp [Lib.compareBytes, lessB, Op.bytesLess]
  | _ :: _, [] => by simp [Lib.compareBytes, lessB, Op.bytesLess]
  | c :: a, d :: b => by
    have ih := cmp_less a b
    unfold lessB at *
    rw [Lib.compareBytes, Op.bytesLess]
    by_cases h1 : c < d
    · simp [h1]
    · by_cases h2 : d < c
      · have hne : ¬ c = d := fun e => by subst e; exact h1 h2
        simp [h1, h2, hne]
      · have he : c = d := by
          rw [UInt8.lt_iff_toNat_lt] at h1 h2
          exact UInt8.toNat_inj.1 (by omega)
        subst he
        simp [h1, ih]

theorem may1_any (n : Int) (r : Bool) (w : World) (h : r = true ↔ ¬ numOk n) : Calls Try.prog 50 #[.int .i64 n] w fun e w' => e = .returned (.bool r) ∧ w' = w := by
  unfold numOk at h
  by_cases h1 : n < 0
  · obtain rfl : r = true := h.2 (by omega)
    have d1 : decide (n < 0) = true := by simp [h1]
    clear h
    go_enter Try.func50, Try.ntmps50
    go_wp2
    go_ret
    exact ⟨rfl, rfl⟩
  · have d1 : decide (n < 0) = false := by simp; omega
    by_cases h2 : 4294967295 < n
    · obtain rfl : r = true := h.2 (by omega)
      have d2 : decide (4294967295 < n) = true := by simp [h2]
      clear h
      go_enter Try.func50, Try.ntmps50
      go_wp2
      go_ret
      exact ⟨rfl, rfl⟩
    · obtain rfl : r = false := by
        cases r with
        | false => rfl
        | true => exact absurd (h.1 rfl) (by omega)
      have d2 : decide (4294967295 < n) = false := by simp; omega
      clear h
      go_enter Try.func50, Try.ntmps50
      go_wp2
      go_ret
      exact ⟨rfl, rfl⟩

set_option maxHeartbeats 800000 in
theorem index_any (D : List Int) (da : Option Addr) (nd dc : Nat) (w : World) (hx : Reads 1 w (.slice da nd dc) nd (D.map I)) (hd : nd ≤ 1152921504606846976) (hn : D.length = nd) :
    Calls Try.prog 55 #[.slice da nd dc, .func (.func 50) #[] #[]] w fun e w' => ∃ k : Int, e = .returned (.int .i64 k) ∧ (k < 0 ↔ ∀ (i : Nat) d, D[i]? = some d → numOk d) ∧ w' = w := by
  have HX := Lib.hid hx
  have HN := Lib.hid hn
  clear hx hn
  go_enter Try.func55, Try.ntmps55
  go_wp2_with fail
  go_loop [8] (fun i => ∃ k : Nat, k ≤ nd ∧ i = .int .i64 k ∧ Hid (AllTo numOk D k)) (fun i => nd - (intOf i).toNat)
  case atStart => exact ⟨0, Nat.zero_le _, rfl, Lib.hid (AllTo.zero _ _)⟩
  case round =>
    obtain ⟨k, hk, rfl, HP⟩ := hrel
    by_cases hlt : k < nd
    · have hkl : k < D.length := by rw [HN.out]; exact hlt
      have hu : (D.map I)[k]? = some (I D[k]) := by rw [List.getElem?_map, List.getElem?_eq_getElem hkl]; rfl
      have HU := Lib.hid (List.getElem?_eq_getElem hkl)
      generalize D[k] = d at *
      obtain ⟨b1, p1, q1, e1, hb1, _, hd1⟩ := HX.out.at k hlt _ hu
      obtain rfl := (Value.slice.inj e1).1
      simp only [I] at hd1
      clear e1 hu hkl
      by_cases hno : numOk d
      · have HNO := Lib.hid hno
        clear hno
        go_wp2_with fail
        refine (may1_any d false _ ⟨fun h => absurd h (by decide), fun h => absurd HNO.out h⟩).mono ?_
        rintro e w' ⟨rfl, rfl⟩
        go_wp2
        go_round
        case rel => exact ⟨k + 1, by omega, by go_num, Lib.hid (HP.out.step HU.out HNO.out)⟩
        case measure => simp [intOf]; omega
      · have HNO := Lib.hid hno
        clear hno
        go_wp2_with fail
        refine (may1_any d true _ ⟨fun _ => HNO.out, fun _ => rfl⟩).mono ?_
        rintro e w' ⟨rfl, rfl⟩
        go_wp2
        go_ret
        exact ⟨_, rfl, ⟨fun h => by omega, fun h => absurd (h k d HU.out) HNO.out⟩, rfl⟩
    · obtain rfl : nd = k := by omega
      go_wp2
      go_ret
      exact ⟨_, rfl, ⟨fun _ => HP.out.all HN.out, fun _ => by decide⟩, rfl⟩

theorem contains_any (D : List Int) (ds : Value) (nd : Nat) (w : World) (hx : Reads 1 w ds nd (D.map I)) (hd : nd ≤ 1152921504606846976) (hn : D.length = nd) (r : Bool) (hr : r = true ↔ ¬ ∀ (i : Nat) d, D[i]? = some d → numOk d) :
    Calls Try.prog 49 #[ds, .func (.func 50) #[] #[]] w fun e w' => e = .returned (.bool r) ∧ w' = w := by
  obtain ⟨da, dc, rfl⟩ := hx.shape
  have HX := Lib.hid hx
  have HN := Lib.hid hn
  have HR := Lib.hid hr
  clear hx hn hr
  go_enter Try.func49, Try.ntmps49
  go_wp2_with fail
  refine (index_any D da nd dc _ HX.out hd HN.out).mono ?_
  rintro e w' ⟨k, rfl, hk, rfl⟩
  by_cases h0 : 0 ≤ k
  · have d0 : decide (0 ≤ k) = true := by simp [h0]
    obtain rfl : r = true := HR.out.2 (fun h => by have := hk.2 h; omega)
    clear hk
    go_wp2
    go_ret
    exact ⟨rfl, rfl⟩
  · have d0 : decide (0 ≤ k) = false := by simp; omega
    obtain rfl : r = false := by
      cases r with
      | false => rfl
      | true => exact absurd (hk.1 (by omega)) (HR.out.1 rfl)
    clear hk
    go_wp2
    go_ret
    exact ⟨rfl, rfl⟩

end Go.Proofs.Ytfbblgcdggpehaa

/- What node.fits answers. Conditions: short lists. -/
import Derived.Test.YtfbblgcdggpehaaNCopied
namespace Go.Proofs.Ytfbblgcdggpehaa
set_option linter.unusedSimpArgs false
set_option linter.unusedVariables false
open Go.RowKit

def fitsB (b : Bool) (nk nv nd : Nat) : Bool := if b then nv == nk && nd == 0 else nd == nk + 1 && nv == 0
def Nd.fits (x : Nd) : Bool := fitsB x.leaf x.keys.length x.vals.length x.kids.length

theorem fits_sl (b : Bool) (n : Int) (ak av ad : Option Addr) (nk nv nd ck cv cd : Nat) (w : World) (hk : nk ≤ 1099511627776) (hv : nv ≤ 1099511627776) (hd : nd ≤ 1099511627776) (r : Bool) (hr : fitsB b nk nv nd = r) :
    Calls Try.prog 26 #[.agg #[.bool b, .slice ak nk ck, .slice av nv cv, .slice ad nd cd, .int .i64 n]] w fun e w' =>
      e = .returned (.bool r) ∧ Below w.heap.size w w' := by
  cases b with
  | true =>
    by_cases h1 : nv = nk
    · have e1 : ((nv : Int) == (nk : Int)) = true := by simp [h1]
      by_cases h2 : nd = 0
      · have e2 : ((nd : Int) == 0) = true := by simp [h2]
        obtain rfl : r = true := by rw [← hr]; simp [fitsB, h1, h2]
        clear hr h1 h2
        go_enter Try.func26, Try.ntmps26
        go_wp2
        go_ret
        exact ⟨rfl, (Below.refl _ _).alloc (Nat.le_refl _) _⟩
      · have e2 : ((nd : Int) == 0) = false := by rw [beq_eq_false_iff_ne]; omega
        obtain rfl : r = false := by rw [← hr]; simp [fitsB, h1, h2]
        clear hr h1 h2
        go_enter Try.func26, Try.ntmps26
        go_wp2
        go_ret
        exact ⟨rfl, (Below.refl _ _).alloc (Nat.le_refl _) _⟩
    · have e1 : ((nv : Int) == (nk : Int)) = false := by rw [beq_eq_false_iff_ne]; omega
      obtain rfl : r = false := by rw [← hr]; simp [fitsB, h1]
      clear hr h1
      go_enter Try.func26, Try.ntmps26
      go_wp2
      go_ret
      exact ⟨rfl, (Below.refl _ _).alloc (Nat.le_refl _) _⟩
  | false =>
    by_cases h1 : nd = nk + 1
    · have e1 : ((nd : Int) == (nk : Int) + 1) = true := by simp [h1]
      by_cases h2 : nv = 0
      · have e2 : ((nv : Int) == 0) = true := by simp [h2]
        obtain rfl : r = true := by rw [← hr]; simp [fitsB, h1, h2]
        clear hr h1 h2
        go_enter Try.func26, Try.ntmps26
        go_wp2
        go_ret
        exact ⟨rfl, (Below.refl _ _).alloc (Nat.le_refl _) _⟩
      · have e2 : ((nv : Int) == 0) = false := by rw [beq_eq_false_iff_ne]; omega
        obtain rfl : r = false := by rw [← hr]; simp [fitsB, h1, h2]
        clear hr h1 h2
        go_enter Try.func26, Try.ntmps26
        go_wp2
        go_ret
        exact ⟨rfl, (Below.refl _ _).alloc (Nat.le_refl _) _⟩
    · have e1 : ((nd : Int) == (nk : Int) + 1) = false := by rw [beq_eq_false_iff_ne]; omega
      obtain rfl : r = false := by rw [← hr]; simp [fitsB, h1]
      clear hr h1
      go_enter Try.func26, Try.ntmps26
      go_wp2
      go_ret
      exact ⟨rfl, (Below.refl _ _).alloc (Nat.le_refl _) _⟩

theorem fits_any (x : Nd) (ks vs ds : Value) (w : World) (hx : NodeAt w ks vs ds x) (hok : x.ok) :
    Calls Try.prog 26 #[.agg #[.bool x.leaf, ks, vs, ds, .int .i64 x.next]] w fun e w' => e = .returned (.bool x.fits) ∧ Below w.heap.size w w' := by
  obtain ⟨_, ⟨ak, ck, rfl, _⟩, _⟩ := hx.keys
  obtain ⟨_, ⟨av, cv, rfl, _⟩, _⟩ := hx.vals
  obtain ⟨ad, cd, rfl, _⟩ := hx.kids
  exact fits_sl x.leaf x.next _ _ _ _ _ _ _ _ _ w hok.keys hok.vals hok.kids _ rfl
end Go.Proofs.Ytfbblgcdggpehaa

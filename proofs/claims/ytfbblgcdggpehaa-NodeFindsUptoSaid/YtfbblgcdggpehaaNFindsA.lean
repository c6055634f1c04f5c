/- NodeFinds answers true. Conditions: short lists. -/
import Derived.Test.YtfbblgcdggpehaaNFindsH
import Derived.Test.YtfbblgcdggpehaaNFindsN
namespace Go.Proofs.Ytfbblgcdggpehaa
set_option linter.unusedSimpArgs false
set_option linter.unusedVariables false
open Go.RowKit

theorem finds_any (x : Nd) (hsm : x.small) (ks vs ds : Value) (k v : List UInt8) (kv vv : Value) (w : World) (hx : NodeAt w ks vs ds x) (hk : Reads 1 w kv k.length (k.map B)) (hv : Reads 1 w vv v.length (v.map B))
    (hkl : k.length ≤ 1048576) (hvl : v.length ≤ 1048576) (hk1 : x.keys.length + 1 ≤ 1048576) (hv1 : x.vals.length + 1 ≤ 1048576) :
    Calls Try.prog 7 #[.agg #[.bool x.leaf, ks, vs, ds, .int .i64 x.next], kv, vv] w fun e w' => e = .returned (.bool true) ∧ Below w.heap.size w w' := by
  by_cases hft : x.Fit
  · cases h1 : x.leaf with
    | false => exact finds_inner x hsm h1 hft ks vs ds k v kv vv w hx hk hv hkl hvl hk1 hv1 x.next rfl
    | true =>
      cases h2 : fhas x.keys k with
      | true => exact finds_has x hsm h1 hft ks vs ds k v h2 kv vv w hx hk hv hkl hvl hk1 hv1 x.next rfl
      | false => exact finds_new x hsm h1 hft ks vs ds k v h2 kv vv w hx hk hv hkl hvl hk1 hv1 x.next rfl
  · cases h1 : x.leaf with
    | false => exact finds_nofit_false x hsm h1 hft ks vs ds k v kv vv w hx hk hv hkl hvl hk1 hv1 x.next rfl
    | true => exact finds_nofit_true x hsm h1 hft ks vs ds k v kv vv w hx hk hv hkl hvl hk1 hv1 x.next rfl

end Go.Proofs.Ytfbblgcdggpehaa

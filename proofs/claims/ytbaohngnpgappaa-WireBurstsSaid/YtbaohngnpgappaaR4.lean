/- The wire statements' walks, over the numbers that come in. -/
import Derived.Test.YtbaohngnpgappaaR3
import Derived.Test.YtbaohngnpgappaaW22
set_option linter.unusedVariables false
set_option linter.unusedSimpArgs false
namespace Go.Proofs.Ytbaohngnpgappaa
open Go.ChangeShapes Go.RowKit
theorem wbursts_row {w : World} {F : Nat → Prop} {v : Value} {b : List UInt8} {at_ u : Int} (h : Rb w F v b) (h1 : (Lit.int .i64 at_).wf = true) (h2 : (Lit.int .u32 u).wf = true) :
    Calls Try.prog 13 #[v, .int .i64 at_, .int .u32 u] w (Told (.bool true) w) := by
  have b := bounds_u32 h2
  obtain ⟨n, rfl⟩ : ∃ n : Nat, u = n := ⟨u.toNat, by omega⟩
  exact wbursts_any h (bounds_i64 h1) (by omega)
end Go.Proofs.Ytbaohngnpgappaa

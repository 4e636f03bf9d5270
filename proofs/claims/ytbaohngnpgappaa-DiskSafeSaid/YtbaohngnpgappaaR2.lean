/- DiskSafe's walk, over the numbers that come in. -/
import Derived.Test.YtbaohngnpgappaaR1
import Derived.Test.YtbaohngnpgappaaD7
set_option linter.unusedVariables false
set_option linter.unusedSimpArgs false
namespace Go.Proofs.Ytbaohngnpgappaa
open Go.ChangeShapes Go.RowKit
theorem disksafe_row {w : World} {size keep tear : Int} {vl : Value} {l : List OpD} (hl : Row OpK w (fun k => k < w.heap.size) vl l) (h1 : (Lit.int .i64 size).wf = true) (h2 : (Lit.int .u64 keep).wf = true) :
    Calls Try.prog 5 #[.int .i64 size, vl, .int .u64 keep, .int .i64 tear] w (Told (.bool true) w) := by
  have b := bounds_u64 h2
  obtain ⟨n, rfl⟩ : ∃ n : Nat, keep = n := ⟨keep.toNat, by omega⟩
  exact disksafe hl (by omega) (bounds_i64 h1).1 (bounds_i64 h1).2
end Go.Proofs.Ytbaohngnpgappaa

/- The wire statements' live. -/
import Derived.Test.YtbaohngnpgappaaW12
set_option linter.unusedVariables false
set_option linter.unusedSimpArgs false
namespace Go.Proofs.Ytbaohngnpgappaa
open Go.RowKit
theorem enc_one : encodeI (.mk 1 1 [] []) = [1, 0, 0, 0, 0, 0, 0, 0, 1] ∧ checkI (.mk 1 1 [] []) = 0 := by constructor <;> decide +kernel
theorem enc_two : encodeI (.mk 3 0 [] [.mk 2 0 [97, 98] [], .mk 3 0 [] []]) = [3, 2, 2, 2, 97, 98, 3, 0] ∧ checkI (.mk 3 0 [] [.mk 2 0 [97, 98] [], .mk 3 0 [] []]) = 0 := by constructor <;> decide +kernel
theorem crc_nine : crc [49, 50, 51, 52, 53, 54, 55, 56, 57] = 3421780262 := by decide +kernel
end Go.Proofs.Ytbaohngnpgappaa

/- The document's Num1, Text1, List1: items made. -/
import Derived.Test.YtbaohngnpgappaaW10
import Derived.Handy
set_option linter.unusedVariables false
set_option linter.unusedSimpArgs false
namespace Go.Proofs.Ytbaohngnpgappaa
open Go.RowKit
theorem num1_any (n : Int) (w : World) : Calls Try.prog 72 #[.int .i64 n] w (Told (.agg #[.int .i64 1, .int .i64 n, .string ⟨#[]⟩, .slice none 0 0]) w) := by
  go_enter Try.func72, Try.ntmps72
  go_wp2_with fail
  go_returns
  exact (show Told _ _ _ _ from ⟨rfl, (Fr.refl _ _).alloc _⟩)
theorem text1_any (s : List UInt8) (w : World) : Calls Try.prog 73 #[.string ⟨s.toArray⟩] w (Told (.agg #[.int .i64 2, .int .i64 0, .string ⟨s.toArray⟩, .slice none 0 0]) w) := by
  go_enter Try.func73, Try.ntmps73
  go_wp2_with fail
  go_returns
  exact (show Told _ _ _ _ from ⟨rfl, (Fr.refl _ _).alloc _⟩)
theorem list1_any (A : Option Addr) (n c : Nat) (w : World) : Calls Try.prog 37 #[.slice A n c] w (Told (.agg #[.int .i64 3, .int .i64 0, .string ⟨#[]⟩, .slice A n c]) w) := by
  go_enter Try.func37, Try.ntmps37
  go_wp2_with fail
  go_returns
  exact (show Told _ _ _ _ from ⟨rfl, (Fr.refl _ _).alloc _⟩)
end Go.Proofs.Ytbaohngnpgappaa

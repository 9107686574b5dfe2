/- The functions of the program's package auto compute the plain functions of the text Plain, for all integers. -/
import Derived.Test.YtefohnbmifblkabChecked
import Derived.Test.YtefohnbmifblkabPlain
import Derived.WalkKit
import Derived.BigQuiet
namespace Go.Proofs.Ytefohnbmifblkab
open Go.RowKit

theorem ret_int {k : IntKind} {a b : Int} (h : a = b) : Ending.returned (.int k a) = .returned (.int k b) := by rw [h]
theorem ret_bool {a b : Bool} (h : a = b) : Ending.returned (.bool a) = .returned (.bool b) := by rw [h]

end Go.Proofs.Ytefohnbmifblkab

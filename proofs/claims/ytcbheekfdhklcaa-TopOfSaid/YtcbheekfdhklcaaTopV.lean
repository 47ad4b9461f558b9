/- Two items that are one are not unequal. -/
import Derived.Test.YtcbheekfdhklcaaTopS
namespace Go.Proofs.Ytcbheekfdhklcaa
open Go.RowKit
set_option linter.unusedVariables false
set_option linter.unusedSimpArgs false
attribute [local go_sem high] eqI
theorem neqI (x : ByteArray) (a b : Int) (w : World) : (binOp .neq 35 (.agg #[.string x, .int .u64 a, .int .u64 b]) (.agg #[.string x, .int .u64 a, .int .u64 b])).run Try.prog w = .ok (.bool false) w := by
  go_simp

end Go.Proofs.Ytcbheekfdhklcaa

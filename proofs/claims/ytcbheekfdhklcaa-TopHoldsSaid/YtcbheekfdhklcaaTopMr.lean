/- TopHolds: the row's lemma. -/
import Derived.Test.YtcbheekfdhklcaaTopM
namespace Go.Proofs.Ytcbheekfdhklcaa
open Go.RowKit
theorem topHolds_row (room : Int) (a : Option Addr) (len cap : Nat) (xs : List Int) (w : World) (h1 : (Lit.int .u8 room).wf = true) (hz : Ints .u8 w a len xs) (hc : len ≤ cap) (hl : len * 1 ≤ 140737488351232) :
    Calls Try.prog 3 #[.int .u8 room, .slice a len cap] w fun e w' => e = .returned (.bool true) ∧ Below w.heap.size w w' :=
  topHolds_walk room a len cap xs w (bounds_u8 h1) hz hc (by omega)
end Go.Proofs.Ytcbheekfdhklcaa

/- QuotaTold, of the arguments as the row opens them. -/
import Derived.Test.YtapiehddcdnadaaDoorQuI
namespace Go.Proofs.YtapiehddcdnadaaDoor
open Go.RowKit Go.ChangeShapes Go.WideShapes Go.ChangeAt Go.Deep
set_option linter.unusedVariables false
set_option maxRecDepth 100000 in
theorem quotaTold_row {H : Type} {enc : TypeId × Value → H} {held : Bool} {r : Reach} {b0 base : Nat} {d : DataW H} {ps : List MemPlace} (v : Value) (a2 : Option Addr) (n2 c2 : Nat) (ys : List Int) (w : World) (hv : Value.okWide Tryd.prog w r b0 27 v) (hr : DataW.Trod enc Tryd.prog w base (fun _ => true) held 27 v d ps) (hy : Ints .u8 w a2 n2 ys) (hc : n2 ≤ c2) (hl : n2 * 1 ≤ 140737488351232) (hT : Tab w) :
    Calls Tryd.prog 5 #[v, .slice a2 n2 c2] w fun e w' => e = .returned (.bool true) ∧ Below w.heap.size w w' := by
  obtain ⟨p, ta, tn, tc, ts, own, a, n, c, xs, rfl, _, _, hx, hn, _⟩ := wish_open hv hr
  exact told_walk p ta tn tc own a n c xs a2 n2 c2 ys w hT hx hn hy hc (by omega)
end Go.Proofs.YtapiehddcdnadaaDoor

/- QuotaKnown, of the arguments as the row opens them. -/
import Derived.Test.YtapiehddcdnadaaDoorQuK
namespace Go.Proofs.YtapiehddcdnadaaDoor
open Go.RowKit Go.ChangeShapes Go.WideShapes Go.ChangeAt Go.Deep
set_option linter.unusedVariables false
set_option maxRecDepth 100000 in
theorem quotaKnown_row {H : Type} {enc : TypeId × Value → H} {held : Bool} {r : Reach} {b0 base : Nat} {d : DataW H} {ps : List MemPlace} (v : Value) (a2 : Option Addr) (n2 c2 : Nat) (w : World) (hv : Value.okWide Tryd.prog w r b0 27 v) (hr : DataW.Trod enc Tryd.prog w base (fun _ => true) held 27 v d ps) (hy : DeedsQ w a2 n2) (hT : Tab w) :
    Calls Tryd.prog 3 #[v, .slice a2 n2 c2] w fun e w' => e = .returned (.bool true) ∧ Below w.heap.size w w' := by
  obtain ⟨p, ta, tn, tc, ts, own, a, n, c, xs, rfl, _, _, hx, hn, _⟩ := wish_open hv hr
  exact known_walk p ta tn tc own a n c xs a2 n2 c2 w hT hx hn hy
end Go.Proofs.YtapiehddcdnadaaDoor

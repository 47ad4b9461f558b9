/- QuotaPlays, of the arguments as the row opens them. -/
import Derived.Test.YtapiehddcdnadaaGreatDoorQuZ6
import Derived.Test.YtapiehddcdnadaaGreatDoorM16
namespace Go.Proofs.YtapiehddcdnadaaGreatDoor
open Go.RowKit Go.ChangeShapes Go.WideShapes Go.ChangeAt Go.Deep
set_option linter.unusedVariables false
set_option maxRecDepth 100000 in
theorem quotaPlays_row {H : Type} {enc : TypeId × Value → H} {held : Bool} {r : Reach} {b0 base : Nat} {d : DataW H} {ps : List MemPlace} (v : Value) (window : Int) (near : Bool) (a2 : Option Addr) (n2 c2 : Nat) (w : World) (hv : Value.okWide Tryz.prog w r b0 27 v) (hr : DataW.Trod enc Tryz.prog w base (fun _ => true) held 27 v d ps)
    (hw : (Lit.int .i64 window).wf = true) (hd : DeedsQ w a2 n2) (hT : Tab w) :
    Calls Tryz.prog 3 #[v, .int .i64 window, .bool near, .slice a2 n2 c2] w fun e w' => e = .returned (.bool true) ∧ Below w.heap.size w w' := by
  obtain ⟨p, ta, tn, tc, ts, own, a, n, c, xs, rfl, ht, htn, hx, hn, _⟩ := wish_open hv hr
  exact plays_walk p ta tn tc ts own a n c xs window near a2 n2 c2 w hT ht htn hx hn (bounds_i64 hw) hd
end Go.Proofs.YtapiehddcdnadaaGreatDoor

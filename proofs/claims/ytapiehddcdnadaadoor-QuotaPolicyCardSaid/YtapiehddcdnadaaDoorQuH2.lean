/- QuotaPolicy, of the arguments as the row opens them. -/
import Derived.Test.YtapiehddcdnadaaDoorQuH
import Derived.Test.YtapiehddcdnadaaDoorQuO
namespace Go.Proofs.YtapiehddcdnadaaDoor
open Go.RowKit Go.ChangeShapes Go.WideShapes Go.ChangeAt Go.Deep
set_option linter.unusedVariables false
set_option maxRecDepth 100000 in
theorem quotaPolicy_row {H : Type} {enc : TypeId × Value → H} {held : Bool} {r r' : Reach} {b0 b0' base base' : Nat} {d d' : DataW H} {ps ps' : List MemPlace} (v v' : Value) (a2 : Option Addr) (n2 c2 : Nat) (ys : List Int) (w : World) (hv : Value.okWide Tryd.prog w r b0 27 v) (hr : DataW.Trod enc Tryd.prog w base (fun _ => true) held 27 v d ps) (hv' : Value.okWide Tryd.prog w r' b0' 27 v') (hr' : DataW.Trod enc Tryd.prog w base' (fun _ => true) held 27 v' d' ps') (hy : Ints .u8 w a2 n2 ys) (hc : n2 ≤ c2) (hl : n2 * 1 ≤ 140737488351232) (hT : Tab w) :
    Calls Tryd.prog 6 #[v, v', .slice a2 n2 c2] w fun e w' => e = .returned (.bool true) ∧ Below w.heap.size w w' := by
  obtain ⟨p, ta, tn, tc, ts, own, a, n, c, xs, rfl, _, _, hx, hn, _⟩ := wish_open hv hr
  obtain ⟨p2, ta2, tn2, tc2, ts2, own2, a1, n1, c1, xs1, rfl, _, _, hx1, hn1, _⟩ := wish_open hv' hr'
  exact policy_walk p ta tn tc own a n c xs p2 ta2 tn2 tc2 own2 a1 n1 c1 xs1 a2 n2 c2 ys w hT hx hn hx1 hn1 hy hc (by omega)
end Go.Proofs.YtapiehddcdnadaaDoor

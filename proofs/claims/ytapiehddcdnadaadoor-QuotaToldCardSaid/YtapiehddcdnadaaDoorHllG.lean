/- The laws' helpers: examples answers true; fed makes the sketch of what was added. -/
import Derived.Test.YtapiehddcdnadaaDoorHllF
import Derived.Test.YtapiehddcdnadaaDoorRow
namespace Go.Proofs.YtapiehddcdnadaaDoor
open Go.RowKit
set_option linter.unusedVariables false
set_option linter.unusedSimpArgs false

/-- The registers behind additions. -/
def feed (b : Nat) (r : List Int) (xs : List Int) : List Int := xs.foldl (fun r x => addR b r x.toNat) r
def zeros (b : Nat) : List Int := List.replicate (2 ^ b) 0

def ex1 : List Int := 1 :: List.replicate 15 0
theorem ex_add : addR 4 (zeros 4) 16 = ex1 ∧ addB 4 (zeros 4) 16 = true ∧ addR 4 ex1 16 = ex1 ∧ addB 4 ex1 16 = false ∧ estI 4 (zeros 4) = 0 ∧ estI 4 ex1 = 1 := by decide +kernel

theorem feed_snoc (b : Nat) (r xs : List Int) (k : Nat) (hk : k < xs.length) : feed b r (xs.take (k + 1)) = addR b (feed b r (xs.take k)) (xs.getD k 0).toNat := by
  unfold feed
  rw [List.take_succ_eq_append_getElem hk, List.foldl_append]
  simp [List.getD_eq_getElem?_getD, List.getElem?_eq_getElem hk]

theorem Ints.bd64 {w : World} {a : Option Addr} {n : Nat} {xs : List Int} (h : Ints .u64 w a n xs) (k : Nat) (hk : k < n) : 0 ≤ xs.getD k 0 ∧ xs.getD k 0 ≤ 18446744073709551615 := by
  refine bounds_u64 (h.wf _ ?_)
  rw [List.getD_eq_getElem?_getD, List.getElem?_eq_getElem (by rw [h.len]; exact hk)]
  exact List.getElem_mem _

end Go.Proofs.YtapiehddcdnadaaDoor

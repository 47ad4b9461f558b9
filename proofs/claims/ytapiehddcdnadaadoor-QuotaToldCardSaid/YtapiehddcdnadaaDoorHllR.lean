/- The walk of HllRegisters: it returns true, whatever it is given; what lay in memory stays. -/
import Derived.Test.YtapiehddcdnadaaDoorHllQ
namespace Go.Proofs.YtapiehddcdnadaaDoor
open Go.RowKit
set_option linter.unusedVariables false
set_option linter.unusedSimpArgs false

theorem ctz_pow (n : Nat) (hn : n < 64) : Lib.ctz 64 (2 ^ n) = n := by
  have h : ∀ n, n < 64 → Lib.ctz 64 (2 ^ n) = n := by decide +kernel
  exact h n hn

/-- A sum that comes to register k with rank n + 1. -/
theorem sum_facts (b n k : Nat) (hb : b ≤ 10) (hn : n < 64 - b) (hk : k < 2 ^ b) :
    k + 2 ^ (b + n) < 18446744073709551616 ∧ (k + 2 ^ (b + n)) % 2 ^ b = k ∧ rk26 (k + 2 ^ (b + n)) b = ((min (n + 1) 26 : Nat) : Int) := by
  have h1 : 2 ^ (b + n) ≤ 2 ^ 63 := Nat.pow_le_pow_right (by omega) (by omega)
  have h2 : 2 ^ b ≤ 2 ^ 10 := Nat.pow_le_pow_right (by omega) hb
  have e : (k + 2 ^ (b + n)) / 2 ^ b = 2 ^ n := by
    rw [Nat.pow_add, Nat.add_mul_div_left _ _ (Nat.two_pow_pos b), Nat.div_eq_of_lt hk, Nat.zero_add]
  refine ⟨by omega, ?_, ?_⟩
  · rw [Nat.pow_add, Nat.add_mul_mod_self_left, Nat.mod_eq_of_lt hk]
  · unfold rk26 rk
    rw [e, ctz_pow n (by omega)]
    congr 1
    omega

theorem strOfNums_get (xs : List Int) (i : Nat) (h : i < xs.length) : (strOfNums xs)[i]? = some (UInt8.ofNat (xs.getD i 0).toNat) := by
  have hs : i < (strOfNums xs).size := by rw [strOfNums_size]; exact h
  rw [getElem?_pos (strOfNums xs) i hs]
  congr 1
  show (strOfNums xs).data[i] = _
  simp [strOfNums, List.getD_eq_getElem?_getD, List.getElem?_eq_getElem h]

theorem Ints.bd8 {w : World} {a : Option Addr} {n : Nat} {xs : List Int} (h : Ints .u8 w a n xs) (k : Nat) (hk : k < n) : 0 ≤ xs.getD k 0 ∧ xs.getD k 0 ≤ 255 := by
  refine bounds_u8 (h.wf _ ?_)
  rw [List.getD_eq_getElem?_getD, List.getElem?_eq_getElem (by rw [h.len]; exact hk)]
  exact List.getElem_mem _

theorem nil_ints (w : World) : Ints .u64 w none 0 [] := Ints.nil _ _ _

end Go.Proofs.YtapiehddcdnadaaDoor

/- Estimate: it returns the plain number; what lay in memory stays. A sketch of 4 to 10 bits. -/
import Derived.Test.YtapiehddcdnadaaDoorHllD
namespace Go.Proofs.YtapiehddcdnadaaDoor
open Go.RowKit
set_option linter.unusedVariables false
set_option linter.unusedSimpArgs false

/-- The sum over the first registers. -/
def sumTo (r : List Int) (k : Nat) : Int := ((r.take k).map fun x => (2 : Int) ^ (26 - x.toNat)).sum
def zeroTo (r : List Int) (k : Nat) : Int := ((r.take k).countP fun x => x == 0 : Nat)
/-- The sum from z + 1 to z + k. -/
def rareTo (m z : Nat) : Nat → Nat
  | 0 => 0
  | k + 1 => rareTo m z k + m * 65536 / (z + k + 1)

theorem sumTo_succ (r : List Int) (k : Nat) (hk : k < r.length) : sumTo r (k + 1) = sumTo r k + (2 : Int) ^ (26 - (r.getD k 0).toNat) := by
  unfold sumTo
  rw [List.take_succ_eq_append_getElem hk, List.map_append, List.sum_append]
  congr 1
  simp [List.getD_eq_getElem?_getD, List.getElem?_eq_getElem hk]
theorem zeroTo_succ (r : List Int) (k : Nat) (hk : k < r.length) : zeroTo r (k + 1) = zeroTo r k + (if r.getD k 0 = 0 then 1 else 0) := by
  unfold zeroTo
  rw [List.take_succ_eq_append_getElem hk, List.countP_append]
  simp only [List.getD_eq_getElem?_getD, List.getElem?_eq_getElem hk, Option.getD_some]
  by_cases h : r[k] = 0 <;> simp [h]
theorem pow_bd (x : Nat) : 1 ≤ (2 : Int) ^ (26 - x) ∧ (2 : Int) ^ (26 - x) ≤ 67108864 := by
  have h1 : 0 < 2 ^ (26 - x) := Nat.two_pow_pos _
  have h2 : 2 ^ (26 - x) ≤ 2 ^ 26 := Nat.pow_le_pow_right (by omega) (by omega)
  have e : (2 : Int) ^ (26 - x) = ((2 ^ (26 - x) : Nat) : Int) := by simp
  rw [e]
  have h3 : (2 : Nat) ^ 26 = 67108864 := by decide
  omega
theorem sumTo_bd (r : List Int) (k : Nat) (hk : k ≤ r.length) : k ≤ sumTo r k ∧ sumTo r k ≤ k * 67108864 := by
  induction k with
  | zero => simp [sumTo]
  | succ k ih =>
    have h1 := ih (by omega)
    have h2 := pow_bd (r.getD k 0).toNat
    rw [sumTo_succ r k (by omega)]
    omega
theorem zeroTo_bd (r : List Int) (k : Nat) : 0 ≤ zeroTo r k ∧ zeroTo r k ≤ k := by
  unfold zeroTo
  have h := List.countP_le_length (p := fun x : Int => x == 0) (l := r.take k)
  have h2 : (r.take k).length ≤ k := List.length_take_le _ _
  omega
/-- The shift by a register, as the walk spells it. -/
theorem shl_reg (v : Int) (h0 : 0 ≤ v) (h1 : v ≤ 26) : IntKind.u64.wrap ((2 : Int) ^ (26 - v).toNat) = (2 : Int) ^ (26 - v.toNat) := by
  have e : (26 - v).toNat = 26 - v.toNat := by omega
  rw [e]
  have := pow_bd v.toNat
  exact IntWalk.u64_in _ (by omega)
theorem alphaN_bd (b : Nat) (h : b = 4 ∨ b = 5 ∨ b = 6 ∨ b = 7 ∨ b = 8 ∨ b = 9 ∨ b = 10) : 1 ≤ alphaN b ∧ alphaN b ≤ 7213 := by
  rcases h with rfl | rfl | rfl | rfl | rfl | rfl | rfl <;> decide +kernel

theorem rareTo_bd (m z k : Nat) (hm : m ≤ 1024) : rareTo m z k ≤ k * 67108864 := by
  induction k with
  | zero => simp [rareTo]
  | succ k ih =>
    have h1 : m * 65536 / (z + k + 1) ≤ m * 65536 := Nat.div_le_self _ _
    simp only [rareTo]
    omega
def rawI (b : Nat) (S : Int) : Int := ((alphaN b * 2 ^ b * 2 ^ b : Nat) : Int) * 67108864 / (10000 * S)
/-- The estimate. -/
def estI (b : Nat) (r : List Int) : Int :=
  if zeroTo r (2 ^ b) = 0 ∨ 5 * ((2 ^ b : Nat) : Int) / 2 < rawI b (sumTo r (2 ^ b)) then rawI b (sumTo r (2 ^ b))
  else ((rareTo (2 ^ b) (zeroTo r (2 ^ b)).toNat (2 ^ b - (zeroTo r (2 ^ b)).toNat) : Nat) : Int) / 65536

set_option maxRecDepth 100000 in
set_option maxHeartbeats 1000000 in
theorem Estimate_any (g b : Nat) (r : List Int) (w : World) (h : Sk w g b r) :
    Calls Tryd.prog 29 #[.pointer (some ⟨g, 0, none⟩)] w fun e w' => e = .returned (.int .u64 (estI b r)) ∧ Below w.heap.size w w' := by
  have hest : ∃ E, E = estI b r := ⟨_, rfl⟩
  obtain ⟨E, hE⟩ := hest
  rw [← hE]
  have HE := Lib.hid hE
  clear hE
  have c0 := h.cell0
  have hm : 2 ^ b ≤ 1024 := by have := Nat.pow_le_pow_right (n := 2) (by omega) h.hi; simpa using this
  have hm2 : 16 ≤ 2 ^ b := by have := Nat.pow_le_pow_right (n := 2) (by omega) h.lo; simpa using this
  have hs := shl1 b h.bits_cases
  obtain ⟨m, hm0⟩ : ∃ m, 2 ^ b = m := ⟨_, rfl⟩
  rw [hm0] at hm hm2 hs
  have hu := fun W hS => used_m g b m r W hS hm0
  have HU := Lib.hid hu
  have HM := Lib.hid hm0
  clear hm0 hu
  go_enter Tryd.func29, Tryd.ntmps29
  go_wp2_with fail
  refine (HU.out _ h).mono ?_
  rintro e w1 ⟨rfl, rfl⟩
  go_wp2_with fail
  go_loop [4, 5, 19] (fun s z i => ∃ k : Nat, k ≤ m ∧ i = .int .i64 k ∧ s = .int .u64 (sumTo r k) ∧ z = .int .u64 (zeroTo r k)) (fun _ _ i => m - (intOf i).toNat)
  case atStart => exact ⟨0, Nat.zero_le _, rfl, rfl, rfl⟩
  case round =>
    obtain ⟨k, hk, rfl, rfl, rfl⟩ := hrel
    have hrl : m = r.length := by rw [h.len, HM.out]
    have b1 := sumTo_bd r k (by omega)
    have b2 := zeroTo_bd r k
    by_cases hkm : k < m
    · have hc := h.cell k (by rw [HM.out]; exact hkm)
      have hv := h.get k
      have HS := Lib.hid (sumTo_succ r k (by omega))
      have HZ := Lib.hid (zeroTo_succ r k (by omega))
      have hsh := shl_reg (r.getD k 0) hv.1 hv.2
      have hp := pow_bd (r.getD k 0).toNat
      generalize r.getD k 0 = v at *
      generalize hp0 : (2 : Int) ^ (26 - v.toNat) = p at *
      have HP := Lib.hid hp0
      clear hp0
      clear hrl
      have hk1 : (k : Int) < m := by omega
      generalize hS : sumTo r k = sk at *
      generalize hZ : zeroTo r k = zk at *
      have HS1 := Lib.hid hS
      have HZ1 := Lib.hid hZ
      clear hS hZ
      by_cases hv0 : v = 0
      · subst hv0
        go_wp2_with fail
        go_round
        case rel => exact ⟨k + 1, by omega, by go_num, by rw [HS.out, ← HP.out]; rfl, by rw [HZ.out]; simp⟩
        case measure => simp [intOf]; omega
      · have hv1 : (v == 0) = false := by simpa using hv0
        go_wp2_with fail
        go_round
        case rel => exact ⟨k + 1, by omega, by go_num, by rw [HS.out], by rw [HZ.out, if_neg hv0]; simp⟩
        case measure => simp [intOf]; omega
    · obtain rfl : k = m := by omega
      have hE := HE.out
      unfold estI rawI at hE
      rw [HM.out] at hE
      have HE2 := Lib.hid hE
      clear hE HE hrl hk hkm
      generalize sumTo r k = S at *
      generalize zeroTo r k = Z at *
      go_wp2_with fail
      have hal := alpha_any g b w c0 h.bits_cases
      have hab := alphaN_bd b h.bits_cases
      generalize alphaN b = al at *
      refine hal.mono ?_
      clear hal
      rintro e w2 ⟨rfl, hb2⟩
      obtain ⟨am, ham⟩ : ∃ am : Nat, al * k = am := ⟨_, rfl⟩
      obtain ⟨amm, hamm⟩ : ∃ amm : Nat, am * k = amm := ⟨_, rfl⟩
      have hE3 := HE2.out
      rw [ham, hamm] at hE3
      have ham1 : am ≤ 7213 * 1024 := by rw [← ham]; exact Nat.mul_le_mul (by omega) (by omega)
      have hamm1 : amm ≤ 7213 * 1024 * 1024 := by rw [← hamm]; exact Nat.mul_le_mul (by omega) (by omega)
      have e1 : IntKind.u64.wrap ((al : Int) * k) = am := by rw [← ham, IntWalk.u64_in _ (by omega)]; simp
      have e2 : IntKind.u64.wrap ((am : Int) * k) = amm := by rw [← hamm, IntWalk.u64_in _ (by omega)]; simp
      clear ham hamm HE2
      have HE3 := Lib.hid hE3
      clear hE3
      obtain ⟨z, rfl⟩ := Int.eq_ofNat_of_zero_le b2.1
      by_cases hZ : (z : Int) = 0
      · have hf : E = (amm : Int) * 67108864 / (10000 * S) := by rw [HE3.out, if_pos (.inl hZ)]
        have HF := Lib.hid hf
        obtain rfl : z = 0 := by omega
        clear hf hZ
        go_wp2_with fail
        all_goals
          go_ret
          exact ⟨ret_int HF.out.symm, hb2⟩
      · have hZ1 : ((z : Int) == 0) = false := by simpa using hZ
        by_cases hq2 : 5 * (k : Int) / 2 < (amm : Int) * 67108864 / (10000 * S)
        · have hf : E = (amm : Int) * 67108864 / (10000 * S) := by rw [HE3.out, if_pos (.inr hq2)]
          have HF := Lib.hid hf
          clear hf
          go_wp2_with fail
          go_ret
          exact ⟨ret_int HF.out.symm, hb2⟩
        · have hf : E = ((rareTo k z (k - z) : Nat) : Int) / 65536 := by rw [HE3.out, if_neg (by simp only [not_or]; exact ⟨hZ, hq2⟩)]; simp
          have HF := Lib.hid hf
          clear hf
          go_wp2_with fail
          go_loop [9, 10] (fun s i => ∃ j : Nat, j ≤ k - z ∧ i = .int .u64 ((z : Int) + 1 + j) ∧ s = .int .u64 (rareTo k z j)) (fun _ i => k + 1 - (intOf i).toNat)
          case atStart => exact ⟨0, Nat.zero_le _, by simp, by simp [rareTo]⟩
          case round =>
            obtain ⟨j, hj, rfl, rfl⟩ := hrel
            have hrb := rareTo_bd k z j hm
            by_cases hjk : j < k - z
            · have hR : rareTo k z (j + 1) = rareTo k z j + k * 65536 / (z + j + 1) := rfl
              have hd : k * 65536 / (z + j + 1) ≤ k * 65536 := Nat.div_le_self _ _
              have hD : (k : Int) * 65536 / ((z : Int) + 1 + j) = ((k * 65536 / (z + j + 1) : Nat) : Int) := by
                rw [Int.natCast_ediv]; congr 1; simp; omega
              generalize k * 65536 / (z + j + 1) = x at *
              have HR := Lib.hid hR
              clear hR
              generalize rareTo k z j = ra at *
              go_wp2_with fail
              go_round
              case rel => exact ⟨j + 1, by omega, by go_num, by rw [HR.out]; go_num⟩
              case measure => simp [intOf]; omega
            · obtain rfl : j = k - z := by omega
              go_wp2_with fail
              go_ret
              exact ⟨ret_int HF.out.symm, hb2⟩
end Go.Proofs.YtapiehddcdnadaaDoor

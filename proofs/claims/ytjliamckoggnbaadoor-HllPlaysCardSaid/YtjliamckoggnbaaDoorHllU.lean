/- The document's own sketch: its Registers and its estimate. -/
import Derived.Test.YtjliamckoggnbaaDoorHllT
import Derived.Deep.CutBlock
import Derived.Deep.DeepCutAuto
namespace Go.Proofs.YtjliamckoggnbaaDoor
open Go.RowKit
set_option linter.unusedVariables false
set_option linter.unusedSimpArgs false

/-- A row of bytes as a text. -/
theorem conv_ints (W : World) (bk off : Nat) (n c : Nat) (xs : List Int) (h : Ints .u8 W (some ⟨bk, off, none⟩) n xs) (h0 : 0 < n) :
    (convert 23 9 (.slice (some ⟨bk, off, none⟩) n c)).run Tryd.prog W = .ok (.string (strOfNums xs)) W := by
  obtain ⟨bk', off', ha, hlt, hc⟩ := h.at_ h0
  obtain ⟨rfl, rfl⟩ : bk' = bk ∧ off' = off := by injection ha with ha; injection ha with h1 h2; exact ⟨h1.symm, h2.symm⟩
  exact run_convert_bytes_arg (P := Tryd.prog) _ 23 5 Tryd.underlying23 Tryd.underlying5 bk' off' n c xs h.len (fun i hi => hc i hi) 9 Tryd.underlying9

set_option maxRecDepth 100000 in
set_option maxHeartbeats 2000000 in
theorem RRegisters_any (g y b : Nat) (r : List Int) (w : World) (R : Rf w g y b r) :
    Calls Tryd.prog 27 #[.pointer (some ⟨g, 0, none⟩)] w fun e w' => e = .returned (.string (strOfNums r)) ∧ Below w.heap.size w w' := by
  have c0 := R.cell0
  have hm : 2 ^ b ≤ 1024 := by have := Nat.pow_le_pow_right (n := 2) (by omega) R.hi; simpa using this
  obtain ⟨m, hm0⟩ : ∃ m, 2 ^ b = m := ⟨_, rfl⟩
  rw [hm0] at hm c0
  have HM := Lib.hid hm0
  clear hm0
  obtain ⟨i0, hi0, hz0, hz1, hz2⟩ := info_parts info_u8
  go_enter Tryd.func27, Tryd.ntmps27
  go_wp2_with fail
  go_loopw [3, 4] (fun v i wr => ∃ (k : Nat) (A : Option Addr) (c : Nat), k ≤ m ∧ i = .int .i64 k ∧ v = .slice A k c ∧ Own .u8 5 wr w.heap.size A k c (r.take k) ∧ Below w.heap.size w wr) (fun _ i _ => m - (intOf i).toNat)
  case atStart => exact ⟨0, none, 0, Nat.zero_le _, rfl, rfl, Own.nil, Below.refl _ _⟩
  case round =>
    obtain ⟨k, A, c, hk, rfl, rfl, hO, hB⟩ := hrel
    have hBs := hB.size
    have hR := R.step hB
    have c1 := hR.cell0
    rw [HM.out] at c1
    by_cases hkm : k < m
    · have ck := hR.cell k (by rw [HM.out]; exact hkm)
      have hv := R.get k
      have HT := Lib.hid (List.take_succ_eq_append_getElem (l := r) (i := k) (by rw [R.len, HM.out]; exact hkm))
      have HV := Lib.hid (show r[k]'(by rw [R.len, HM.out]; exact hkm) = r.getD k 0 by simp [List.getD_eq_getElem?_getD, List.getElem?_eq_getElem (show k < r.length by rw [R.len, HM.out]; exact hkm)])
      generalize r.getD k 0 = v at *
      have hw : (Lit.int .u8 v).wf = true := by
        simp [Lit.wf, IntKind.min, IntKind.max, IntKind.signed, IntKind.bits]
        omega
      have hk1 : (k : Int) < m := by omega
      go_wp2_with (first
        | (at_builtin
           refine wpList_app _ rfl _ _ 23 rfl 5 i0 1 .u8 Tryd.underlying23 hi0 hz0 hz1 hz2 w.heap.size A k c _ (hO.step (balloc (Below.refl _ _) _)) rfl (some ⟨wr.heap.size, 0, none⟩) 1 1 [v] (ints_one (Blk.new wr _ _) hw) rfl (by omega) (by omega) (by simp; omega) ?_
           intro A1 c1 w4 hO1 hG1 hat1
           have b4 := (hO.step (balloc (Below.refl _ _) _)).below (balloc hB _) (by simp; omega) hG1))
      go_roundw
      case rel => exact ⟨k + 1, A1, c1, by omega, by go_num, rfl, by rw [HT.out, HV.out]; exact hO1, b4⟩
      case measure => simp [intOf]; omega
    · obtain rfl : k = m := by omega
      rw [List.take_of_length_le (by rw [R.len, HM.out]; omega)] at hO
      have hi := hO.ints
      obtain ⟨bk, off, rfl, _, _⟩ := hi.at_ (by have := HM.out; have := Nat.two_pow_pos b; omega)
      have hcv := conv_ints wr bk off k c r hi (by have := HM.out; have := Nat.two_pow_pos b; omega)
      go_wp2_with fail
      go_ret
      exact ⟨rfl, hB⟩

set_option maxRecDepth 100000 in
set_option maxHeartbeats 2000000 in
theorem REstimate_any (g y b : Nat) (r : List Int) (w : World) (R : Rf w g y b r) :
    Calls Tryd.prog 16 #[.pointer (some ⟨g, 0, none⟩)] w fun e w' => e = .returned (.int .u64 (estI b r)) ∧ Below w.heap.size w w' := by
  have hest : ∃ E, E = estI b r := ⟨_, rfl⟩
  obtain ⟨E, hE⟩ := hest
  rw [← hE]
  have HE := Lib.hid hE
  clear hE
  have c0 := R.cell0
  have hm : 2 ^ b ≤ 1024 := by have := Nat.pow_le_pow_right (n := 2) (by omega) R.hi; simpa using this
  have hm2 : 16 ≤ 2 ^ b := by have := Nat.pow_le_pow_right (n := 2) (by omega) R.lo; simpa using this
  obtain ⟨m, hm0⟩ : ∃ m, 2 ^ b = m := ⟨_, rfl⟩
  rw [hm0] at hm hm2 c0
  have HM := Lib.hid hm0
  clear hm0
  go_enter Tryd.func16, Tryd.ntmps16
  go_wp2_with fail
  go_loop [4, 5, 6] (fun s z i => ∃ k : Nat, k ≤ m ∧ i = .int .i64 k ∧ s = .int .u64 (sumTo r k) ∧ z = .int .u64 (zeroTo r k)) (fun _ _ i => m - (intOf i).toNat)
  case atStart => exact ⟨0, Nat.zero_le _, rfl, rfl, rfl⟩
  case round =>
    obtain ⟨k, hk, rfl, rfl, rfl⟩ := hrel
    have hrl : m = r.length := by rw [R.len, HM.out]
    have b1 := sumTo_bd r k (by omega)
    have b2 := zeroTo_bd r k
    by_cases hkm : k < m
    · have hc := R.cell k (by rw [HM.out]; exact hkm)
      have hv := R.get k
      have HS := Lib.hid (sumTo_succ r k (by omega))
      have HZ := Lib.hid (zeroTo_succ r k (by omega))
      have hsh := shl_reg (r.getD k 0) hv.1 hv.2
      have hp := pow_bd (r.getD k 0).toNat
      generalize r.getD k 0 = v at *
      generalize hp0 : (2 : Int) ^ (26 - v.toNat) = p at *
      have HP := Lib.hid hp0
      clear hp0
      clear hrl
      have hk1 : (k : Int) < m := by omega
      generalize hS : sumTo r k = sk at *
      generalize hZ : zeroTo r k = zk at *
      have HS1 := Lib.hid hS
      have HZ1 := Lib.hid hZ
      clear hS hZ
      by_cases hv0 : v = 0
      · subst hv0
        go_wp2_with fail
        go_round
        case rel => exact ⟨k + 1, by omega, by go_num, by rw [HS.out, ← HP.out]; rfl, by rw [HZ.out]; simp⟩
        case measure => simp [intOf]; omega
      · have hv1 : (v == 0) = false := by simpa using hv0
        go_wp2_with fail
        go_round
        case rel => exact ⟨k + 1, by omega, by go_num, by rw [HS.out], by rw [HZ.out, if_neg hv0]; simp⟩
        case measure => simp [intOf]; omega
    · obtain rfl : k = m := by omega
      have hE := HE.out
      unfold estI rawI at hE
      rw [HM.out] at hE
      have HE2 := Lib.hid hE
      clear hE HE hrl hk hkm
      generalize sumTo r k = S at *
      generalize zeroTo r k = Z at *
      have hal : (72130000 * (k : Int)) / (10000 * (k : Int) + 10790) = ((72130000 * k / (10000 * k + 10790) : Nat) : Int) := by simp
      have hald : 72130000 * k / (10000 * k + 10790) ≤ 7213 := by
        rw [← Nat.lt_succ_iff, Nat.div_lt_iff_lt_mul (by omega)]; omega
      have HAL := Lib.hid (show alphaN b = if b = 4 then 6730 else if b = 5 then 6970 else if b = 6 then 7090 else 72130000 * k / (10000 * k + 10790) by unfold alphaN; rw [HM.out])
      generalize 72130000 * k / (10000 * k + 10790) = al0 at *
      have hab := alphaN_bd b R.bits_cases
      go_wp2_with fail
      refine (RBits_any g y b r _ R).mono ?_
      rintro e w1 ⟨rfl, hb2⟩
      obtain ⟨al, hal1⟩ : ∃ al, alphaN b = al := ⟨_, rfl⟩
      have HAL2 := Lib.hid hal1
      rw [hal1] at hab
      have hE4 := HE2.out
      rw [hal1] at hE4
      have HE4 := Lib.hid hE4
      clear hE4 HE2 hal hal1
      have hbb : b ≤ 10 := R.hi
      go_upto_block 2 with fail
      go_cut [7] (fun v wx => v = .int .u64 al ∧ wx = w1)
      case first =>
        have hA := HAL.out
        rw [HAL2.out] at hA
        have HA := Lib.hid hA
        clear hA HAL HAL2
        by_cases h4 : b = 4
        · have hA := HA.out
          rw [if_pos h4] at hA
          have HA2 := Lib.hid hA
          subst h4
          clear hA HA
          go_wp2_with fail
          go_meet
          exact ⟨by rw [HA2.out]; rfl, rfl⟩
        · by_cases h5 : b = 5
          · have hA := HA.out
            rw [if_neg h4, if_pos h5] at hA
            have HA2 := Lib.hid hA
            subst h5
            clear hA HA
            go_wp2_with fail
            go_meet
            exact ⟨by rw [HA2.out]; rfl, rfl⟩
          · by_cases h6 : b = 6
            · have hA := HA.out
              rw [if_neg h4, if_neg h5, if_pos h6] at hA
              have HA2 := Lib.hid hA
              subst h6
              clear hA HA
              go_wp2_with fail
              go_meet
              exact ⟨by rw [HA2.out]; rfl, rfl⟩
            · have hA := HA.out
              rw [if_neg h4, if_neg h5, if_neg h6] at hA
              have HA2 := Lib.hid hA
              have h4' : ((b : Int) == 4) = false := by simp; omega
              have h5' : ((b : Int) == 5) = false := by simp; omega
              have h6' : ((b : Int) == 6) = false := by simp; omega
              clear hA HA h4 h5 h6
              go_wp2_with fail
              go_meet
              exact ⟨by rw [HA2.out], rfl⟩
      case rest =>
        obtain ⟨rfl, rfl⟩ := hcut
        clear HAL HAL2 hald
        obtain ⟨am, ham⟩ : ∃ am : Nat, al * k = am := ⟨_, rfl⟩
        obtain ⟨amm, hamm⟩ : ∃ amm : Nat, am * k = amm := ⟨_, rfl⟩
        have hE3 := HE4.out
        rw [ham, hamm] at hE3
        have ham1 : am ≤ 7213 * 1024 := by rw [← ham]; exact Nat.mul_le_mul (by omega) (by omega)
        have hamm1 : amm ≤ 7213 * 1024 * 1024 := by rw [← hamm]; exact Nat.mul_le_mul (by omega) (by omega)
        have e1 : IntKind.u64.wrap ((al : Int) * k) = am := by rw [← ham, IntWalk.u64_in _ (by omega)]; simp
        have e2 : IntKind.u64.wrap ((am : Int) * k) = amm := by rw [← hamm, IntWalk.u64_in _ (by omega)]; simp
        clear ham hamm HE4
        have HE3 := Lib.hid hE3
        clear hE3
        obtain ⟨z, rfl⟩ := Int.eq_ofNat_of_zero_le b2.1
        by_cases hZ : (z : Int) = 0
        · have hf : E = (amm : Int) * 67108864 / (10000 * S) := by rw [HE3.out, if_pos (.inl hZ)]
          have HF := Lib.hid hf
          obtain rfl : z = 0 := by omega
          clear hf hZ
          go_wp2_with fail
          all_goals
            go_ret
            exact ⟨ret_int HF.out.symm, hb2⟩
        · have hZ1 : ((z : Int) == 0) = false := by simpa using hZ
          by_cases hq2 : 5 * (k : Int) / 2 < (amm : Int) * 67108864 / (10000 * S)
          · have hf : E = (amm : Int) * 67108864 / (10000 * S) := by rw [HE3.out, if_pos (.inr hq2)]
            have HF := Lib.hid hf
            clear hf
            go_wp2_with fail
            go_ret
            exact ⟨ret_int HF.out.symm, hb2⟩
          · have hf : E = ((rareTo k z (k - z) : Nat) : Int) / 65536 := by rw [HE3.out, if_neg (by simp only [not_or]; exact ⟨hZ, hq2⟩)]; simp
            have HF := Lib.hid hf
            clear hf
            go_wp2_with fail
            go_loop [9, 10] (fun s i => ∃ j : Nat, j ≤ k - z ∧ i = .int .u64 ((z : Int) + 1 + j) ∧ s = .int .u64 (rareTo k z j)) (fun _ i => k + 1 - (intOf i).toNat)
            case atStart => exact ⟨0, Nat.zero_le _, by simp, by simp [rareTo]⟩
            case round =>
              obtain ⟨j, hj, rfl, rfl⟩ := hrel
              have hrb := rareTo_bd k z j hm
              by_cases hjk : j < k - z
              · have hR : rareTo k z (j + 1) = rareTo k z j + k * 65536 / (z + j + 1) := rfl
                have hd : k * 65536 / (z + j + 1) ≤ k * 65536 := Nat.div_le_self _ _
                have hD : (k : Int) * 65536 / ((z : Int) + 1 + j) = ((k * 65536 / (z + j + 1) : Nat) : Int) := by
                  rw [Int.natCast_ediv]; congr 1; simp; omega
                generalize k * 65536 / (z + j + 1) = x at *
                have HR := Lib.hid hR
                clear hR
                generalize rareTo k z j = ra at *
                go_wp2_with fail
                go_round
                case rel => exact ⟨j + 1, by omega, by go_num, by rw [HR.out]; go_num⟩
                case measure => simp [intOf]; omega
              · obtain rfl : j = k - z := by omega
                go_wp2_with fail
                go_ret
                exact ⟨ret_int HF.out.symm, hb2⟩
end Go.Proofs.YtjliamckoggnbaaDoor

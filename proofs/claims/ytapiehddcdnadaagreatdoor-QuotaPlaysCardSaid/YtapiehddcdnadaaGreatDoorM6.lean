/- The document's own sketch: its rank, Add, Merge, Registers. The document's own sketch: its Registers and its estimate. The document's own sketch of registers: Of. -/
import Derived.Test.YtapiehddcdnadaaGreatDoorM5
import Derived.StillTailTactics
import Derived.Deep.CutBlock
import Derived.Deep.DeepCutAuto
namespace Go.Proofs.YtapiehddcdnadaaGreatDoor
open Go.RowKit
set_option linter.unusedVariables false
set_option linter.unusedSimpArgs false

theorem pow_odd (a c m n : Nat) (h : 2 ^ a * (2 * m + 1) = 2 ^ c * (2 * n + 1)) : a = c := by
  have key : ∀ a c m n : Nat, a < c → 2 ^ a * (2 * m + 1) = 2 ^ c * (2 * n + 1) → False := by
    intro a c m n hlt he
    obtain ⟨d, rfl⟩ : ∃ d, c = a + d + 1 := ⟨c - a - 1, by omega⟩
    rw [Nat.pow_succ, Nat.pow_add, Nat.mul_assoc, Nat.mul_assoc] at he
    have h2 := Nat.eq_of_mul_eq_mul_left (Nat.two_pow_pos a) he
    have h3 : 2 ^ d * (2 * (2 * n + 1)) = 2 * (2 ^ d * (2 * n + 1)) := by rw [Nat.mul_left_comm]
    omega
  rcases Nat.lt_trichotomy a c with h1 | h1 | h1
  · exact (key a c m n h1 h).elim
  · exact h1
  · exact (key c a n m h1 h.symm).elim
theorem ctz_at (x j : Nat) (hx : x < 2 ^ 64) (h0 : x % 2 ^ j = 0) (h1 : x / 2 ^ j % 2 = 1) : Lib.ctz 64 x = j := by
  have e1 : x = 2 ^ j * (2 * (x / 2 ^ j / 2) + 1) := by
    have h2 := Nat.div_add_mod x (2 ^ j)
    have h3 : 2 * (x / 2 ^ j / 2) + 1 = x / 2 ^ j := by omega
    rw [h3]
    omega
  have hne : x ≠ 0 := by rintro rfl; simp at h1
  obtain ⟨m, h4, _⟩ := Lib.ctzFrom_spec 64 x (by omega) hx
  unfold Lib.ctz
  rw [if_neg hne]
  exact pow_odd _ _ m (x / 2 ^ j / 2) (by rw [← h4]; exact e1)

theorem rk_found (h b j : Nat) (hh : h < 18446744073709551616) (hj : j < 64 - b) (h0 : h / 2 ^ b % 2 ^ j = 0) (h1 : h / 2 ^ (b + j) % 2 = 1) : rk h b = j + 1 := by
  rw [Nat.pow_add, ← Nat.div_div_eq_div_mul] at h1
  have hx : h / 2 ^ b < 2 ^ 64 := Nat.lt_of_le_of_lt (Nat.div_le_self _ _) (by simpa using hh)
  unfold rk
  rw [ctz_at _ j hx h0 h1]
  omega
theorem rk_none (h b : Nat) (hh : h < 18446744073709551616) (hb : b ≤ 10) (h0 : h / 2 ^ b % 2 ^ (64 - b) = 0) : rk h b = 64 - b + 1 := by
  have hx : h / 2 ^ b < 2 ^ (64 - b) := by
    rw [Nat.div_lt_iff_lt_mul (Nat.two_pow_pos b), ← Nat.pow_add, show 64 - b + b = 64 by omega]
    simpa using hh
  rw [Nat.mod_eq_of_lt hx] at h0
  unfold rk
  rw [h0]
  simp [Lib.ctz]
theorem rk_next (x j : Nat) (h0 : x % 2 ^ j = 0) (h1 : x / 2 ^ j % 2 = 0) : x % 2 ^ (j + 1) = 0 := by
  rw [Nat.pow_succ, Nat.mod_mul, h0, h1]
  rfl

theorem RRank_any (h b : Nat) (w : World) (hh : h < 18446744073709551616) (hb : b ≤ 10) :
    Calls Tryz.prog 81 #[.int .u64 h, .int .i64 b] w fun e w' => e = .returned (.int .i64 (rk h b)) ∧ w = w' := by
  obtain ⟨q, hq⟩ : ∃ q, rk h b = q := ⟨_, rfl⟩
  rw [hq]
  have HQ := Lib.hid hq
  clear hq
  go_enter Tryz.func81, Tryz.ntmps81
  go_wp2_with fail
  have HX := Lib.hid (show h / 2 ^ b % 2 ^ 0 = 0 by simp [Nat.mod_one])
  go_loop [5, 6] (fun n i => ∃ j : Nat, j ≤ 64 - b ∧ n = .int .i64 ((j : Int) + 1) ∧ i = .int .i64 ((b : Int) + j) ∧ Hid (h / 2 ^ b % 2 ^ j = 0)) (fun _ i => 64 - (intOf i).toNat)
  case atStart => exact ⟨0, Nat.zero_le _, rfl, by simp, HX⟩
  case round =>
    obtain ⟨j, hj, rfl, rfl, HJ⟩ := hrel
    by_cases hj2 : j < 64 - b
    · have e1 : ((h : Int) / 2 ^ (b + j)).tmod 2 = ((h / 2 ^ (b + j) % 2 : Nat) : Int) := by
        have e2 : (h : Int) / 2 ^ (b + j) = ((h / 2 ^ (b + j) : Nat) : Int) := by simp
        rw [e2, Int.tmod_eq_emod_of_nonneg (Int.natCast_nonneg _)]
        simp
      by_cases hq : h / 2 ^ (b + j) % 2 = 1
      · have hr := rk_found h b j hh hj2 HJ.out hq
        have HR := Lib.hid hr
        rw [hq] at e1
        have hc : (((h : Int) / 2 ^ (b + j)).tmod 2 == 1) = true := by rw [e1]; rfl
        clear hq HJ hr e1
        go_wp2_with fail
        go_ret
        exact ⟨ret_int (by have h1 := HQ.out; have h2 := HR.out; omega), rfl⟩
      · have hn := rk_next (h / 2 ^ b) j HJ.out (by rw [Nat.div_div_eq_div_mul, ← Nat.pow_add]; omega)
        rw [show h / 2 ^ (b + j) % 2 = 0 by omega] at e1
        have hc : (((h : Int) / 2 ^ (b + j)).tmod 2 == 1) = false := by rw [e1]; rfl
        have HN := Lib.hid hn
        clear hq HJ hn e1
        go_wp2_with fail
        go_round
        case rel => exact ⟨j + 1, by omega, by go_num, by go_num, HN⟩
        case measure => simp [intOf]; omega
    · obtain rfl : j = 64 - b := by omega
      have HR := Lib.hid (rk_none h b hh hb HJ.out)
      clear HJ HX
      have e1 : ((64 - b : Nat) : Int) = 64 - (b : Int) := by omega
      rw [e1]
      go_wp2_with fail
      go_ret
      exact ⟨ret_int (by have h1 := HQ.out; have h2 := HR.out; omega), rfl⟩

theorem set_max_self (r : List Int) (k : Nat) (v : Int) (hk : k < r.length) (h : v ≤ r.getD k 0) : r.set k (max (r.getD k 0) v) = r := by
  rw [Int.max_eq_left h]
  refine ext_getD (by simp) (fun j _ => ?_)
  rw [getD_set _ _ _ _ hk]
  split
  · next e => rw [e]
  · rfl

set_option maxRecDepth 100000 in
set_option maxHeartbeats 1000000 in
theorem RAdd_any (g y b : Nat) (r : List Int) (h : Nat) (w : World) (hh : h < 18446744073709551616) (R : Rf w g y b r) :
    Calls Tryz.prog 62 #[.pointer (some ⟨g, 0, none⟩), .int .u64 h] w fun e w' => e = .returned (.bool (addB b r h)) ∧ Rf w' g y b (addR b r h) ∧ w.grownBy w' (some y) := by
  have c0 := R.cell0
  have hlo := R.lo
  have hhi := R.hi
  have hm : 2 ^ b ≤ 1024 := by have := Nat.pow_le_pow_right (n := 2) (by omega) hhi; simpa using this
  have hm2 : 16 ≤ 2 ^ b := by have := Nat.pow_le_pow_right (n := 2) (by omega) hlo; simpa using this
  have hk := Nat.mod_lt h (Nat.two_pow_pos b)
  have ek : (h : Int) % ((2 ^ b : Nat) : Int) = ((h % 2 ^ b : Nat) : Int) := by simp
  have hset := set_max_self r (h % 2 ^ b) (rk26 h b) (by rw [R.len]; exact hk)
  have hput := fun w' (R' : Rf w' g y b r) => R'.put (h % 2 ^ b) (rk26 h b) hk (by have := rk26_bd h b; omega) (by have := rk26_bd h b; omega)
  have hget := R.get (h % 2 ^ b)
  have HC := Lib.hid (fun w' (R' : Rf w' g y b r) => R'.cell (h % 2 ^ b) hk)
  have hA : addR b r h = r.set (h % 2 ^ b) (max (r.getD (h % 2 ^ b) 0) (rk26 h b)) := rfl
  have hB : addB b r h = decide (r.getD (h % 2 ^ b) 0 < rk26 h b) := rfl
  have hrk : rk26 h b = ((min (rk h b) 26 : Nat) : Int) := rfl
  rw [hA, hB]
  clear hA hB
  generalize hK : h % 2 ^ b = k at *
  have HK := Lib.hid hK
  clear hK
  have HRK := Lib.hid (RRank_any h b)
  generalize rk26 h b = q at *
  generalize rk h b = q0 at *
  generalize r.getD k 0 = v at *
  obtain ⟨m, hm0⟩ : ∃ m, 2 ^ b = m := ⟨_, rfl⟩
  have HBits := Lib.hid (RBits_any g y b r)
  rw [hm0] at hm hm2 hk c0 ek
  have HM := Lib.hid hm0
  clear hm0
  have hk1 : (k : Int) < m := by omega
  have hq1 : min (q0 : Int) 26 = q := by omega
  have HS := Lib.hid hset
  have HP := Lib.hid hput
  clear hset hput
  go_enter Tryz.func62, Tryz.ntmps62
  go_wp2_with fail
  rw [ek]
  refine (HBits.out _ R).mono ?_
  rintro e w1 ⟨rfl, b1⟩
  replace R := R.step b1
  have c1 := HC.out _ R
  have cg := R.cell0
  rw [HM.out] at cg
  go_wp2_with fail
  refine (HRK.out _ hh hhi).mono ?_
  rintro e w2 ⟨rfl, rfl⟩
  have hfr := R.frozen k
  have hP := HP.out _ R
  have hG : w.grownBy w1 (some y) := only_of_below b1 _
  by_cases hvq : v < q
  · have hd : decide (q ≤ v) = false := decide_eq_false (by omega)
    have hd2 : ¬ q ≤ v := by omega
    have HPP := Lib.hid hP
    clear hP hrk
    go_wp2_with fail
    go_ret
    refine ⟨ret_bool (by simp; omega), ?_, only_setCell hG (.inl rfl) _⟩
    have hmx : max v q = q := by omega
    rw [hmx]
    exact HPP.out
  · have hs := HS.out (by omega)
    have hd : decide (q ≤ v) = true := decide_eq_true (by omega)
    have hd2 : q ≤ v := by omega
    have HPS := Lib.hid hs
    clear hP hs hrk
    go_wp2_with fail
    go_ret
    exact ⟨ret_bool (by simp; omega), by rw [HPS.out]; exact R, hG⟩

theorem RMerge_no (g y b : Nat) (r : List Int) (g' y' b' : Nat) (r' : List Int) (w : World) (R : Rf w g y b r) (R' : Rf w g' y' b' r') (hne : b ≠ b') :
    Calls Tryz.prog 56 #[.pointer (some ⟨g, 0, none⟩), .pointer (some ⟨g', 0, none⟩)] w fun e w' => e = .returned (.bool false) ∧ Below w.heap.size w w' := by
  have c0 := R.cell0
  have c1 := R'.cell0
  have hpn : 2 ^ b' ≠ 2 ^ b := fun e => by
    rcases Nat.lt_trichotomy b b' with h1 | h1 | h1
    · have := Nat.pow_lt_pow_right (a := 2) (by omega) h1; omega
    · exact hne h1
    · have := Nat.pow_lt_pow_right (a := 2) (by omega) h1; omega
  generalize 2 ^ b = m at *
  generalize 2 ^ b' = m' at *
  have hd : ((m' : Int) == (m : Int)) = false := by simp; omega
  have hd2 : ((m' : Int) != (m : Int)) = true := by simp; omega
  go_enter Tryz.func56, Tryz.ntmps56
  go_wp2_with fail
  go_quiet (fail)
  go_wp2_with fail
  go_ret
  exact ⟨rfl, bdrewN (Below.refl _ _) _⟩

set_option maxRecDepth 100000 in
set_option maxHeartbeats 1000000 in
theorem RMerge_yes (g y b : Nat) (r : List Int) (g' y' : Nat) (r' : List Int) (w : World) (R : Rf w g y b r) (R' : Rf w g' y' b r') (h1 : y ≠ y') :
    Calls Tryz.prog 56 #[.pointer (some ⟨g, 0, none⟩), .pointer (some ⟨g', 0, none⟩)] w fun e w' => e = .returned (.bool true) ∧ Rf w' g y b (List.zipWith max r r') ∧ w.grownBy w' (some y) := by
  have c0 := R.cell0
  have c1 := R'.cell0
  have hgy : g' ≠ y := R'.blk.ne_ R.row (by decide)
  have hm : 2 ^ b ≤ 1024 := by have := Nat.pow_le_pow_right (n := 2) (by omega) R.hi; simpa using this
  obtain ⟨m, hm0⟩ : ∃ m, 2 ^ b = m := ⟨_, rfl⟩
  rw [hm0] at hm c0 c1
  have HM := Lib.hid hm0
  clear hm0
  have hd : ((m : Int) == (m : Int)) = true := by simp
  have hd2 : ((m : Int) != (m : Int)) = false := by simp
  go_enter Tryz.func56, Tryz.ntmps56
  go_wp2_with fail
  go_quiet (fail)
  go_wp2_with fail
  have hG : w.grownBy (w.drewN nq) (some y) := only_drewN (only_refl _ _) _
  have hR : Rf (w.drewN nq) g y b r := R.drewN _
  generalize w.drewN nq = wq at *
  go_loopw [5] (fun i wr => ∃ k : Nat, k ≤ m ∧ i = .int .i64 k ∧ Rf wr g y b (mergeTo r r' k) ∧ w.grownBy wr (some y)) (fun i _ => m - (intOf i).toNat)
  case atStart => exact ⟨0, Nat.zero_le _, rfl, by rw [mergeTo_zero]; exact hR, hG⟩
  case round =>
    obtain ⟨k, hk, rfl, hRk, hGk⟩ := hrel
    have hk0 := hRk.cell0
    rw [HM.out] at hk0
    by_cases hkm : k < m
    · have hT := R'.grown hGk (by simp; omega) (by simp; omega)
      have hrl : k < r.length := by rw [R.len, HM.out]; exact hkm
      have hrl' : k < r'.length := by rw [R'.len, HM.out]; exact hkm
      have ck := hRk.cell k (by rw [HM.out]; exact hkm)
      have ck' := hT.cell k (by rw [HM.out]; exact hkm)
      have ct0 := hT.cell0
      rw [HM.out] at ct0
      have hv := R.get k
      have hv' := R'.get k
      rw [mergeTo_get r r' k hrl hrl'] at ck
      have hput := hRk.put k (max (r.getD k 0) (r'.getD k 0)) (by rw [HM.out]; exact hkm) (by omega) (by omega)
      rw [mergeTo_succ r r' k hrl hrl'] at hput
      have hfr := hRk.frozen k
      have HP := Lib.hid hput
      clear hput
      generalize r'.getD k 0 = v' at *
      generalize r.getD k 0 = v at *
      have hk1 : (k : Int) < m := by omega
      go_wp2_with fail
      go_still_tail 21, (by kernel_rfl)
      change wpList _ _ _ _ _ wr.drew
      have hfr2 : wr.drew.frozen? ⟨y, k, none⟩ = false := hfr
      have ck2 : wr.drew.cell? ⟨y, k, none⟩ = some (.int .i64 v) := ck
      have HP2 : Hid (Rf (wr.drew.setCell ⟨y, k, none⟩ (.int .i64 (max v v'))) g y b (mergeTo r r' (k + 1))) := Lib.hid ((HP.out).drewN 1)
      have hG2 : w.grownBy wr.drew (some y) := only_drew hGk
      generalize wr.drew = w2 at *
      go_wp2_with fail
      refine ⟨⟨k + 1, by omega, by go_num, HP2.out, only_setCell hG2 (.inl rfl) _⟩, by simp [intOf]; omega⟩
    · obtain rfl : k = m := by omega
      go_wp2_with fail
      go_ret
      have hl := R.len
      have hl' := R'.len
      rw [HM.out] at hl hl'
      rw [mergeTo_all r r' k hl hl'] at hRk
      exact ⟨rfl, hRk, hGk⟩
end Go.Proofs.YtapiehddcdnadaaGreatDoor
namespace Go.Proofs.YtapiehddcdnadaaGreatDoor
open Go.RowKit
set_option linter.unusedVariables false
set_option linter.unusedSimpArgs false

/-- A row of bytes as a text. -/
theorem conv_ints (W : World) (bk off : Nat) (n c : Nat) (xs : List Int) (h : Ints .u8 W (some ⟨bk, off, none⟩) n xs) (h0 : 0 < n) :
    (convert 68 9 (.slice (some ⟨bk, off, none⟩) n c)).run Tryz.prog W = .ok (.string (strOfNums xs)) W := by
  obtain ⟨bk', off', ha, hlt, hc⟩ := h.at_ h0
  obtain ⟨rfl, rfl⟩ : bk' = bk ∧ off' = off := by injection ha with ha; injection ha with h1 h2; exact ⟨h1.symm, h2.symm⟩
  exact run_convert_bytes_arg (P := Tryz.prog) _ 68 5 Tryz.underlying68 Tryz.underlying5 bk' off' n c xs h.len (fun i hi => hc i hi) 9 Tryz.underlying9

set_option maxRecDepth 100000 in
set_option maxHeartbeats 2000000 in
theorem RRegisters_any (g y b : Nat) (r : List Int) (w : World) (R : Rf w g y b r) :
    Calls Tryz.prog 53 #[.pointer (some ⟨g, 0, none⟩)] w fun e w' => e = .returned (.string (strOfNums r)) ∧ Below w.heap.size w w' := by
  have c0 := R.cell0
  have hm : 2 ^ b ≤ 1024 := by have := Nat.pow_le_pow_right (n := 2) (by omega) R.hi; simpa using this
  obtain ⟨m, hm0⟩ : ∃ m, 2 ^ b = m := ⟨_, rfl⟩
  rw [hm0] at hm c0
  have HM := Lib.hid hm0
  clear hm0
  obtain ⟨i0, hi0, hz0, hz1, hz2⟩ := info_parts info_u8
  go_enter Tryz.func53, Tryz.ntmps53
  go_wp2_with fail
  go_loopw [3, 4] (fun v i wr => ∃ (k : Nat) (A : Option Addr) (c : Nat), k ≤ m ∧ i = .int .i64 k ∧ v = .slice A k c ∧ Own .u8 5 wr w.heap.size A k c (r.take k) ∧ Below w.heap.size w wr) (fun _ i _ => m - (intOf i).toNat)
  case atStart => exact ⟨0, none, 0, Nat.zero_le _, rfl, rfl, Own.nil, Below.refl _ _⟩
  case round =>
    obtain ⟨k, A, c, hk, rfl, rfl, hO, hB⟩ := hrel
    have hBs := hB.size
    have hR := R.step hB
    have c1 := hR.cell0
    rw [HM.out] at c1
    by_cases hkm : k < m
    · have ck := hR.cell k (by rw [HM.out]; exact hkm)
      have hv := R.get k
      have HT := Lib.hid (List.take_succ_eq_append_getElem (l := r) (i := k) (by rw [R.len, HM.out]; exact hkm))
      have HV := Lib.hid (show r[k]'(by rw [R.len, HM.out]; exact hkm) = r.getD k 0 by simp [List.getD_eq_getElem?_getD, List.getElem?_eq_getElem (show k < r.length by rw [R.len, HM.out]; exact hkm)])
      generalize r.getD k 0 = v at *
      have hw : (Lit.int .u8 v).wf = true := by
        simp [Lit.wf, IntKind.min, IntKind.max, IntKind.signed, IntKind.bits]
        omega
      have hk1 : (k : Int) < m := by omega
      go_wp2_with (first
        | (at_builtin
           refine wpList_app _ rfl _ _ 68 rfl 5 i0 1 .u8 Tryz.underlying68 hi0 hz0 hz1 hz2 w.heap.size A k c _ (hO.step (balloc (Below.refl _ _) _)) rfl (some ⟨wr.heap.size, 0, none⟩) 1 1 [v] (ints_one (Blk.new wr _ _) hw) rfl (by omega) (by omega) (by simp; omega) ?_
           intro A1 c1 w4 hO1 hG1 hat1
           have b4 := (hO.step (balloc (Below.refl _ _) _)).below (balloc hB _) (by simp; omega) hG1))
      go_roundw
      case rel => exact ⟨k + 1, A1, c1, by omega, by go_num, rfl, by rw [HT.out, HV.out]; exact hO1, b4⟩
      case measure => simp [intOf]; omega
    · obtain rfl : k = m := by omega
      rw [List.take_of_length_le (by rw [R.len, HM.out]; omega)] at hO
      have hi := hO.ints
      obtain ⟨bk, off, rfl, _, _⟩ := hi.at_ (by have := HM.out; have := Nat.two_pow_pos b; omega)
      have hcv := conv_ints wr bk off k c r hi (by have := HM.out; have := Nat.two_pow_pos b; omega)
      go_wp2_with fail
      go_ret
      exact ⟨rfl, hB⟩

set_option maxRecDepth 100000 in
set_option maxHeartbeats 2000000 in
theorem REstimate_any (g y b : Nat) (r : List Int) (w : World) (R : Rf w g y b r) :
    Calls Tryz.prog 41 #[.pointer (some ⟨g, 0, none⟩)] w fun e w' => e = .returned (.int .u64 (estI b r)) ∧ Below w.heap.size w w' := by
  have hest : ∃ E, E = estI b r := ⟨_, rfl⟩
  obtain ⟨E, hE⟩ := hest
  rw [← hE]
  have HE := Lib.hid hE
  clear hE
  have c0 := R.cell0
  have hm : 2 ^ b ≤ 1024 := by have := Nat.pow_le_pow_right (n := 2) (by omega) R.hi; simpa using this
  have hm2 : 16 ≤ 2 ^ b := by have := Nat.pow_le_pow_right (n := 2) (by omega) R.lo; simpa using this
  obtain ⟨m, hm0⟩ : ∃ m, 2 ^ b = m := ⟨_, rfl⟩
  rw [hm0] at hm hm2 c0
  have HM := Lib.hid hm0
  clear hm0
  go_enter Tryz.func41, Tryz.ntmps41
  go_wp2_with fail
  go_loop [4, 5, 6] (fun s z i => ∃ k : Nat, k ≤ m ∧ i = .int .i64 k ∧ s = .int .u64 (sumTo r k) ∧ z = .int .u64 (zeroTo r k)) (fun _ _ i => m - (intOf i).toNat)
  case atStart => exact ⟨0, Nat.zero_le _, rfl, rfl, rfl⟩
  case round =>
    obtain ⟨k, hk, rfl, rfl, rfl⟩ := hrel
    have hrl : m = r.length := by rw [R.len, HM.out]
    have b1 := sumTo_bd r k (by omega)
    have b2 := zeroTo_bd r k
    by_cases hkm : k < m
    · have hc := R.cell k (by rw [HM.out]; exact hkm)
      have hv := R.get k
      have HS := Lib.hid (sumTo_succ r k (by omega))
      have HZ := Lib.hid (zeroTo_succ r k (by omega))
      have hsh := shl_reg (r.getD k 0) hv.1 hv.2
      have hp := pow_bd (r.getD k 0).toNat
      generalize r.getD k 0 = v at *
      generalize hp0 : (2 : Int) ^ (26 - v.toNat) = p at *
      have HP := Lib.hid hp0
      clear hp0
      clear hrl
      have hk1 : (k : Int) < m := by omega
      generalize hS : sumTo r k = sk at *
      generalize hZ : zeroTo r k = zk at *
      have HS1 := Lib.hid hS
      have HZ1 := Lib.hid hZ
      clear hS hZ
      by_cases hv0 : v = 0
      · subst hv0
        go_wp2_with fail
        go_round
        case rel => exact ⟨k + 1, by omega, by go_num, by rw [HS.out, ← HP.out]; rfl, by rw [HZ.out]; simp⟩
        case measure => simp [intOf]; omega
      · have hv1 : (v == 0) = false := by simpa using hv0
        go_wp2_with fail
        go_round
        case rel => exact ⟨k + 1, by omega, by go_num, by rw [HS.out], by rw [HZ.out, if_neg hv0]; simp⟩
        case measure => simp [intOf]; omega
    · obtain rfl : k = m := by omega
      have hE := HE.out
      unfold estI rawI at hE
      rw [HM.out] at hE
      have HE2 := Lib.hid hE
      clear hE HE hrl hk hkm
      generalize sumTo r k = S at *
      generalize zeroTo r k = Z at *
      have hal : (72130000 * (k : Int)) / (10000 * (k : Int) + 10790) = ((72130000 * k / (10000 * k + 10790) : Nat) : Int) := by simp
      have hald : 72130000 * k / (10000 * k + 10790) ≤ 7213 := by
        rw [← Nat.lt_succ_iff, Nat.div_lt_iff_lt_mul (by omega)]; omega
      have HAL := Lib.hid (show alphaN b = if b = 4 then 6730 else if b = 5 then 6970 else if b = 6 then 7090 else 72130000 * k / (10000 * k + 10790) by unfold alphaN; rw [HM.out])
      generalize 72130000 * k / (10000 * k + 10790) = al0 at *
      have hab := alphaN_bd b R.bits_cases
      go_wp2_with fail
      refine (RBits_any g y b r _ R).mono ?_
      rintro e w1 ⟨rfl, hb2⟩
      obtain ⟨al, hal1⟩ : ∃ al, alphaN b = al := ⟨_, rfl⟩
      have HAL2 := Lib.hid hal1
      rw [hal1] at hab
      have hE4 := HE2.out
      rw [hal1] at hE4
      have HE4 := Lib.hid hE4
      clear hE4 HE2 hal hal1
      have hbb : b ≤ 10 := R.hi
      go_upto_block 2 with fail
      go_cut [7] (fun v wx => v = .int .u64 al ∧ wx = w1)
      case first =>
        have hA := HAL.out
        rw [HAL2.out] at hA
        have HA := Lib.hid hA
        clear hA HAL HAL2
        by_cases h4 : b = 4
        · have hA := HA.out
          rw [if_pos h4] at hA
          have HA2 := Lib.hid hA
          subst h4
          clear hA HA
          go_wp2_with fail
          go_meet
          exact ⟨by rw [HA2.out]; rfl, rfl⟩
        · by_cases h5 : b = 5
          · have hA := HA.out
            rw [if_neg h4, if_pos h5] at hA
            have HA2 := Lib.hid hA
            subst h5
            clear hA HA
            go_wp2_with fail
            go_meet
            exact ⟨by rw [HA2.out]; rfl, rfl⟩
          · by_cases h6 : b = 6
            · have hA := HA.out
              rw [if_neg h4, if_neg h5, if_pos h6] at hA
              have HA2 := Lib.hid hA
              subst h6
              clear hA HA
              go_wp2_with fail
              go_meet
              exact ⟨by rw [HA2.out]; rfl, rfl⟩
            · have hA := HA.out
              rw [if_neg h4, if_neg h5, if_neg h6] at hA
              have HA2 := Lib.hid hA
              have h4' : ((b : Int) == 4) = false := by simp; omega
              have h5' : ((b : Int) == 5) = false := by simp; omega
              have h6' : ((b : Int) == 6) = false := by simp; omega
              clear hA HA h4 h5 h6
              go_wp2_with fail
              go_meet
              exact ⟨by rw [HA2.out], rfl⟩
      case rest =>
        obtain ⟨rfl, rfl⟩ := hcut
        clear HAL HAL2 hald
        obtain ⟨am, ham⟩ : ∃ am : Nat, al * k = am := ⟨_, rfl⟩
        obtain ⟨amm, hamm⟩ : ∃ amm : Nat, am * k = amm := ⟨_, rfl⟩
        have hE3 := HE4.out
        rw [ham, hamm] at hE3
        have ham1 : am ≤ 7213 * 1024 := by rw [← ham]; exact Nat.mul_le_mul (by omega) (by omega)
        have hamm1 : amm ≤ 7213 * 1024 * 1024 := by rw [← hamm]; exact Nat.mul_le_mul (by omega) (by omega)
        have e1 : IntKind.u64.wrap ((al : Int) * k) = am := by rw [← ham, IntWalk.u64_in _ (by omega)]; simp
        have e2 : IntKind.u64.wrap ((am : Int) * k) = amm := by rw [← hamm, IntWalk.u64_in _ (by omega)]; simp
        clear ham hamm HE4
        have HE3 := Lib.hid hE3
        clear hE3
        obtain ⟨z, rfl⟩ := Int.eq_ofNat_of_zero_le b2.1
        by_cases hZ : (z : Int) = 0
        · have hf : E = (amm : Int) * 67108864 / (10000 * S) := by rw [HE3.out, if_pos (.inl hZ)]
          have HF := Lib.hid hf
          obtain rfl : z = 0 := by omega
          clear hf hZ
          go_wp2_with fail
          all_goals
            go_ret
            exact ⟨ret_int HF.out.symm, hb2⟩
        · have hZ1 : ((z : Int) == 0) = false := by simpa using hZ
          by_cases hq2 : 5 * (k : Int) / 2 < (amm : Int) * 67108864 / (10000 * S)
          · have hf : E = (amm : Int) * 67108864 / (10000 * S) := by rw [HE3.out, if_pos (.inr hq2)]
            have HF := Lib.hid hf
            clear hf
            go_wp2_with fail
            go_ret
            exact ⟨ret_int HF.out.symm, hb2⟩
          · have hf : E = ((rareTo k z (k - z) : Nat) : Int) / 65536 := by rw [HE3.out, if_neg (by simp only [not_or]; exact ⟨hZ, hq2⟩)]; simp
            have HF := Lib.hid hf
            clear hf
            go_wp2_with fail
            go_loop [9, 10] (fun s i => ∃ j : Nat, j ≤ k - z ∧ i = .int .u64 ((z : Int) + 1 + j) ∧ s = .int .u64 (rareTo k z j)) (fun _ i => k + 1 - (intOf i).toNat)
            case atStart => exact ⟨0, Nat.zero_le _, by simp, by simp [rareTo]⟩
            case round =>
              obtain ⟨j, hj, rfl, rfl⟩ := hrel
              have hrb := rareTo_bd k z j hm
              by_cases hjk : j < k - z
              · have hR : rareTo k z (j + 1) = rareTo k z j + k * 65536 / (z + j + 1) := rfl
                have hd : k * 65536 / (z + j + 1) ≤ k * 65536 := Nat.div_le_self _ _
                have hD : (k : Int) * 65536 / ((z : Int) + 1 + j) = ((k * 65536 / (z + j + 1) : Nat) : Int) := by
                  rw [Int.natCast_ediv]; congr 1; simp; omega
                generalize k * 65536 / (z + j + 1) = x at *
                have HR := Lib.hid hR
                clear hR
                generalize rareTo k z j = ra at *
                go_wp2_with fail
                go_round
                case rel => exact ⟨j + 1, by omega, by go_num, by rw [HR.out]; go_num⟩
                case measure => simp [intOf]; omega
              · obtain rfl : j = k - z := by omega
                go_wp2_with fail
                go_ret
                exact ⟨ret_int HF.out.symm, hb2⟩
end Go.Proofs.YtapiehddcdnadaaGreatDoor
namespace Go.Proofs.YtapiehddcdnadaaGreatDoor
open Go.RowKit
set_option linter.unusedVariables false
set_option linter.unusedSimpArgs false

def ROfPost (s : ByteArray) (w : World) (e : Ending) (w' : World) : Prop :=
  Below w.heap.size w w' ∧
    ((OkS s ∧ ∃ g y b, e = .returned (.pointer (some ⟨g, 0, none⟩)) ∧ w.heap.size ≤ g ∧ w.heap.size ≤ y ∧ Rf w' g y b (bI s)) ∨
     (¬ OkS s ∧ e = .returned (.pointer none)))

/-- The first j of the text, 0 behind them. -/
def laidTo (xs zs : List Int) (j : Nat) : List Int := xs.take j ++ zs.drop j
theorem laidTo_zero (xs zs : List Int) : laidTo xs zs 0 = zs := by simp [laidTo]
theorem laidTo_all (xs zs : List Int) (h : zs.length = xs.length) : laidTo xs zs xs.length = xs := by unfold laidTo; rw [List.take_length, List.drop_of_length_le (by omega), List.append_nil]
theorem laidTo_succ (xs zs : List Int) (j : Nat) (h : j < xs.length) (h' : j < zs.length) : (laidTo xs zs j).set j (xs.getD j 0) = laidTo xs zs (j + 1) := by
  simp only [laidTo]
  rw [List.set_append_right _ _ (by simp; omega)]
  have e : j - (xs.take j).length = 0 := by simp; omega
  rw [e, List.drop_eq_getElem_cons h', List.set_cons_zero, List.take_succ_eq_append_getElem h, List.append_assoc]
  simp only [List.getD_eq_getElem?_getD, List.getElem?_eq_getElem h, Option.getD_some, List.singleton_append]
theorem bI_at (s : ByteArray) (j : Nat) (h : j < s.size) : (bI s).getD j 0 = ((s[j].toNat : Nat) : Int) := by
  rw [bI_get s j h]
  have h2 : j < s.data.toList.length := by rw [Array.length_toList]; exact h
  rw [List.getD_eq_getElem?_getD, List.getElem?_eq_getElem h2]
  rfl

set_option maxRecDepth 100000 in
set_option maxHeartbeats 2000000 in
theorem ROf_any (s : ByteArray) (w : World) (hs : s.size ≤ 9223372036854775807) : Calls Tryz.prog 51 #[.string s] w (ROfPost s w) := by
  go_enter Tryz.func51, Tryz.ntmps51
  go_wp2_with fail
  go_loop [3] (fun i => ∃ k : Nat, 4 ≤ k ∧ k ≤ 11 ∧ i = .int .i64 k ∧ Hid (∀ q, 4 ≤ q → q < k → s.size ≠ 2 ^ q)) (fun i => 11 - (intOf i).toNat)
  case atStart => exact ⟨4, by omega, by omega, rfl, Lib.hid (fun q h1 h2 => by omega)⟩
  case round =>
    obtain ⟨k, hk4, hk11, rfl, HN⟩ := hrel
    by_cases hk : k ≤ 10
    · have hsk := shlk k hk
      have hsk2 := shlkw k hk
      have hm : 2 ^ k ≤ 1024 := by have := Nat.pow_le_pow_right (n := 2) (by omega) hk; simpa using this
      by_cases hsz : s.size = 2 ^ k
      · have hkk : k = 4 ∨ k = 5 ∨ k = 6 ∨ k = 7 ∨ k = 8 ∨ k = 9 ∨ k = 10 := by omega
        obtain ⟨m, hm0⟩ : ∃ m, 2 ^ k = m := ⟨_, rfl⟩
        have HKK := Lib.hid hkk
        clear hkk
        rw [hm0] at hsk hsk2 hsz hm
        have HM := Lib.hid hm0
        clear hm0
        have hb1 : ((s.size : Int) == (m : Int)) = true := by simp [hsz]
        have hb2 : ((m : Int) == (m : Int)) = true := by simp
        go_wp2_with fail
        refine (RNew_yes k _ HKK.out).mono ?_
        rintro e w1 ⟨g, y, rfl, hg, hy, R, hB⟩
        go_wp2_with fail
        have hbl : (bI s).length = m := by rw [bI_len, hsz]
        have hzl : (zeros k).length = m := by rw [zeros_len, HM.out]
        have HSZ := Lib.hid hsz
        have hsz1 : (s.size : Int) = m := by omega
        clear hsz
        go_loopw [5] (fun i wr => ∃ j : Nat, j ≤ m ∧ i = .int .i64 j ∧ Rf wr g y k (laidTo (bI s) (zeros k) j) ∧ Below w.heap.size w wr ∧ Hid (∀ x ∈ (bI s).take j, x ≤ 26)) (fun i _ => m - (intOf i).toNat)
        case atStart => exact ⟨0, Nat.zero_le _, rfl, by rw [laidTo_zero]; exact R, hB, Lib.hid (fun x hx => by simp at hx)⟩
        case round =>
          obtain ⟨j, hj, rfl, R, hB, HX⟩ := hrel
          by_cases hjm : j < m
          · have hjs : (j : Int) < (s.size : Int) := by omega
            have hjs' : j < s.size := by omega
            have hv := bI_at s j hjs'
            obtain ⟨v, hv0⟩ : ∃ v, s[j].toNat = v := ⟨_, rfl⟩
            rw [hv0] at hv
            have c0 := R.cell0
            rw [HM.out] at c0
            have hjm1 : (j : Int) < m := by omega
            by_cases hv26 : v ≤ 26
            · have hp := R.put j v (by rw [HM.out]; exact hjm) (by omega) (by omega)
              have hset := laidTo_succ (bI s) (zeros k) j (by omega) (by omega)
              rw [hv] at hset
              rw [hset] at hp
              have HP := Lib.hid hp
              have hfr := R.frozen j
              have ck := R.cell j (by rw [HM.out]; exact hjm)
              have HX2 : Hid (∀ x ∈ (bI s).take (j + 1), x ≤ 26) := Lib.hid (fun x hx => by
                rw [List.take_succ_eq_append_getElem (by omega), List.mem_append, List.mem_singleton] at hx
                rcases hx with hx | hx
                · exact HX.out x hx
                · have e : (bI s).getD j 0 = (bI s)[j] := by simp [List.getD_eq_getElem?_getD, List.getElem?_eq_getElem (show j < (bI s).length by omega)]
                  rw [hx, ← e, hv]
                  omega)
              have hd1 : ¬ (26 : Int) < (v : Int) := by omega
              have hd2 : decide ((26 : Int) < (v : Int)) = false := decide_eq_false hd1
              clear hp hset hv HX
              generalize (laidTo (bI s) (zeros k) j).getD j 0 = old at *
              go_wp2_with fail
              go_still_tail 10, (by kernel_rfl)
              change wpList _ _ _ _ _ wr.drew
              have hfr2 : wr.drew.frozen? ⟨y, j, none⟩ = false := hfr
              have ck2 : wr.drew.cell? ⟨y, j, none⟩ = some (.int .i64 old) := ck
              have HP2 : Hid (Rf (wr.drew.setCell ⟨y, j, none⟩ (.int .i64 v)) g y k (laidTo (bI s) (zeros k) (j + 1))) := Lib.hid ((HP.out).drewN 1)
              have hB2 : Below w.heap.size w wr.drew := bdrew hB
              generalize wr.drew = w2 at *
              go_wp2_with fail
              exact ⟨⟨j + 1, by omega, by go_num, HP2.out, bset hB2 hy _, HX2⟩, by simp [intOf]; omega⟩
            · have hd1 : (26 : Int) < (v : Int) := by omega
              have hd2 : decide ((26 : Int) < (v : Int)) = true := decide_eq_true hd1
              have HV := Lib.hid hv
              clear hv
              go_wp2_with fail
              go_ret
              refine ⟨hB, .inr ⟨?_, rfl⟩⟩
              rintro ⟨_, hall⟩
              have h2 := hall ((bI s).getD j 0) (by
                rw [List.getD_eq_getElem?_getD, List.getElem?_eq_getElem (show j < (bI s).length by omega)]
                exact List.getElem_mem _)
              rw [HV.out] at h2
              omega
          · obtain rfl : j = m := by omega
            have hjs : ¬ (j : Int) < (s.size : Int) := by omega
            have HL := Lib.hid hbl
            have HZ := Lib.hid hzl
            clear hbl hzl
            go_wp2_with fail
            go_ret
            have e1 : laidTo (bI s) (zeros k) j = bI s := by
              have h1 := laidTo_all (bI s) (zeros k) (by rw [HL.out, HZ.out])
              rw [HL.out] at h1
              exact h1
            rw [e1] at R
            refine ⟨hB, .inl ⟨⟨⟨k, hk4, hk, by rw [HSZ.out, HM.out]⟩, ?_⟩, g, y, k, rfl, hg, hy, R⟩⟩
            intro x hx
            exact HX.out x (by rw [List.take_of_length_le (by rw [HL.out]; exact Nat.le_refl _)]; exact hx)
      · have hb1 : ((s.size : Int) == ((2 ^ k : Nat) : Int)) = false := beq_eq_false_iff_ne.2 (fun e => hsz (Int.ofNat_inj.1 e))
        have HN2 : Hid (∀ q, 4 ≤ q → q < k + 1 → s.size ≠ 2 ^ q) := Lib.hid (fun q h1 h2 => by
          by_cases h3 : q = k
          · subst h3; exact hsz
          · exact HN.out q h1 (by omega))
        clear HN
        generalize 2 ^ k = m at *
        go_wp2_with fail
        go_round
        case rel => exact ⟨k + 1, by omega, by omega, by go_num, HN2⟩
        case measure => simp [intOf]; omega
    · obtain rfl : k = 11 := by omega
      go_wp2_with fail
      go_ret
      refine ⟨Below.refl _ _, .inr ⟨?_, rfl⟩⟩
      rintro ⟨⟨b, h1, h2, h3⟩, _⟩
      exact HN.out b h1 (by omega) h3
end Go.Proofs.YtapiehddcdnadaaGreatDoor

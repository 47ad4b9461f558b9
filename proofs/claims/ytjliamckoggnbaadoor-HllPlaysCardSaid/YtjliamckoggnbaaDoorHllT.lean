/- The document's own sketch: its rank, Add, Merge, Registers. -/
import Derived.Test.YtjliamckoggnbaaDoorHllS
import Derived.StillTailTactics
namespace Go.Proofs.YtjliamckoggnbaaDoor
open Go.RowKit
set_option linter.unusedVariables false
set_option linter.unusedSimpArgs false

theorem pow_odd (a c m n : Nat) (h : 2 ^ a * (2 * m + 1) = 2 ^ c * (2 * n + 1)) : a = c := by
  have key : ∀ a c m n : Nat, a < c → 2 ^ a * (2 * m + 1) = 2 ^ c * (2 * n + 1) → False := by
    intro a c m n hlt he
    obtain ⟨d, rfl⟩ : ∃ d, c = a + d + 1 := ⟨c - a - 1, by omega⟩
    rw [Nat.pow_succ, Nat.pow_add, Nat.mul_assoc, Nat.mul_assoc] at he
    have h2 := Nat.eq_of_mul_eq_mul_left (Nat.two_pow_pos a) he
    have h3 : 2 ^ d * (2 * (2 * n + 1)) = 2 * (2 ^ d * (2 * n + 1)) := by rw [Nat.mul_left_comm]
    omega
  rcases Nat.lt_trichotomy a c with h1 | h1 | h1
  · exact (key a c m n h1 h).elim
  · exact h1
  · exact (key c a n m h1 h.symm).elim
theorem ctz_at (x j : Nat) (hx : x < 2 ^ 64) (h0 : x % 2 ^ j = 0) (h1 : x / 2 ^ j % 2 = 1) : Lib.ctz 64 x = j := by
  have e1 : x = 2 ^ j * (2 * (x / 2 ^ j / 2) + 1) := by
    have h2 := Nat.div_add_mod x (2 ^ j)
    have h3 : 2 * (x / 2 ^ j / 2) + 1 = x / 2 ^ j := by omega
    rw [h3]
    omega
  have hne : x ≠ 0 := by rintro rfl; simp at h1
  obtain ⟨m, h4, _⟩ := Lib.ctzFrom_spec 64 x (by omega) hx
  unfold Lib.ctz
  rw [if_neg hne]
  exact pow_odd _ _ m (x / 2 ^ j / 2) (by rw [← h4]; exact e1)

theorem rk_found (h b j : Nat) (hh : h < 18446744073709551616) (hj : j < 64 - b) (h0 : h / 2 ^ b % 2 ^ j = 0) (h1 : h / 2 ^ (b + j) % 2 = 1) : rk h b = j + 1 := by
  rw [Nat.pow_add, ← Nat.div_div_eq_div_mul] at h1
  have hx : h / 2 ^ b < 2 ^ 64 := Nat.lt_of_le_of_lt (Nat.div_le_self _ _) (by simpa using hh)
  unfold rk
  rw [ctz_at _ j hx h0 h1]
  omega
theorem rk_none (h b : Nat) (hh : h < 18446744073709551616) (hb : b ≤ 10) (h0 : h / 2 ^ b % 2 ^ (64 - b) = 0) : rk h b = 64 - b + 1 := by
  have hx : h / 2 ^ b < 2 ^ (64 - b) := by
    rw [Nat.div_lt_iff_lt_mul (Nat.two_pow_pos b), ← Nat.pow_add, show 64 - b + b = 64 by omega]
    simpa using hh
  rw [Nat.mod_eq_of_lt hx] at h0
  unfold rk
  rw [h0]
  simp [Lib.ctz]
theorem rk_next (x j : Nat) (h0 : x % 2 ^ j = 0) (h1 : x / 2 ^ j % 2 = 0) : x % 2 ^ (j + 1) = 0 := by
  rw [Nat.pow_succ, Nat.mod_mul, h0, h1]
  rfl

theorem RRank_any (h b : Nat) (w : World) (hh : h < 18446744073709551616) (hb : b ≤ 10) :
    Calls Tryd.prog 33 #[.int .u64 h, .int .i64 b] w fun e w' => e = .returned (.int .i64 (rk h b)) ∧ w = w' := by
  obtain ⟨q, hq⟩ : ∃ q, rk h b = q := ⟨_, rfl⟩
  rw [hq]
  have HQ := Lib.hid hq
  clear hq
  go_enter Tryd.func33, Tryd.ntmps33
  go_wp2_with fail
  have HX := Lib.hid (show h / 2 ^ b % 2 ^ 0 = 0 by simp [Nat.mod_one])
  go_loop [5, 6] (fun n i => ∃ j : Nat, j ≤ 64 - b ∧ n = .int .i64 ((j : Int) + 1) ∧ i = .int .i64 ((b : Int) + j) ∧ Hid (h / 2 ^ b % 2 ^ j = 0)) (fun _ i => 64 - (intOf i).toNat)
  case atStart => exact ⟨0, Nat.zero_le _, rfl, by simp, HX⟩
  case round =>
    obtain ⟨j, hj, rfl, rfl, HJ⟩ := hrel
    by_cases hj2 : j < 64 - b
    · have e1 : ((h : Int) / 2 ^ (b + j)).tmod 2 = ((h / 2 ^ (b + j) % 2 : Nat) : Int) := by
        have e2 : (h : Int) / 2 ^ (b + j) = ((h / 2 ^ (b + j) : Nat) : Int) := by simp
        rw [e2, Int.tmod_eq_emod_of_nonneg (Int.natCast_nonneg _)]
        simp
      by_cases hq : h / 2 ^ (b + j) % 2 = 1
      · have hr := rk_found h b j hh hj2 HJ.out hq
        have HR := Lib.hid hr
        rw [hq] at e1
        have hc : (((h : Int) / 2 ^ (b + j)).tmod 2 == 1) = true := by rw [e1]; rfl
        clear hq HJ hr e1
        go_wp2_with fail
        go_ret
        exact ⟨ret_int (by have h1 := HQ.out; have h2 := HR.out; omega), rfl⟩
      · have hn := rk_next (h / 2 ^ b) j HJ.out (by rw [Nat.div_div_eq_div_mul, ← Nat.pow_add]; omega)
        rw [show h / 2 ^ (b + j) % 2 = 0 by omega] at e1
        have hc : (((h : Int) / 2 ^ (b + j)).tmod 2 == 1) = false := by rw [e1]; rfl
        have HN := Lib.hid hn
        clear hq HJ hn e1
        go_wp2_with fail
        go_round
        case rel => exact ⟨j + 1, by omega, by go_num, by go_num, HN⟩
        case measure => simp [intOf]; omega
    · obtain rfl : j = 64 - b := by omega
      have HR := Lib.hid (rk_none h b hh hb HJ.out)
      clear HJ HX
      have e1 : ((64 - b : Nat) : Int) = 64 - (b : Int) := by omega
      rw [e1]
      go_wp2_with fail
      go_ret
      exact ⟨ret_int (by have h1 := HQ.out; have h2 := HR.out; omega), rfl⟩

theorem set_max_self (r : List Int) (k : Nat) (v : Int) (hk : k < r.length) (h : v ≤ r.getD k 0) : r.set k (max (r.getD k 0) v) = r := by
  rw [Int.max_eq_left h]
  refine ext_getD (by simp) (fun j _ => ?_)
  rw [getD_set _ _ _ _ hk]
  split
  · next e => rw [e]
  · rfl

set_option maxRecDepth 100000 in
set_option maxHeartbeats 1000000 in
theorem RAdd_any (g y b : Nat) (r : List Int) (h : Nat) (w : World) (hh : h < 18446744073709551616) (R : Rf w g y b r) :
    Calls Tryd.prog 25 #[.pointer (some ⟨g, 0, none⟩), .int .u64 h] w fun e w' => e = .returned (.bool (addB b r h)) ∧ Rf w' g y b (addR b r h) ∧ w.grownBy w' (some y) := by
  have c0 := R.cell0
  have hlo := R.lo
  have hhi := R.hi
  have hm : 2 ^ b ≤ 1024 := by have := Nat.pow_le_pow_right (n := 2) (by omega) hhi; simpa using this
  have hm2 : 16 ≤ 2 ^ b := by have := Nat.pow_le_pow_right (n := 2) (by omega) hlo; simpa using this
  have hk := Nat.mod_lt h (Nat.two_pow_pos b)
  have ek : (h : Int) % ((2 ^ b : Nat) : Int) = ((h % 2 ^ b : Nat) : Int) := by simp
  have hset := set_max_self r (h % 2 ^ b) (rk26 h b) (by rw [R.len]; exact hk)
  have hput := fun w' (R' : Rf w' g y b r) => R'.put (h % 2 ^ b) (rk26 h b) hk (by have := rk26_bd h b; omega) (by have := rk26_bd h b; omega)
  have hget := R.get (h % 2 ^ b)
  have HC := Lib.hid (fun w' (R' : Rf w' g y b r) => R'.cell (h % 2 ^ b) hk)
  have hA : addR b r h = r.set (h % 2 ^ b) (max (r.getD (h % 2 ^ b) 0) (rk26 h b)) := rfl
  have hB : addB b r h = decide (r.getD (h % 2 ^ b) 0 < rk26 h b) := rfl
  have hrk : rk26 h b = ((min (rk h b) 26 : Nat) : Int) := rfl
  rw [hA, hB]
  clear hA hB
  generalize hK : h % 2 ^ b = k at *
  have HK := Lib.hid hK
  clear hK
  have HRK := Lib.hid (RRank_any h b)
  generalize rk26 h b = q at *
  generalize rk h b = q0 at *
  generalize r.getD k 0 = v at *
  obtain ⟨m, hm0⟩ : ∃ m, 2 ^ b = m := ⟨_, rfl⟩
  have HBits := Lib.hid (RBits_any g y b r)
  rw [hm0] at hm hm2 hk c0 ek
  have HM := Lib.hid hm0
  clear hm0
  have hk1 : (k : Int) < m := by omega
  have hq1 : min (q0 : Int) 26 = q := by omega
  have HS := Lib.hid hset
  have HP := Lib.hid hput
  clear hset hput
  go_enter Tryd.func25, Tryd.ntmps25
  go_wp2_with fail
  rw [ek]
  refine (HBits.out _ R).mono ?_
  rintro e w1 ⟨rfl, b1⟩
  replace R := R.step b1
  have c1 := HC.out _ R
  have cg := R.cell0
  rw [HM.out] at cg
  go_wp2_with fail
  refine (HRK.out _ hh hhi).mono ?_
  rintro e w2 ⟨rfl, rfl⟩
  have hfr := R.frozen k
  have hP := HP.out _ R
  have hG : w.grownBy w1 (some y) := only_of_below b1 _
  by_cases hvq : v < q
  · have hd : decide (q ≤ v) = false := decide_eq_false (by omega)
    have hd2 : ¬ q ≤ v := by omega
    have HPP := Lib.hid hP
    clear hP hrk
    go_wp2_with fail
    go_ret
    refine ⟨ret_bool (by simp; omega), ?_, only_setCell hG (.inl rfl) _⟩
    have hmx : max v q = q := by omega
    rw [hmx]
    exact HPP.out
  · have hs := HS.out (by omega)
    have hd : decide (q ≤ v) = true := decide_eq_true (by omega)
    have hd2 : q ≤ v := by omega
    have HPS := Lib.hid hs
    clear hP hs hrk
    go_wp2_with fail
    go_ret
    exact ⟨ret_bool (by simp; omega), by rw [HPS.out]; exact R, hG⟩

theorem RMerge_no (g y b : Nat) (r : List Int) (g' y' b' : Nat) (r' : List Int) (w : World) (R : Rf w g y b r) (R' : Rf w g' y' b' r') (hne : b ≠ b') :
    Calls Tryd.prog 26 #[.pointer (some ⟨g, 0, none⟩), .pointer (some ⟨g', 0, none⟩)] w fun e w' => e = .returned (.bool false) ∧ Below w.heap.size w w' := by
  have c0 := R.cell0
  have c1 := R'.cell0
  have hpn : 2 ^ b' ≠ 2 ^ b := fun e => by
    rcases Nat.lt_trichotomy b b' with h1 | h1 | h1
    · have := Nat.pow_lt_pow_right (a := 2) (by omega) h1; omega
    · exact hne h1
    · have := Nat.pow_lt_pow_right (a := 2) (by omega) h1; omega
  generalize 2 ^ b = m at *
  generalize 2 ^ b' = m' at *
  have hd : ((m' : Int) == (m : Int)) = false := by simp; omega
  have hd2 : ((m' : Int) != (m : Int)) = true := by simp; omega
  go_enter Tryd.func26, Tryd.ntmps26
  go_wp2_with fail
  go_quiet (fail)
  go_wp2_with fail
  go_ret
  exact ⟨rfl, bdrewN (Below.refl _ _) _⟩

set_option maxRecDepth 100000 in
set_option maxHeartbeats 1000000 in
theorem RMerge_yes (g y b : Nat) (r : List Int) (g' y' : Nat) (r' : List Int) (w : World) (R : Rf w g y b r) (R' : Rf w g' y' b r') (h1 : y ≠ y') :
    Calls Tryd.prog 26 #[.pointer (some ⟨g, 0, none⟩), .pointer (some ⟨g', 0, none⟩)] w fun e w' => e = .returned (.bool true) ∧ Rf w' g y b (List.zipWith max r r') ∧ w.grownBy w' (some y) := by
  have c0 := R.cell0
  have c1 := R'.cell0
  have hgy : g' ≠ y := R'.blk.ne_ R.row (by decide)
  have hm : 2 ^ b ≤ 1024 := by have := Nat.pow_le_pow_right (n := 2) (by omega) R.hi; simpa using this
  obtain ⟨m, hm0⟩ : ∃ m, 2 ^ b = m := ⟨_, rfl⟩
  rw [hm0] at hm c0 c1
  have HM := Lib.hid hm0
  clear hm0
  have hd : ((m : Int) == (m : Int)) = true := by simp
  have hd2 : ((m : Int) != (m : Int)) = false := by simp
  go_enter Tryd.func26, Tryd.ntmps26
  go_wp2_with fail
  go_quiet (fail)
  go_wp2_with fail
  have hG : w.grownBy (w.drewN nq) (some y) := only_drewN (only_refl _ _) _
  have hR : Rf (w.drewN nq) g y b r := R.drewN _
  generalize w.drewN nq = wq at *
  go_loopw [5] (fun i wr => ∃ k : Nat, k ≤ m ∧ i = .int .i64 k ∧ Rf wr g y b (mergeTo r r' k) ∧ w.grownBy wr (some y)) (fun i _ => m - (intOf i).toNat)
  case atStart => exact ⟨0, Nat.zero_le _, rfl, by rw [mergeTo_zero]; exact hR, hG⟩
  case round =>
    obtain ⟨k, hk, rfl, hRk, hGk⟩ := hrel
    have hk0 := hRk.cell0
    rw [HM.out] at hk0
    by_cases hkm : k < m
    · have hT := R'.grown hGk (by simp; omega) (by simp; omega)
      have hrl : k < r.length := by rw [R.len, HM.out]; exact hkm
      have hrl' : k < r'.length := by rw [R'.len, HM.out]; exact hkm
      have ck := hRk.cell k (by rw [HM.out]; exact hkm)
      have ck' := hT.cell k (by rw [HM.out]; exact hkm)
      have ct0 := hT.cell0
      rw [HM.out] at ct0
      have hv := R.get k
      have hv' := R'.get k
      rw [mergeTo_get r r' k hrl hrl'] at ck
      have hput := hRk.put k (max (r.getD k 0) (r'.getD k 0)) (by rw [HM.out]; exact hkm) (by omega) (by omega)
      rw [mergeTo_succ r r' k hrl hrl'] at hput
      have hfr := hRk.frozen k
      have HP := Lib.hid hput
      clear hput
      generalize r'.getD k 0 = v' at *
      generalize r.getD k 0 = v at *
      have hk1 : (k : Int) < m := by omega
      go_wp2_with fail
      go_still_tail 21, (by kernel_rfl)
      change wpList _ _ _ _ _ wr.drew
      have hfr2 : wr.drew.frozen? ⟨y, k, none⟩ = false := hfr
      have ck2 : wr.drew.cell? ⟨y, k, none⟩ = some (.int .i64 v) := ck
      have HP2 : Hid (Rf (wr.drew.setCell ⟨y, k, none⟩ (.int .i64 (max v v'))) g y b (mergeTo r r' (k + 1))) := Lib.hid ((HP.out).drewN 1)
      have hG2 : w.grownBy wr.drew (some y) := only_drew hGk
      generalize wr.drew = w2 at *
      go_wp2_with fail
      refine ⟨⟨k + 1, by omega, by go_num, HP2.out, only_setCell hG2 (.inl rfl) _⟩, by simp [intOf]; omega⟩
    · obtain rfl : k = m := by omega
      go_wp2_with fail
      go_ret
      have hl := R.len
      have hl' := R'.len
      rw [HM.out] at hl hl'
      rw [mergeTo_all r r' k hl hl'] at hRk
      exact ⟨rfl, hRk, hGk⟩
end Go.Proofs.YtjliamckoggnbaaDoor

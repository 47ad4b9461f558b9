/- The walk of HllRegisters: it returns true, whatever it is given; what lay in memory stays. -/
import Derived.Test.YtjliamckoggnbaaDoorHllQ
namespace Go.Proofs.YtjliamckoggnbaaDoor
open Go.RowKit
set_option linter.unusedVariables false
set_option linter.unusedSimpArgs false

theorem ctz_pow (n : Nat) (hn : n < 64) : Lib.ctz 64 (2 ^ n) = n := by
  have h : ∀ n, n < 64 → Lib.ctz 64 (2 ^ n) = n := by decide +kernel
  exact h n hn

/-- A sum that comes to register k with rank n + 1. -/
theorem sum_facts (b n k : Nat) (hb : b ≤ 10) (hn : n < 64 - b) (hk : k < 2 ^ b) :
    k + 2 ^ (b + n) < 18446744073709551616 ∧ (k + 2 ^ (b + n)) % 2 ^ b = k ∧ rk26 (k + 2 ^ (b + n)) b = ((min (n + 1) 26 : Nat) : Int) := by
  have h1 : 2 ^ (b + n) ≤ 2 ^ 63 := Nat.pow_le_pow_right (by omega) (by omega)
  have h2 : 2 ^ b ≤ 2 ^ 10 := Nat.pow_le_pow_right (by omega) hb
  have e : (k + 2 ^ (b + n)) / 2 ^ b = 2 ^ n := by
    rw [Nat.pow_add, Nat.add_mul_div_left _ _ (Nat.two_pow_pos b), Nat.div_eq_of_lt hk, Nat.zero_add]
  refine ⟨by omega, ?_, ?_⟩
  · rw [Nat.pow_add, Nat.add_mul_mod_self_left, Nat.mod_eq_of_lt hk]
  · unfold rk26 rk
    rw [e, ctz_pow n (by omega)]
    congr 1
    omega

theorem strOfNums_get (xs : List Int) (i : Nat) (h : i < xs.length) : (strOfNums xs)[i]? = some (UInt8.ofNat (xs.getD i 0).toNat) := by
  have hs : i < (strOfNums xs).size := by rw [strOfNums_size]; exact h
  rw [getElem?_pos (strOfNums xs) i hs]
  congr 1
  show (strOfNums xs).data[i] = _
  simp [strOfNums, List.getD_eq_getElem?_getD, List.getElem?_eq_getElem h]

theorem Ints.bd8 {w : World} {a : Option Addr} {n : Nat} {xs : List Int} (h : Ints .u8 w a n xs) (k : Nat) (hk : k < n) : 0 ≤ xs.getD k 0 ∧ xs.getD k 0 ≤ 255 := by
  refine bounds_u8 (h.wf _ ?_)
  rw [List.getD_eq_getElem?_getD, List.getElem?_eq_getElem (by rw [h.len]; exact hk)]
  exact List.getElem_mem _

theorem nil_ints (w : World) : Ints .u64 w none 0 [] := Ints.nil _ _ _

set_option maxRecDepth 100000 in
set_option maxHeartbeats 2000000 in
theorem registers_walk (bits at_ : Int) (a : Option Addr) (len cap : Nat) (zs : List Int) (w : World) (hT : Tab w) (h1 : 0 ≤ bits ∧ bits ≤ 255) (h2 : 0 ≤ at_ ∧ at_ ≤ 65535) (hz : Ints .u8 w a len zs) (hl : len ≤ 140737488351232) :
    Calls Tryd.prog 5 #[.int .u8 bits, .int .u16 at_, .slice a len cap] w fun e w' => e = .returned (.bool true) ∧ Below w.heap.size w w' := by
  obtain ⟨b, hb⟩ := Int.eq_ofNat_of_zero_le (show 0 ≤ 4 + bits % 7 by omega)
  have hb2 : b = 4 ∨ b = 5 ∨ b = 6 ∨ b = 7 ∨ b = 8 ∨ b = 9 ∨ b = 10 := by omega
  have hbl : (4 : Int) ≤ b ∧ (b : Int) ≤ 10 := by omega
  have hsh := shl1i b hb2
  have hsw : wrap64 ((2 : Int) ^ b) = ((2 ^ b : Nat) : Int) := by rcases hb2 with rfl | rfl | rfl | rfl | rfl | rfl | rfl <;> decide +kernel
  have HB2 := Lib.hid hb2
  clear hb2
  have hm : 2 ^ b ≤ 1024 := by have := Nat.pow_le_pow_right (n := 2) (by omega) (show b ≤ 10 by omega); simpa using this
  have hm2 : 16 ≤ 2 ^ b := by have := Nat.pow_le_pow_right (n := 2) (by omega) (show 4 ≤ b by omega); simpa using this
  obtain ⟨m, hm0⟩ : ∃ m, 2 ^ b = m := ⟨_, rfl⟩
  rw [hm0] at hm hm2 hsh hsw
  have HM := Lib.hid hm0
  clear hm0
  go_enter Tryd.func5, Tryd.ntmps5
  go_wp2_with fail
  refine (examples_any _ hT).mono ?_
  rintro e w1 ⟨rfl, b1⟩
  go_wp2_with fail
  refine (fed_any b none 0 0 [] _ HB2.out (hT.step b1) (nil_ints _) (by omega)).mono ?_
  rintro e w2 ⟨rfl, s2, b2⟩
  go_wp2_with fail
  obtain ⟨kk, hkk⟩ := Int.eq_ofNat_of_zero_le (Int.emod_nonneg at_ (b := (m : Int)) (by omega))
  have hkm : kk < m := by have := Int.emod_lt_of_pos at_ (b := (m : Int)) (by omega); omega
  rw [hkk]
  clear hkk
  generalize hg : w1.heap.size = g at *
  go_loopw [11, 12] (fun mo i wr => ∃ (k : Nat) (mo' : Nat), k ≤ len ∧ k ≤ 40 ∧ mo' ≤ 26 ∧ i = .int .i64 k ∧ mo = .int .i64 mo' ∧ Sk wr g b ((zeros b).set kk mo') ∧ Below w.heap.size w wr) (fun _ i _ => len - (intOf i).toNat)
  case atStart =>
    refine ⟨0, 0, Nat.zero_le _, Nat.zero_le _, Nat.zero_le _, rfl, rfl, ?_, ?_⟩
    · have e : (zeros b).set kk ((0 : Nat) : Int) = zeros b := by
        refine ext_getD (by simp) (fun j _ => ?_)
        rw [getD_set _ _ _ _ (by rw [zeros_len, HM.out]; exact hkm), zeros_get]
        split <;> rfl
      rw [e]
      exact s2
    · exact bstep (hg ▸ b2) b1
  case round =>
    obtain ⟨k, mo, hk, hk2, hmo, rfl, rfl, hS, hB⟩ := hrel
    by_cases hkn : k < len
    · by_cases hk3 : k < 40
      · obtain ⟨ab, off, rfl, hbl, hc⟩ := (hz.step hB).at_ (by omega)
        have hck := hc k hkn
        have hv := hz.bd8 k hkn
        clear hc
        generalize zs.getD k 0 = v at *
        obtain ⟨n, hn⟩ := Int.eq_ofNat_of_zero_le (Int.emod_nonneg v (b := 64 - (b : Int)) (by omega))
        have hnb : n < 64 - b := by have := Int.emod_lt_of_pos v (b := 64 - (b : Int)) (by omega); omega
        have hk1 : (k : Int) < len := by omega
        go_wp2_with fail
        obtain ⟨f1, f2, f3⟩ := sum_facts b n kk (by omega) hnb (by rw [HM.out]; exact hkm)
        obtain ⟨h, hh⟩ : ∃ h, kk + 2 ^ (b + n) = h := ⟨_, rfl⟩
        rw [hh] at f1 f2 f3
        have e1 : IntKind.u64.wrap ((kk : Int) + IntKind.u64.wrap ((2 : Int) ^ (b + n))) = (h : Int) := by
          have e2 : ((2 : Int) ^ (b + n)) = ((2 ^ (b + n) : Nat) : Int) := by simp
          have e3 := Int.natCast_nonneg (2 ^ (b + n))
          have e4 : ((2 ^ (b + n) : Nat) : Int) ≤ (h : Int) := by omega
          rw [e2, IntWalk.u64_in ((2 ^ (b + n) : Nat) : Int) (by omega), ← Int.natCast_add, hh, IntWalk.u64_in (h : Int) (by omega)]
        rw [e1]
        have hadd := Add_any g b _ h wr f1 hS (hT.step hB)
        have g1 : ((zeros b).set kk (mo : Int)).getD kk 0 = mo := by rw [getD_set _ _ _ _ (by rw [zeros_len, HM.out]; exact hkm), if_pos rfl]
        have g2 : addB b ((zeros b).set kk (mo : Int)) h = decide ((mo : Int) < ((min (n + 1) 26 : Nat) : Int)) := by unfold addB; rw [f2, f3, g1]
        have g3 : addR b ((zeros b).set kk (mo : Int)) h = (zeros b).set kk ((max mo (min (n + 1) 26) : Nat) : Int) := by unfold addR; rw [f2, f3, g1, List.set_set]; congr 1; omega
        rw [g2, g3] at hadd
        have HA := Lib.hid hadd
        clear hadd g1 g2 g3 f1 f2 f3 hh e1 hS hck hz
        obtain ⟨q, hq⟩ : ∃ q, min (n + 1) 26 = q := ⟨_, rfl⟩
        rw [hq] at HA
        have r1 : (if (26 : Int) < (n : Int) + 1 then (26 : Int) else (n : Int) + 1) = (q : Int) := by split <;> omega
        have r2 : min ((n : Int) + 1) 26 = (q : Int) := by omega
        have hq26 : q ≤ 26 := by omega
        have Hq := Lib.hid hq
        clear hq
        rw [hn]
        clear hn
        refine (HA.out).mono ?_
        rintro e w2 ⟨rfl, hS2, hG2⟩
        have hB2 := bonly hB hG2 (by have := b1.size; omega)
        clear HA
        rcases Nat.lt_or_ge mo q with hlt | hge
        · have hl1 : (mo : Int) < q := by omega
          rw [show max mo q = q by omega] at hS2
          simp only [hl1, decide_true]
          have r3 : max (mo : Int) (q : Int) = q := by omega
          have r4 : decide ((mo : Int) < (q : Int)) = true := decide_eq_true hl1
          go_wp2_with fail
          go_roundw
          case rel => exact ⟨k + 1, q, by omega, by omega, hq26, by go_num, (by first | rfl | go_num), hS2, hB2⟩
          case measure => simp [intOf]; omega
        · have hl1 : ¬ (mo : Int) < q := by omega
          rw [show max mo q = mo by omega] at hS2
          simp only [hl1, decide_false]
          have r3 : max (mo : Int) (q : Int) = mo := by omega
          have r4 : decide ((mo : Int) < (q : Int)) = false := decide_eq_false hl1
          go_wp2_with fail
          go_roundw
          case rel => exact ⟨k + 1, mo, by omega, by omega, hmo, by go_num, (by first | rfl | go_num), hS2, hB2⟩
          case measure => simp [intOf]; omega
      · obtain rfl : k = 40 := by omega
        go_wp2_with fail
        refine (Registers_any g b _ wr hS).mono ?_
        rintro e w9 ⟨rfl, rfl⟩
        have hsz : (strOfNums ((zeros b).set kk (mo : Int))).size = m := by rw [strOfNums_size, List.length_set, zeros_len, HM.out]
        have hch : ∀ i, i < m → (strOfNums ((zeros b).set kk (mo : Int)))[i]? = some (UInt8.ofNat (if i = kk then mo else 0)) := by
          intro i hi
          have e := strOfNums_get ((zeros b).set kk (mo : Int)) i (by rw [List.length_set, zeros_len, HM.out]; exact hi)
          rw [getD_set _ _ _ _ (by rw [zeros_len, HM.out]; exact hkm), zeros_get] at e
          rw [e]
          by_cases hik : i = kk
          · rw [if_pos hik, if_pos hik]; rfl
          · rw [if_neg hik, if_neg hik]; rfl
        generalize strOfNums ((zeros b).set kk (mo : Int)) = S at *
        have hw9 : Below w.heap.size w wr := hB
        go_wp2_with fail
        go_loopw [17] (fun i w9 => ∃ k : Nat, k ≤ m ∧ i = .int .i64 k ∧ w9 = wr) (fun i _ => m - (intOf i).toNat)
        case atStart => exact ⟨0, Nat.zero_le _, rfl, rfl⟩
        case round =>
          obtain ⟨j, hj, rfl, rfl⟩ := hrel
          by_cases hjm : j < m
          · have hc := hch j hjm
            have hjs : (j : Int) < (S.size : Int) := by omega
            have hjs' : j < S.size := by omega
            have hc : S[j].toNat = (if j = kk then mo else 0) := by
              have h2 : S[j]? = some S[j] := by simp [hjs']
              rw [h2] at hc
              rw [Option.some.inj hc, UInt8.toNat_ofNat']
              split <;> omega
            by_cases hjk : j = kk
            · subst hjk
              rw [if_pos rfl] at hc
              have hc1 : ((S[j].toNat : Nat) : Int) = mo := by omega
              have hc2 : ((mo : Int) != (mo : Int)) = false := by simp
              have hc3 : ((j : Int) != (j : Int)) = false := by simp
              have hc4 : ((j : Int) == (j : Int)) = true := by simp
              go_wp2_with fail
              go_roundw
              case rel => exact ⟨j + 1, by omega, by go_num, by first | trivial | rfl⟩
              case measure => simp [intOf]; omega
            · rw [if_neg hjk] at hc
              have hc1 : ((S[j].toNat : Nat) : Int) = 0 := by omega
              have hc2 : ((0 : Int) != (0 : Int)) = false := by simp
              have hc3 : ((j : Int) != (kk : Int)) = true := by simp; omega
              have hc4 : ((j : Int) == (kk : Int)) = false := by simp; omega
              go_wp2_with fail
              go_roundw
              case rel => exact ⟨j + 1, by omega, by go_num, by first | trivial | rfl⟩
              case measure => simp [intOf]; omega
          · obtain rfl : j = m := by omega
            have hjs : ¬ (j : Int) < (S.size : Int) := by omega
            go_wp2_with fail
            go_ret
            exact ⟨rfl, hB⟩
    · obtain rfl : k = len := by omega
      go_wp2_with fail
      refine (Registers_any g b _ wr hS).mono ?_
      rintro e w9 ⟨rfl, rfl⟩
      have hsz : (strOfNums ((zeros b).set kk (mo : Int))).size = m := by rw [strOfNums_size, List.length_set, zeros_len, HM.out]
      have hch : ∀ i, i < m → (strOfNums ((zeros b).set kk (mo : Int)))[i]? = some (UInt8.ofNat (if i = kk then mo else 0)) := by
        intro i hi
        have e := strOfNums_get ((zeros b).set kk (mo : Int)) i (by rw [List.length_set, zeros_len, HM.out]; exact hi)
        rw [getD_set _ _ _ _ (by rw [zeros_len, HM.out]; exact hkm), zeros_get] at e
        rw [e]
        by_cases hik : i = kk
        · rw [if_pos hik, if_pos hik]; rfl
        · rw [if_neg hik, if_neg hik]; rfl
      generalize strOfNums ((zeros b).set kk (mo : Int)) = S at *
      have hw9 : Below w.heap.size w wr := hB
      go_wp2_with fail
      go_loopw [17] (fun i w9 => ∃ k : Nat, k ≤ m ∧ i = .int .i64 k ∧ w9 = wr) (fun i _ => m - (intOf i).toNat)
      case atStart => exact ⟨0, Nat.zero_le _, rfl, rfl⟩
      case round =>
        obtain ⟨j, hj, rfl, rfl⟩ := hrel
        by_cases hjm : j < m
        · have hc := hch j hjm
          have hjs : (j : Int) < (S.size : Int) := by omega
          have hjs' : j < S.size := by omega
          have hc : S[j].toNat = (if j = kk then mo else 0) := by
            have h2 : S[j]? = some S[j] := by simp [hjs']
            rw [h2] at hc
            rw [Option.some.inj hc, UInt8.toNat_ofNat']
            split <;> omega
          by_cases hjk : j = kk
          · subst hjk
            rw [if_pos rfl] at hc
            have hc1 : ((S[j].toNat : Nat) : Int) = mo := by omega
            have hc2 : ((mo : Int) != (mo : Int)) = false := by simp
            have hc3 : ((j : Int) != (j : Int)) = false := by simp
            have hc4 : ((j : Int) == (j : Int)) = true := by simp
            go_wp2_with fail
            go_roundw
            case rel => exact ⟨j + 1, by omega, by go_num, by first | trivial | rfl⟩
            case measure => simp [intOf]; omega
          · rw [if_neg hjk] at hc
            have hc1 : ((S[j].toNat : Nat) : Int) = 0 := by omega
            have hc2 : ((0 : Int) != (0 : Int)) = false := by simp
            have hc3 : ((j : Int) != (kk : Int)) = true := by simp; omega
            have hc4 : ((j : Int) == (kk : Int)) = false := by simp; omega
            go_wp2_with fail
            go_roundw
            case rel => exact ⟨j + 1, by omega, by go_num, by first | trivial | rfl⟩
            case measure => simp [intOf]; omega
        · obtain rfl : j = m := by omega
          have hjs : ¬ (j : Int) < (S.size : Int) := by omega
          go_wp2_with fail
          go_ret
          exact ⟨rfl, hB⟩
theorem hllRegisters_row (bits at_ : Int) (a : Option Addr) (len cap : Nat) (zs : List Int) (w : World) (h1 : (Lit.int .u8 bits).wf = true) (h2 : (Lit.int .u16 at_).wf = true) (hz : Ints .u8 w a len zs) (hc : len ≤ cap) (hl : len * 1 ≤ 140737488351232) (hT : Tab w) :
    Calls Tryd.prog 5 #[.int .u8 bits, .int .u16 at_, .slice a len cap] w fun e w' => e = .returned (.bool true) ∧ Below w.heap.size w w' :=
  registers_walk bits at_ a len cap zs w hT (bounds_u8 h1) (bounds_u16 h2) hz (by omega)
end Go.Proofs.YtjliamckoggnbaaDoor

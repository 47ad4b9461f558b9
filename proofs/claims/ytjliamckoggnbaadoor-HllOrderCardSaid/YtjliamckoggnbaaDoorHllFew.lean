/- The walk of HllFew: it returns true, whatever it is given; what lay in memory stays. -/
import Derived.Test.YtjliamckoggnbaaDoorHllR
namespace Go.Proofs.YtjliamckoggnbaaDoor
open Go.RowKit
set_option linter.unusedVariables false
set_option linter.unusedSimpArgs false

theorem Ints.take {k : IntKind} {w : World} {a : Option Addr} {n : Nat} {xs : List Int} (h : Ints k w a n xs) (j : Nat) (hj : j ≤ n) : Ints k w a j (xs.take j) :=
  ⟨by rw [List.length_take, h.len]; omega, fun x hx => h.wf x (List.mem_of_mem_take hx), fun h0 => by
    obtain ⟨b, off, ha, hlt, hc⟩ := h.at_ (by omega)
    exact ⟨b, off, ha, hlt, fun i hi => by rw [take_getD _ _ _ hi]; exact hc i (by omega)⟩⟩

/-- How many of the first k bytes are other than 0. -/
theorem many_succ (r : List Int) (k : Nat) (hk : k < r.length) : manyOf (r.take (k + 1)) = manyOf (r.take k) + (if 0 < r.getD k 0 then 1 else 0) := by
  unfold manyOf
  rw [List.take_succ_eq_append_getElem hk, List.countP_append]
  simp [List.getD_eq_getElem?_getD, List.getElem?_eq_getElem hk, List.countP_cons]

set_option maxRecDepth 100000 in
set_option maxHeartbeats 2000000 in
theorem few_walk (bits : Int) (a : Option Addr) (len cap : Nat) (xs : List Int) (w : World) (hT : Tab w) (h1 : 0 ≤ bits ∧ bits ≤ 255) (hx : Ints .u64 w a len xs) (hlc : len ≤ cap) (hl : len ≤ 140737488351232) :
    Calls Tryd.prog 7 #[.int .u8 bits, .slice a len cap] w fun e w' => e = .returned (.bool true) ∧ Below w.heap.size w w' := by
  obtain ⟨b, hb⟩ := Int.eq_ofNat_of_zero_le (show 0 ≤ 4 + bits % 7 by omega)
  have hb2 : b = 4 ∨ b = 5 ∨ b = 6 ∨ b = 7 ∨ b = 8 ∨ b = 9 ∨ b = 10 := by omega
  have hbl : (4 : Int) ≤ b ∧ (b : Int) ≤ 10 := by omega
  have HB2 := Lib.hid hb2
  clear hb2
  have hm : 2 ^ b ≤ 1024 := by have := Nat.pow_le_pow_right (n := 2) (by omega) (show b ≤ 10 by omega); simpa using this
  obtain ⟨m, hm0⟩ : ∃ m, 2 ^ b = m := ⟨_, rfl⟩
  rw [hm0] at hm
  have HM := Lib.hid hm0
  clear hm0
  go_enter Tryd.func7, Tryd.ntmps7
  go_wp2_with fail
  refine (examples_any _ hT).mono ?_
  rintro e w1 ⟨rfl, b1⟩
  go_wp2_with fail
  refine (fed_any b none 0 0 [] _ HB2.out (hT.step b1) (nil_ints _) (by omega)).mono ?_
  rintro e w2 ⟨rfl, s2, b2⟩
  replace s2 : Sk w2 w1.heap.size b (zeros b) := s2
  have hB := bstep b2 b1
  have hg1 : w.heap.size ≤ w1.heap.size := b1.size
  generalize w1.heap.size = g at *
  clear b1 b2
  go_wp2_with fail
  refine (fed_any b a len cap xs _ HB2.out (hT.step hB) (hx.step hB) hl).mono ?_
  rintro e w3 ⟨rfl, s3, b3⟩
  have hgg : g < w2.heap.size := s2.lt
  have hg2 : w.heap.size ≤ w2.heap.size := by omega
  replace s2 := Sk.step b3 s2
  replace hB := bstep b3 hB
  generalize w2.heap.size = g2 at *
  clear b3
  go_wp2_with fail
  refine (Registers_any g2 b _ w3 s3).mono ?_
  rintro e w9 ⟨rfl, rfl⟩
  go_wp2_with fail
  have hR : (feed b (zeros b) (xs.take 100)).length = m := by rw [feed_len, zeros_len, HM.out]
  have hMany : manyOf (feed b (zeros b) (xs.take 100)) ≤ min len 100 := by
    have h := many_feed b (xs.take 100) (zeros b)
    rw [many_zeros, List.length_take, hx.len] at h
    omega
  have hW := s3.wf
  generalize feed b (zeros b) (xs.take 100) = R at *
  have hsz : (strOfNums R).size = m := by rw [strOfNums_size, hR]
  have hch : ∀ i, i < m → (strOfNums R)[i]? = some (UInt8.ofNat (R.getD i 0).toNat) := fun i hi => strOfNums_get R i (by omega)
  generalize strOfNums R = S at *
  go_loopw [10, 11] (fun mo i w9 => ∃ k : Nat, k ≤ m ∧ mo = .int .u64 (manyOf (R.take k) : Nat) ∧ i = .int .i64 k ∧ w9 = w3) (fun _ i _ => m - (intOf i).toNat)
  case atStart => exact ⟨0, Nat.zero_le _, rfl, rfl, rfl⟩
  case round =>
    obtain ⟨k, hk, rfl, rfl, rfl⟩ := hrel
    by_cases hkm : k < m
    · have hc := hch k hkm
      have hjs : (k : Int) < (S.size : Int) := by omega
      have hjs' : k < S.size := by omega
      have hv := s3.get k
      have hc : S[k].toNat = (R.getD k 0).toNat := by
        have h2 : S[k]? = some S[k] := by simp [hjs']
        rw [h2] at hc
        rw [Option.some.inj hc, UInt8.toNat_ofNat']
        omega
      have hms := many_succ R k (by omega)
      have hmk : manyOf (R.take k) ≤ k := by
        have h := List.countP_le_length (p := fun x : Int => decide (0 < x)) (l := R.take k)
        rw [List.length_take] at h
        unfold manyOf
        omega
      obtain ⟨v, hvv⟩ := Int.eq_ofNat_of_zero_le hv.1
      rw [hvv] at hc hms hv
      have hc1 : ((S[k].toNat : Nat) : Int) = v := by omega
      obtain ⟨mm, hmm⟩ : ∃ mm, manyOf (R.take k) = mm := ⟨_, rfl⟩
      obtain ⟨m2, hm2⟩ : ∃ m2, manyOf (R.take (k + 1)) = m2 := ⟨_, rfl⟩
      rw [hmm] at hmk hms
      rw [hm2] at hms
      rw [hmm]
      by_cases h0 : (0 : Int) < v
      · rw [if_pos h0] at hms
        go_wp2_with fail
        go_roundw
        case rel => exact ⟨k + 1, by omega, by rw [hm2]; go_num, by go_num, by first | trivial | rfl⟩
        case measure => simp [intOf]; omega
      · rw [if_neg h0] at hms
        go_wp2_with fail
        go_roundw
        case rel => exact ⟨k + 1, by omega, by rw [hm2]; go_num, by go_num, by first | trivial | rfl⟩
        case measure => simp [intOf]; omega
    · obtain rfl : k = m := by omega
      have hjs : ¬ (k : Int) < (S.size : Int) := by omega
      rw [List.take_of_length_le (by omega)]
      generalize manyOf R = many at *
      go_wp2_with fail
      obtain ⟨l, hl0⟩ : ∃ l, min len 1 = l := ⟨_, rfl⟩
      have e1 : min (len : Int) 1 = (l : Int) := by omega
      have e2 : min (len : Int) 100 = ((min len 100 : Nat) : Int) := by omega
      rw [e1, Int.toNat_natCast]
      have hest : estI b (feed b (zeros b) ((xs.take l).take 100)) = l := by
        rcases (show l = 0 ∨ l = 1 by omega) with rfl | rfl
        · exact none_est b HB2.out
        · cases xs with
          | nil => have := hx.len; simp at this; omega
          | cons x xs => exact feed_one b x HB2.out
      refine (fed_any b a l cap _ _ HB2.out (hT.step hB) ((hx.step hB).take l (by omega)) (by omega)).mono ?_
      rintro e w4 ⟨rfl, s4, b4⟩
      replace s2 := Sk.step b4 s2
      replace s3 := Sk.step b4 s3
      replace hB := bstep b4 hB
      generalize feed b (zeros b) ((xs.take l).take 100) = r4 at *
      generalize wr.heap.size = g4 at *
      clear b4
      go_wp2_with fail
      refine (Estimate_any _ b _ _ s4).mono ?_
      rintro e w5 ⟨rfl, b5⟩
      rw [hest]
      replace s2 := Sk.step b5 s2
      replace s3 := Sk.step b5 s3
      replace hB := bstep b5 hB
      clear b5 s4 hest
      go_wp2_with fail
      refine (Clear_any _ b _ _ s3).mono ?_
      rintro e w6 ⟨rfl, s6, g6⟩
      replace s6 : Sk w6 g2 b (zeros b) := s6
      replace s2 := Sk.grown g6 s2 (by simp; omega)
      replace hB := bonly hB g6 (by omega)
      go_wp2_with fail
      refine (Estimate_any _ b _ _ s2).mono ?_
      rintro e w7 ⟨rfl, b7⟩
      rw [none_est b HB2.out]
      replace s2 := Sk.step b7 s2
      replace s6 := Sk.step b7 s6
      replace hB := bstep b7 hB
      clear b7
      have hM2 : (many : Int) ≤ min (len : Int) 100 := by omega
      go_wp2_with fail
      refine (Registers_any _ b _ _ s6).mono ?_
      rintro e w8 ⟨rfl, rfl⟩
      go_wp2_with fail
      refine (Registers_any _ b _ _ s2).mono ?_
      rintro e w8 ⟨rfl, rfl⟩
      go_wp2_with fail
      go_ret
      exact ⟨rfl, hB⟩
theorem hllFew_row (bits : Int) (a : Option Addr) (len cap : Nat) (xs : List Int) (w : World) (h1 : (Lit.int .u8 bits).wf = true) (hz : Ints .u64 w a len xs) (hc : len ≤ cap) (hl : len * 8 ≤ 140737488351232) (hT : Tab w) :
    Calls Tryd.prog 7 #[.int .u8 bits, .slice a len cap] w fun e w' => e = .returned (.bool true) ∧ Below w.heap.size w w' :=
  few_walk bits a len cap xs w hT (bounds_u8 h1) hz hc (by omega)
end Go.Proofs.YtjliamckoggnbaaDoor

/- The laws' helpers: examples answers true; fed makes the sketch of what was added. -/
import Derived.Test.YtjliamckoggnbaaDoorHllF
import Derived.Test.YtjliamckoggnbaaDoorRow
namespace Go.Proofs.YtjliamckoggnbaaDoor
open Go.RowKit
set_option linter.unusedVariables false
set_option linter.unusedSimpArgs false

/-- The registers behind additions. -/
def feed (b : Nat) (r : List Int) (xs : List Int) : List Int := xs.foldl (fun r x => addR b r x.toNat) r
def zeros (b : Nat) : List Int := List.replicate (2 ^ b) 0

def ex1 : List Int := 1 :: List.replicate 15 0
theorem ex_add : addR 4 (zeros 4) 16 = ex1 ∧ addB 4 (zeros 4) 16 = true ∧ addR 4 ex1 16 = ex1 ∧ addB 4 ex1 16 = false ∧ estI 4 (zeros 4) = 0 ∧ estI 4 ex1 = 1 := by decide +kernel

set_option maxRecDepth 100000 in
set_option maxHeartbeats 1000000 in
theorem examples_any (w : World) (hT : Tab w) : Calls Tryd.prog 10 #[] w fun e w' => e = .returned (.bool true) ∧ Below w.heap.size w w' := by
  obtain ⟨x1, x2, x3, x4, x5, x6⟩ := ex_add
  go_enter Tryd.func10, Tryd.ntmps10
  go_wp2_with fail
  refine (New_no 3 _ (by omega)).mono ?_
  rintro e w1 ⟨rfl, b1⟩
  go_wp2_with fail
  refine (New_yes 4 _ (by omega)).mono ?_
  rintro e w2 ⟨rfl, s2, b2⟩
  replace s2 : Sk w2 w1.heap.size 4 (zeros 4) := s2
  go_wp2_with fail
  refine (Estimate_any _ 4 _ _ s2).mono ?_
  rintro e w3 ⟨rfl, b3⟩
  rw [x5]
  replace s2 := Sk.step b3 s2
  have hB := bstep b3 (bstep b2 (bstep b1 (Below.refl w.heap.size w)))
  have hg : w.heap.size ≤ w1.heap.size := b1.size
  generalize w1.heap.size = g at *
  clear b1 b2 b3
  go_wp2_with fail
  refine (Add_any g 4 _ 16 _ (by omega) s2 (hT.step hB)).mono ?_
  rintro e w4 ⟨rfl, s4, g4⟩
  rw [x1] at s4
  rw [x2]
  replace hB := bonly hB g4 hg
  go_wp2_with fail
  refine (Add_any g 4 _ 16 _ (by omega) s4 (hT.step hB)).mono ?_
  rintro e w5 ⟨rfl, s5, g5⟩
  rw [x3] at s5
  rw [x4]
  replace hB := bonly hB g5 hg
  clear s2 s4 g4 g5 x1 x2 x3 x4 x5
  go_wp2_with fail
  refine (Of_any _ _ (by decide)).mono ?_
  rintro e w6 ⟨b6, h6⟩
  have hno : ¬ OkS { data := #[120, 120] } := by
    rintro ⟨⟨b, h1, h2, h3⟩, _⟩
    have : 2 ^ 4 ≤ 2 ^ b := Nat.pow_le_pow_right (by omega) h1
    rw [← h3] at this
    exact absurd this (by decide)
  rcases h6 with ⟨hok, _⟩ | ⟨_, rfl⟩
  · exact absurd hok hno
  replace s5 := Sk.step b6 s5
  replace hB := bstep b6 hB
  clear b6 hno
  go_wp2_with fail
  refine (Estimate_any _ 4 _ _ s5).mono ?_
  rintro e w7 ⟨rfl, b7⟩
  rw [x6]
  replace s5 := Sk.step b7 s5
  replace hB := bstep b7 hB
  clear b7
  go_wp2_with fail
  refine (Bits_any _ 4 _ _ s5).mono ?_
  rintro e w8 ⟨rfl, rfl⟩
  go_wp2_with fail
  refine (Registers_any _ 4 _ _ s5).mono ?_
  rintro e w9 ⟨rfl, rfl⟩
  have hsz : (strOfNums ex1).size = 16 := by rw [strOfNums_size]; rfl
  generalize strOfNums ex1 = S at *
  go_wp2_with fail
  go_ret
  exact ⟨rfl, hB⟩

theorem feed_snoc (b : Nat) (r xs : List Int) (k : Nat) (hk : k < xs.length) : feed b r (xs.take (k + 1)) = addR b (feed b r (xs.take k)) (xs.getD k 0).toNat := by
  unfold feed
  rw [List.take_succ_eq_append_getElem hk, List.foldl_append]
  simp [List.getD_eq_getElem?_getD, List.getElem?_eq_getElem hk]

theorem Ints.bd64 {w : World} {a : Option Addr} {n : Nat} {xs : List Int} (h : Ints .u64 w a n xs) (k : Nat) (hk : k < n) : 0 ≤ xs.getD k 0 ∧ xs.getD k 0 ≤ 18446744073709551615 := by
  refine bounds_u64 (h.wf _ ?_)
  rw [List.getD_eq_getElem?_getD, List.getElem?_eq_getElem (by rw [h.len]; exact hk)]
  exact List.getElem_mem _

set_option maxRecDepth 100000 in
set_option maxHeartbeats 1000000 in
theorem fed_any (b : Nat) (a : Option Addr) (n c : Nat) (xs : List Int) (w : World) (hb : b = 4 ∨ b = 5 ∨ b = 6 ∨ b = 7 ∨ b = 8 ∨ b = 9 ∨ b = 10) (hT : Tab w) (hx : Ints .u64 w a n xs) (hn : n ≤ 140737488351232) :
    Calls Tryd.prog 19 #[.int .i64 b, .slice a n c] w fun e w' => e = .returned (.pointer (some ⟨w.heap.size, 0, none⟩)) ∧ Sk w' w.heap.size b (feed b (zeros b) (xs.take 100)) ∧ Below w.heap.size w w' := by
  go_enter Tryd.func19, Tryd.ntmps19
  go_wp2_with fail
  refine (New_yes b _ hb).mono ?_
  rintro e w1 ⟨rfl, s1, b1⟩
  go_wp2_with fail
  generalize hg : w.heap.size = g at *
  have HG := Lib.hid hg
  clear hg
  go_loopw [7] (fun i wr => ∃ k : Nat, k ≤ n ∧ k ≤ 100 ∧ i = .int .i64 k ∧ Sk wr g b (feed b (zeros b) (xs.take k)) ∧ Below g w wr) (fun i _ => n - (intOf i).toNat)
  case atStart => exact ⟨0, Nat.zero_le _, Nat.zero_le _, rfl, s1, b1⟩
  case round =>
    obtain ⟨k, hk, hk2, rfl, hS, hB⟩ := hrel
    have hB' : Below w.heap.size w wr := by rw [HG.out]; exact hB
    by_cases hkn : k < n
    · by_cases hk3 : k < 100
      · obtain ⟨ab, off, rfl, hbl, hc⟩ := (hx.step hB').at_ (by omega)
        have hck := hc k hkn
        have hv := hx.bd64 k hkn
        have HF := Lib.hid (feed_snoc b (zeros b) xs k (by rw [hx.len]; exact hkn))
        clear hc
        generalize xs.getD k 0 = v at *
        obtain ⟨h, rfl⟩ := Int.eq_ofNat_of_zero_le hv.1
        have hh : h < 18446744073709551616 := by omega
        have hadd := Add_any g b _ h wr hh hS (hT.step hB')
        have e0 : addR b (feed b (zeros b) (xs.take k)) h = feed b (zeros b) (xs.take (k + 1)) := by rw [HF.out]; rfl
        rw [e0] at hadd
        have HA := Lib.hid hadd
        clear hadd e0 HF hv
        have hk1 : (k : Int) < n := by omega
        generalize addB b (feed b (zeros b) (xs.take k)) h = o at *
        go_wp2_with fail
        refine (HA.out).mono ?_
        rintro e w2 ⟨rfl, hS2, hG2⟩
        have hB2 : Below g w w2 := by
          have h3 := bonly hB' hG2 (by rw [HG.out]; omega)
          rw [HG.out] at h3
          exact h3
        go_wp2_with fail
        go_roundw
        case rel => exact ⟨k + 1, by omega, by omega, by go_num, hS2, hB2⟩
        case measure => simp [intOf]; omega
      · obtain rfl : k = 100 := by omega
        go_wp2_with fail
        go_ret
        have hg := HG.out
        subst hg
        exact ⟨rfl, hS, hB⟩
    · obtain rfl : k = n := by omega
      have e : xs.take 100 = xs.take k := by
        rw [List.take_of_length_le (by rw [hx.len]; omega), List.take_of_length_le (by rw [hx.len]; omega)]
      go_wp2_with fail
      go_ret
      have hg := HG.out
      subst hg
      exact ⟨rfl, by rw [e]; exact hS, hB⟩
end Go.Proofs.YtjliamckoggnbaaDoor

/- A policy: its numbers, whether it is right. -/
import Derived.Test.YtapiehddcdnadaaGreatDoorProg
import Derived.Test.YtapiehddcdnadaaGreatDoorM1
import Derived.Lib.Hide
namespace Go.Proofs.YtapiehddcdnadaaGreatDoor
open Go.RowKit
set_option linter.unusedVariables false
set_option linter.unusedSimpArgs false

/-- A policy's numbers. -/
structure PolN where
  slots : Int
  low : Int
  high : Int
  top : Int
  sketch : Int
  fine : Int
  idle : Int
  window : Int
  late : Int
  future : Int
def PolN.list (p : PolN) : List Int := [p.slots, p.low, p.high, p.top, p.sketch, p.fine, p.idle, p.window, p.late, p.future]
def polV (p : PolN) (a : Option Addr) (n c : Nat) : Value := .agg #[.int .i64 p.slots, .int .i64 p.low, .int .i64 p.high, .int .i64 p.top, .int .i64 p.sketch, .int .i64 p.fine, .int .i64 p.idle, .int .i64 p.window, .int .i64 p.late, .int .i64 p.future, .slice a n c]
def leastL : List Int := [1, 0, 0, 1, 4, 0, 1, 1, 0, 0]
def mostL (hi : Int) : List Int := [256, hi, 1000000, 16, 10, 4, 100, 1000000000, 1000000000, 1000000000]
def numOk (p : PolN) (k : Nat) : Bool := decide (leastL.getD k 0 ≤ p.list.getD k 0) && decide (p.list.getD k 0 ≤ (mostL p.high).getD k 0)
def tierOk (xs : List Int) (k : Nat) : Bool := decide (1 ≤ xs.getD k 0) && decide (xs.getD k 0 ≤ 1000000000) && (decide (k = 0) || (decide (xs.getD (k - 1) 0 < xs.getD k 0) && decide ((xs.getD k 0).tmod (xs.getD (k - 1) 0) = 0)))
def rightP (p : PolN) (xs : List Int) : Bool := (List.range 10).all (numOk p) && (List.range xs.length).all (tierOk xs) && decide (1 ≤ xs.length) && decide (xs.length ≤ 3)
/-- Each number is of its kind. -/
def PolN.Fit (p : PolN) : Prop := ∀ x ∈ p.list, -9223372036854775808 ≤ x ∧ x ≤ 9223372036854775807

theorem all_range_false {f : Nat → Bool} {n k : Nat} (hk : k < n) (h : f k = false) : (List.range n).all f = false := by
  cases hh : (List.range n).all f with
  | false => rfl
  | true =>
    rw [List.all_eq_true] at hh
    rw [hh k (List.mem_range.2 hk)] at h
    cases h
theorem all_range_true {f : Nat → Bool} {n : Nat} (h : ∀ k, k < n → f k = true) : (List.range n).all f = true := by
  rw [List.all_eq_true]
  intro k hk
  exact h k (List.mem_range.1 hk)

set_option maxRecDepth 100000 in
set_option maxHeartbeats 1000000 in
theorem plist_call (p : PolN) (a : Option Addr) (n c : Nat) (w : World) : Calls Tryz.prog 66 #[polV p a n c] w fun e w' => e = .returned (.slice (some ⟨w.heap.size + 1, 0, none⟩) 10 10) ∧ Blk w' (w.heap.size + 1) 2 (p.list.map (Value.int .i64)).toArray ∧ Below w.heap.size w w' := by
  unfold polV
  go_enter Tryz.func66, Tryz.ntmps66
  go_wp2_with fail
  go_ret
  exact ⟨rfl, Blk.newAt (by simp), balloc (balloc (Below.refl _ _) _) _⟩
theorem cell_nums {w : World} {g : Nat} {t : TypeId} {l : List Int} (h : Blk w g t (l.map (Value.int .i64)).toArray) (k : Nat) (hk : k < l.length) : w.cell? ⟨g, k, none⟩ = some (.int .i64 (l.getD k 0)) := h.cellAt k (by
  rw [List.getElem?_toArray, List.getElem?_map, List.getD_eq_getElem?_getD, List.getElem?_eq_getElem hk]
  rfl)
theorem least_len : leastL.length = 10 := rfl
theorem most_len (hi : Int) : (mostL hi).length = 10 := rfl
theorem PolN.list_len (p : PolN) : p.list.length = 10 := rfl
theorem tier_pos {xs : List Int} {k : Nat} (h : tierOk xs k = true) : 1 ≤ xs.getD k 0 := by
  unfold tierOk at h
  simp only [Bool.and_eq_true, decide_eq_true_eq] at h
  exact h.1.1

set_option maxRecDepth 100000 in
set_option maxHeartbeats 4000000 in
theorem right_call (p : PolN) (a : Option Addr) (n c : Nat) (xs : List Int) (w : World) (hx : Ints .i64 w a n xs) (hn : n ≤ 9223372036854775807) : Calls Tryz.prog 28 #[polV p a n c] w fun e w' => e = .returned (.bool (rightP p xs)) ∧ Below w.heap.size w w' := by
  have HL := Lib.hid (fun W => plist_call p a n c W)
  have hlen := hx.len
  have HR : Hid (rightP p xs = ((List.range 10).all (numOk p) && (List.range n).all (tierOk xs) && decide (1 ≤ n) && decide (n ≤ 3))) := Lib.hid (by unfold rightP; rw [hlen])
  generalize rightP p xs = R at *
  unfold polV at *
  go_enter Tryz.func28, Tryz.ntmps28
  go_wp2_with fail
  refine (HL.out _).mono ?_
  rintro e w1 ⟨rfl, B4, b1⟩
  have B0 := Blk.step b1 (((Blk.new w 24 #[.int .i64 p.slots, .int .i64 p.low, .int .i64 p.high, .int .i64 p.top, .int .i64 p.sketch, .int .i64 p.fine, .int .i64 p.idle, .int .i64 p.window, .int .i64 p.late, .int .i64 p.future, .slice a n c]).alloc _).alloc _)
  have B1 := Blk.step b1 ((Blk.newAt (g := w.heap.size + 1) (t := 2) (cs := (leastL.map (Value.int .i64)).toArray) (by simp)).alloc _)
  have B2 := Blk.step b1 (Blk.newAt (g := w.heap.size + 2) (t := 2) (cs := ((mostL p.high).map (Value.int .i64)).toArray) (by simp))
  have hb := bstep b1 (balloc (balloc (balloc (Below.refl _ w) _) _) _)
  clear b1 HL
  obtain ⟨g4, hg4⟩ : ∃ g4, ((((w.alloc (.cells #[.int .i64 p.slots, .int .i64 p.low, .int .i64 p.high, .int .i64 p.top, .int .i64 p.sketch, .int .i64 p.fine, .int .i64 p.idle, .int .i64 p.window, .int .i64 p.late, .int .i64 p.future, .slice a n c] 24)).alloc (.cells #[.int .i64 1, .int .i64 0, .int .i64 0, .int .i64 1, .int .i64 4, .int .i64 0, .int .i64 1, .int .i64 1, .int .i64 0, .int .i64 0] 2)).alloc (.cells #[.int .i64 256, .int .i64 p.high, .int .i64 1000000, .int .i64 16, .int .i64 10, .int .i64 4, .int .i64 100, .int .i64 1000000000, .int .i64 1000000000, .int .i64 1000000000] 2)).heap.size + 1) = g4 := ⟨_, rfl⟩
  rw [hg4] at B4 ⊢
  clear hg4
  have l4 := B4.lt
  have l0 := B0.lt
  have l1 := B1.lt
  have l2 := B2.lt
  have ct := B0.cellAt 10 rfl
  have hx1 := hx.step hb
  go_wp2_with fail
  go_loop [17] (fun i => ∃ k : Nat, k ≤ 10 ∧ i = .int .i64 k ∧ Hid (∀ j, j < k → numOk p j = true)) (fun i => 10 - (intOf i).toNat)
  case atStart => exact ⟨0, Nat.zero_le _, rfl, Lib.hid (fun j h => by omega)⟩
  case round =>
    obtain ⟨k, hk, rfl, hok⟩ := hrel
    by_cases hlt : k < 10
    · have h1 : (k : Int) < 10 := by omega
      have c4 := cell_nums B4 k (by rw [PolN.list_len]; exact hlt)
      have c1 := cell_nums B1 k (by rw [least_len]; exact hlt)
      have c2 := cell_nums B2 k (by rw [most_len]; exact hlt)
      have hnum : Hid (numOk p k = (decide (leastL.getD k 0 ≤ p.list.getD k 0) && decide (p.list.getD k 0 ≤ (mostL p.high).getD k 0))) := Lib.hid rfl
      generalize p.list.getD k 0 = x at *
      generalize leastL.getD k 0 = l at *
      generalize (mostL p.high).getD k 0 = m at *
      by_cases hl : x < l
      · have hf : Hid (R = false) := Lib.hid (by
          rw [HR.out, all_range_false hlt (by rw [hnum.out]; simp; omega)]; rfl)
        go_wp2_with fail
        go_ret
        exact ⟨ret_bool hf.out.symm, hb⟩
      · by_cases hm : m < x
        · have hf : Hid (R = false) := Lib.hid (by
            rw [HR.out, all_range_false hlt (by rw [hnum.out]; simp; omega)]; rfl)
          go_wp2_with fail
          go_ret
          exact ⟨ret_bool hf.out.symm, hb⟩
        · have hok1 : Hid (∀ j, j < k + 1 → numOk p j = true) := Lib.hid (fun j hj => by
            rcases Nat.lt_or_ge j k with h | h
            · exact hok.out j h
            · obtain rfl : j = k := by omega
              rw [hnum.out]; simp; omega)
          go_wp2_with fail
          exact ⟨⟨k + 1, by omega, by go_num, hok1⟩, by simp [intOf]; omega⟩
    · obtain rfl : k = 10 := by omega
      have HA : Hid ((List.range 10).all (numOk p) = true) := Lib.hid (all_range_true hok.out)
      clear hok B4 B1 B2 l4 l1 l2
      go_wp2_with fail
      go_loop [7, 40] (fun l i => ∃ (k : Nat) (y : Int), k ≤ n ∧ i = .int .i64 k ∧ l = .int .i64 y ∧ 1 ≤ y ∧ Hid ((k = 0 ∧ y = 1) ∨ (0 < k ∧ y = xs.getD (k - 1) 0)) ∧ Hid (∀ j, j < k → tierOk xs j = true)) (fun _ i => n - (intOf i).toNat)
      case atStart => exact ⟨0, 1, Nat.zero_le _, rfl, rfl, Int.le_refl _, Lib.hid (.inl ⟨rfl, rfl⟩), Lib.hid (fun j h => by omega)⟩
      case round =>
        obtain ⟨k, y, hk, rfl, rfl, hy1, hyk, hok⟩ := hrel
        by_cases hlt : k < n
        · have h1 : (k : Int) < n := by omega
          obtain ⟨b, off, rfl, hbl, hcell⟩ := hx1.at_ (by omega)
          have x0 := hcell k hlt
          have hT : Hid (tierOk xs k = (decide (1 ≤ xs.getD k 0) && decide (xs.getD k 0 ≤ 1000000000) && (decide (k = 0) || (decide (xs.getD (k - 1) 0 < xs.getD k 0) && decide ((xs.getD k 0).tmod (xs.getD (k - 1) 0) = 0))))) := Lib.hid rfl
          have hfalse : Hid (tierOk xs k = false → R = false) := Lib.hid (fun h => by
            rw [HR.out, HA.out, all_range_false hlt h]; rfl)
          have hnext : Hid (tierOk xs k = true → ∀ j, j < k + 1 → tierOk xs j = true) := Lib.hid (fun h j hj => by
            rcases Nat.lt_or_ge j k with h2 | h2
            · exact hok.out j h2
            · obtain rfl : j = k := by omega
              exact h)
          have hxk : Hid (xs.getD (k + 1 - 1) 0 = xs.getD k 0) := Lib.hid rfl
          clear hcell hok
          generalize hxx : xs.getD k 0 = x at *
          clear hxx
          by_cases hl : x < 1
          · have hf : Hid (R = false) := Lib.hid (hfalse.out (by rw [hT.out]; simp; omega))
            go_wp2_with fail
            go_ret
            exact ⟨ret_bool hf.out.symm, hb⟩
          · by_cases hm : (1000000000 : Int) < x
            · have hf : Hid (R = false) := Lib.hid (hfalse.out (by rw [hT.out]; simp; omega))
              go_wp2_with fail
              go_ret
              exact ⟨ret_bool hf.out.symm, hb⟩
            · have hx1' : 1 ≤ x := by omega
              by_cases hk0 : k = 0
              · have hf : Hid (tierOk xs k = true) := Lib.hid (by rw [hT.out]; simp [hk0]; omega)
                have hk0' : ¬ (0 : Int) < k := by omega
                have hn2 := Lib.hid (hnext.out hf.out)
                clear hk0 hyk hy1
                go_wp2_with fail
                exact ⟨⟨k + 1, x, by omega, by go_num, rfl, hx1', Lib.hid (.inr ⟨by omega, hxk.out.symm⟩), hn2⟩, by simp [intOf]; omega⟩
              · have hk0' : (0 : Int) < k := by omega
                have hyk2 : Hid (y = xs.getD (k - 1) 0) := Lib.hid (by
                  rcases hyk.out with h | h
                  · exact absurd h.1 hk0
                  · exact h.2)
                by_cases hle : x ≤ y
                · have hf : Hid (R = false) := Lib.hid (hfalse.out (by rw [hT.out, ← hyk2.out]; simp [hk0]; omega))
                  clear hk0 hyk
                  go_wp2_with fail
                  go_ret
                  exact ⟨ret_bool hf.out.symm, hb⟩
                · have hmod : x.tmod y = x % y := Int.tmod_eq_emod_of_nonneg (by omega)
                  obtain ⟨r, hr⟩ : ∃ r, x % y = r := ⟨_, rfl⟩
                  rw [hr] at hmod
                  have hy0 : ¬ y = 0 := by omega
                  by_cases hr0 : r = 0
                  · have hf : Hid (tierOk xs k = true) := Lib.hid (by rw [hT.out, ← hyk2.out, hmod, hr0]; simp; omega)
                    have hn2 := Lib.hid (hnext.out hf.out)
                    have hr1 : (r != 0) = false := by simp [hr0]
                    clear hk0 hyk hr0
                    go_wp2_with fail
                    exact ⟨⟨k + 1, x, by omega, by go_num, rfl, hx1', Lib.hid (.inr ⟨by omega, hxk.out.symm⟩), hn2⟩, by simp [intOf]; omega⟩
                  · have hf : Hid (R = false) := Lib.hid (hfalse.out (by rw [hT.out, ← hyk2.out, hmod]; simp [hk0, hr0]))
                    have hr1 : (r != 0) = true := by simp [hr0]
                    clear hk0 hyk hr0
                    go_wp2_with fail
                    go_ret
                    exact ⟨ret_bool hf.out.symm, hb⟩
        · obtain rfl : k = n := by omega
          have hf : Hid (R = (decide (1 ≤ k) && decide (k ≤ 3))) := Lib.hid (by rw [HR.out, HA.out, all_range_true hok.out]; simp)
          clear hok hyk
          have hend : (k = 0) ∨ (1 ≤ k ∧ k ≤ 3) ∨ 3 < k := by omega
          rcases hend with h | ⟨h, h'⟩ | h
          · have h1 : ¬ (1 : Int) ≤ k := by omega
            have hff : Hid (R = false) := Lib.hid (by rw [hf.out]; simp; omega)
            clear h
            go_wp2_with fail
            go_ret
            exact ⟨ret_bool hff.out.symm, hb⟩
          · have h1 : (1 : Int) ≤ k := by omega
            have h2 : (k : Int) ≤ 3 := by omega
            have hff : Hid (R = true) := Lib.hid (by rw [hf.out]; simp; omega)
            go_wp2_with fail
            go_ret
            exact ⟨ret_bool hff.out.symm, hb⟩
          · have h1 : (1 : Int) ≤ k := by omega
            have h2 : ¬ (k : Int) ≤ 3 := by omega
            have hff : Hid (R = false) := Lib.hid (by rw [hf.out]; simp; omega)
            go_wp2_with fail
            go_ret
            exact ⟨ret_bool hff.out.symm, hb⟩
end Go.Proofs.YtapiehddcdnadaaGreatDoor

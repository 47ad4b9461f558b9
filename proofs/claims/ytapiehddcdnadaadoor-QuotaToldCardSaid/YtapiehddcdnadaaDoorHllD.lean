/- Merge: of other bits it is refused; with itself it stays; else each register is the greater one of both. -/
import Derived.Test.YtapiehddcdnadaaDoorHllC
namespace Go.Proofs.YtapiehddcdnadaaDoor
open Go.RowKit
set_option linter.unusedVariables false
set_option linter.unusedSimpArgs false

theorem Merge_no (g g' b b' : Nat) (r r' : List Int) (w : World) (h : Sk w g b r) (h' : Sk w g' b' r') (hne : b ≠ b') :
    Calls Tryd.prog 28 #[.pointer (some ⟨g, 0, none⟩), .pointer (some ⟨g', 0, none⟩)] w fun e w' => e = .returned (.int .i64 1) ∧ Below w.heap.size w w' := by
  have c0 := h.cell0
  have c1 := h'.cell0
  have hd : ((b' : Int) == (b : Int)) = false := by simp; omega
  have hd2 : ((b' : Int) != (b : Int)) = true := by simp; omega
  go_enter Tryd.func28, Tryd.ntmps28
  go_wp2_with fail
  go_quiet (fail)
  go_wp2_with fail
  go_ret
  exact ⟨rfl, bdrewN (Below.refl _ _) _⟩

/-- The first k registers merged. -/
def mergeTo (r r' : List Int) (k : Nat) : List Int := List.zipWith max (r.take k) (r'.take k) ++ r.drop k

theorem mergeTo_zero (r r' : List Int) : mergeTo r r' 0 = r := by simp [mergeTo]
theorem mergeTo_all (r r' : List Int) (k : Nat) (h : r.length = k) (h' : r'.length = k) : mergeTo r r' k = List.zipWith max r r' := by
  subst h; simp [mergeTo, List.take_of_length_le (Nat.le_of_eq h')]
theorem mergeTo_get (r r' : List Int) (k : Nat) (hk : k < r.length) (hk' : k < r'.length) : (mergeTo r r' k).getD k 0 = r.getD k 0 := by
  simp only [mergeTo, List.getD_eq_getElem?_getD]
  rw [List.getElem?_append_right (by simp; omega)]
  simp only [List.length_zipWith, List.length_take, List.getElem?_drop]
  congr 2
  omega
theorem mergeTo_succ (r r' : List Int) (k : Nat) (hk : k < r.length) (hk' : k < r'.length) : (mergeTo r r' k).set k (max (r.getD k 0) (r'.getD k 0)) = mergeTo r r' (k + 1) := by
  simp only [mergeTo]
  rw [List.set_append_right _ _ (by simp; omega)]
  have e : k - (List.zipWith max (r.take k) (r'.take k)).length = 0 := by simp; omega
  rw [e, List.drop_eq_getElem_cons hk, List.set_cons_zero, List.take_succ_eq_append_getElem hk, List.take_succ_eq_append_getElem hk', List.zipWith_append (by simp; omega)]
  simp [List.getD_eq_getElem?_getD, List.getElem?_eq_getElem hk, List.getElem?_eq_getElem hk']

set_option maxRecDepth 100000 in
set_option maxHeartbeats 1000000 in
theorem Merge_yes (g g' b : Nat) (r r' : List Int) (w : World) (h : Sk w g b r) (h' : Sk w g' b r') (hne : g ≠ g') :
    Calls Tryd.prog 28 #[.pointer (some ⟨g, 0, none⟩), .pointer (some ⟨g', 0, none⟩)] w fun e w' => e = .returned (.int .i64 0) ∧ Sk w' g b (List.zipWith max r r') ∧ w.grownBy w' (some g) := by
  have c0 := h.cell0
  have c1 := h'.cell0
  have hd : ((b : Int) == (b : Int)) = true := by simp
  have hd2 : ((b : Int) != (b : Int)) = false := by simp
  have hm : 2 ^ b ≤ 1024 := by have := Nat.pow_le_pow_right (n := 2) (by omega) h.hi; simpa using this
  go_enter Tryd.func28, Tryd.ntmps28
  go_wp2_with fail
  go_quiet (fail)
  go_wp2_with fail
  obtain ⟨m, hm0⟩ : ∃ m, 2 ^ b = m := ⟨_, rfl⟩
  rw [hm0] at hm
  refine (used_m g' b m r' _ (h'.drewN _) hm0).mono ?_
  have HM := Lib.hid hm0
  clear hm0
  rintro e w1 ⟨rfl, rfl⟩
  go_wp2_with fail
  have hG : w.grownBy (w.drewN nq) (some g) := only_drewN (only_refl _ _) _
  have hS : Sk (w.drewN nq) g b r := h.drewN _
  generalize w.drewN nq = wq at *
  go_loopw [19] (fun i wr => ∃ k : Nat, k ≤ m ∧ i = .int .i64 k ∧ Sk wr g b (mergeTo r r' k) ∧ w.grownBy wr (some g)) (fun i _ => m - (intOf i).toNat)
  case atStart => exact ⟨0, Nat.zero_le _, rfl, by rw [mergeTo_zero]; exact hS, hG⟩
  case round =>
    obtain ⟨k, hk, rfl, hSk, hGk⟩ := hrel
    by_cases hkm : k < m
    · have hT := Sk.grown hGk h' (by simp; omega)
      have hc := hT.cell k (by rw [HM.out]; exact hkm)
      have hv := h'.get k
      have hrl : k < r.length := by rw [h.len, HM.out]; exact hkm
      have hrl' : k < r'.length := by rw [h'.len, HM.out]; exact hkm
      have hra := raise_any g b (mergeTo r r' k) k (r'.getD k 0) wr hSk (by rw [HM.out]; exact hkm) hv.1 hv.2
      rw [mergeTo_get r r' k hrl hrl', mergeTo_succ r r' k hrl hrl'] at hra
      have HRA := Lib.hid hra
      clear hra
      generalize r'.getD k 0 = v at *
      have hk1 : (k : Int) < m := by omega
      go_wp2_with fail
      refine (HRA.out).mono ?_
      rintro e w2 ⟨rfl, hS2, hG2⟩
      go_wp2_with fail
      go_roundw
      case rel => exact ⟨k + 1, by omega, by go_num, hS2, only_trans hGk hG2⟩
      case measure => simp [intOf]; omega
    · go_wp2_with fail
      go_ret
      obtain rfl : k = m := by omega
      rw [mergeTo_all r r' k (by rw [h.len, HM.out]) (by rw [h'.len, HM.out])] at hSk
      exact ⟨rfl, hSk, hGk⟩

theorem set_self (r : List Int) (k : Nat) (hk : k < r.length) : r.set k (max (r.getD k 0) (r.getD k 0)) = r := by
  have e : max (r.getD k 0) (r.getD k 0) = r[k] := by simp [List.getD_eq_getElem?_getD, List.getElem?_eq_getElem hk]
  rw [e]
  exact List.set_getElem_self hk

set_option maxRecDepth 100000 in
set_option maxHeartbeats 1000000 in
theorem Merge_self (g b : Nat) (r : List Int) (w : World) (h : Sk w g b r) :
    Calls Tryd.prog 28 #[.pointer (some ⟨g, 0, none⟩), .pointer (some ⟨g, 0, none⟩)] w fun e w' => e = .returned (.int .i64 0) ∧ Sk w' g b r ∧ w.grownBy w' (some g) := by
  have c0 := h.cell0
  have hd : ((b : Int) == (b : Int)) = true := by simp
  have hd2 : ((b : Int) != (b : Int)) = false := by simp
  have hm : 2 ^ b ≤ 1024 := by have := Nat.pow_le_pow_right (n := 2) (by omega) h.hi; simpa using this
  go_enter Tryd.func28, Tryd.ntmps28
  go_wp2_with fail
  go_quiet (fail)
  go_wp2_with fail
  obtain ⟨m, hm0⟩ : ∃ m, 2 ^ b = m := ⟨_, rfl⟩
  rw [hm0] at hm
  refine (used_m g b m r _ (h.drewN _) hm0).mono ?_
  have HM := Lib.hid hm0
  clear hm0
  rintro e w1 ⟨rfl, rfl⟩
  go_wp2_with fail
  have hG : w.grownBy (w.drewN nq) (some g) := only_drewN (only_refl _ _) _
  have hS : Sk (w.drewN nq) g b r := h.drewN _
  generalize w.drewN nq = wq at *
  go_loopw [19] (fun i wr => ∃ k : Nat, k ≤ m ∧ i = .int .i64 k ∧ Sk wr g b r ∧ w.grownBy wr (some g)) (fun i _ => m - (intOf i).toNat)
  case atStart => exact ⟨0, Nat.zero_le _, rfl, hS, hG⟩
  case round =>
    obtain ⟨k, hk, rfl, hSk, hGk⟩ := hrel
    by_cases hkm : k < m
    · have hc := hSk.cell k (by rw [HM.out]; exact hkm)
      have hv := h.get k
      have hrl : k < r.length := by rw [h.len, HM.out]; exact hkm
      have hra := raise_any g b r k (r.getD k 0) wr hSk (by rw [HM.out]; exact hkm) hv.1 hv.2
      rw [set_self r k hrl] at hra
      have HRA := Lib.hid hra
      clear hra
      generalize r.getD k 0 = v at *
      have hk1 : (k : Int) < m := by omega
      go_wp2_with fail
      refine (HRA.out).mono ?_
      rintro e w2 ⟨rfl, hS2, hG2⟩
      go_wp2_with fail
      go_roundw
      case rel => exact ⟨k + 1, by omega, by go_num, hS2, only_trans hGk hG2⟩
      case measure => simp [intOf]; omega
    · go_wp2_with fail
      go_ret
      exact ⟨rfl, hSk, hGk⟩
end Go.Proofs.YtapiehddcdnadaaDoor

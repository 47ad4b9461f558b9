/- The texts near the edges. -/
import Derived.Test.YtoaohohnaifjdaaDoorLexN
namespace Go.Proofs.YtoaohohnaifjdaaDoor
open Go.RowKit
set_option linter.unusedVariables false
set_option linter.unusedSimpArgs false

theorem ints_nat {w : World} {a : Option Addr} {n : Nat} {xs : List Int} (h : Ints .u8 w a n xs) (i : Nat) (hi : i < n) : ∃ q : Nat, xs.getD i 0 = (q : Int) ∧ q ≤ 255 := by
  have hw := h.wf (xs.getD i 0) (by
    rw [List.getD_eq_getElem?_getD, List.getElem?_eq_getElem (by rw [h.len]; exact hi)]
    exact List.getElem_mem _)
  have hb := bounds_u8 hw
  obtain ⟨q, hq⟩ := Int.eq_ofNat_of_zero_le hb.1
  exact ⟨q, hq, by omega⟩
set_option maxRecDepth 100000 in
set_option maxHeartbeats 1000000 in
theorem near_call (a : Option Addr) (n c0 : Nat) (xs : List Int) (w : World) (h : Ints .u8 w a n xs) (hn : n ≤ 9223372036854775807) : Calls Tryd.prog 10 #[.slice a n c0] w fun e w' => ∃ z : ByteArray, e = .returned (.string z) ∧ z.size ≤ 60 ∧ Below w.heap.size w w' := by
  obtain ⟨i0, hi0, hz0, hz1, hz2⟩ := info_parts info_u8
  go_enter Tryd.func10, Tryd.ntmps10
  go_wp2_with fail
  go_loopw [3, 4] (fun v i wr => ∃ (k : Nat) (A : Option Addr) (c : Nat) (L : List UInt8), k ≤ n ∧ k ≤ 60 ∧ i = .int .i64 k ∧ v = .slice A k c ∧ Own .u8 5 wr w.heap.size A k c (bI L) ∧ Below w.heap.size w wr) (fun _ i _ => n - (intOf i).toNat)
  case atStart => exact ⟨0, none, 0, [], Nat.zero_le _, Nat.zero_le _, rfl, rfl, Own.nil, Below.refl _ _⟩
  case round =>
    obtain ⟨k, A, c, L, hk, h60, rfl, rfl, hO, hB⟩ := hrel
    have hBs := hB.size
    by_cases hc : k < n ∧ k < 60
    · obtain ⟨hlt, hlt6⟩ := hc
      have h1 : (k : Int) < n := by omega
      have h2 : (k : Int) < 60 := by omega
      obtain ⟨b, off, rfl, hb, hcell⟩ := h.at_ (by omega)
      obtain ⟨x, hx, hx255⟩ := ints_nat h k hlt
      have x0 := (hB.cell (p := ⟨b, off + k, none⟩) hb).trans (hcell k hlt)
      rw [hx] at x0
      obtain ⟨q, hq, hq12⟩ : ∃ q : Nat, (x : Int) % 12 = (q : Int) ∧ q < 12 := ⟨x % 12, by omega, by omega⟩
      have hqs : (q : Int) < 12 := by omega
      obtain ⟨v, hv⟩ : ∃ v : UInt8, ∀ h, (⟨#[97, 98, 44, 61, 32, 92, 10, 13, 35, 49, 127, 1]⟩ : ByteArray)[q]'h = v := ⟨(⟨#[97, 98, 44, 61, 32, 92, 10, 13, 35, 49, 127, 1]⟩ : ByteArray)[q]'hq12, fun _ => rfl⟩
      have hwf := byte_wf v
      clear hcell hx
      go_wp2_with (first
        | (at_builtin
           refine wpList_app _ rfl _ _ 22 rfl 5 i0 1 .u8 Tryd.underlying22 hi0 hz0 hz1 hz2 w.heap.size A k c _ (hO.step (balloc (Below.refl _ _) _)) rfl (some ⟨wr.heap.size, 0, none⟩) 1 1 [(v.toNat : Int)] (ints_one (Blk.new wr _ _) hwf) rfl (by omega) (by omega) (by simp; omega) ?_
           intro A1 c1 w4 hO1 hG1 hat1
           have b4 := (hO.step (balloc (Below.refl _ _) _)).below (balloc hB _) (by simp; omega) hG1))
      go_roundw
      case rel => exact ⟨k + 1, A1, c1, L ++ [v], by omega, by omega, by go_num, rfl, by rw [bI_app]; exact hO1, b4⟩
      case measure => simp [intOf]; omega
    · have hcv := conv_own hO
      have hL : (⟨L.toArray⟩ : ByteArray).size ≤ 60 := by
        have e1 : (⟨L.toArray⟩ : ByteArray).size = L.length := rfl
        have := hO.len
        rw [bI_len] at this
        omega
      have hend : (¬ (k : Int) < n) ∨ ((k : Int) < n ∧ ¬ (k : Int) < 60) := by omega
      rcases hend with c1 | ⟨c1, c2⟩
      all_goals
        go_wp2_with fail
        go_ret
        exact ⟨_, rfl, hL, hB⟩
end Go.Proofs.YtoaohohnaifjdaaDoor

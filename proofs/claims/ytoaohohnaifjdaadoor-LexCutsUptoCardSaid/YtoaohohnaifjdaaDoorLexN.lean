/- The document's reading: in, Plain, Escape; and the texts near the edges. -/
import Derived.Test.YtoaohohnaifjdaaDoorLexF
import Derived.Deep.CutBlock
import Derived.Deep.CutRange
namespace Go.Proofs.YtoaohohnaifjdaaDoor
open Go.RowKit
set_option linter.unusedVariables false
set_option linter.unusedSimpArgs false

theorem in_hit (s : ByteArray) (k : Nat) (h : k < s.size) (b : UInt8) (hb : s[k] = b) : inB s.data.toList b = true := by
  unfold inB
  rw [List.contains_iff_mem, ← hb, str_get s k h]
  exact List.getElem_mem _
theorem in_miss (s : ByteArray) (k : Nat) (h : k < s.size) (b : UInt8) (hb : s[k] ≠ b) (hp : inB (s.data.toList.take k) b = false) : inB (s.data.toList.take (k + 1)) b = false := by
  unfold inB at *
  rw [take_snocB s k h, List.contains_append, hp]
  simp only [Bool.false_or, List.contains_cons, List.contains_nil, Bool.or_false, beq_eq_false_iff_ne]
  exact fun e => hb e.symm
set_option maxHeartbeats 400000 in
theorem in_call (s : ByteArray) (b : UInt8) (w : World) (hs : s.size ≤ 9223372036854775806) : Calls Tryd.prog 25 #[.string s, .int .u8 (b.toNat : Int)] w fun e w' => e = .returned (.bool (inB s.data.toList b)) ∧ w = w' := by
  go_enter Tryd.func25, Tryd.ntmps25
  go_wp2_with fail
  go_loop [5] (fun i => ∃ k : Nat, k ≤ s.size ∧ i = .int .i64 k ∧ Hid (inB (s.data.toList.take k) b = false)) (fun i => s.size - (intOf i).toNat)
  case atStart => exact ⟨0, Nat.zero_le _, rfl, Lib.hid rfl⟩
  case round =>
    obtain ⟨k, hk, rfl, hp⟩ := hrel
    by_cases hlt : k < s.size
    · have h1 : (k : Int) < s.size := by omega
      by_cases he : s[k] = b
      · have hy := Lib.hid (in_hit s k hlt b he)
        have g1 : ((s[k].toNat : Int) == (b.toNat : Int)) = true := by rw [he]; simp
        clear he
        go_wp2_with fail
        go_ret
        exact ⟨ret_bool hy.out.symm, rfl⟩
      · have hn := Lib.hid (in_miss s k hlt b he hp.out)
        have g1 : ((s[k].toNat : Int) == (b.toNat : Int)) = false := by
          simp only [beq_eq_false_iff_ne, ne_eq, Int.natCast_inj]
          exact fun h => he (UInt8.toNat_inj.1 h)
        clear he
        go_wp2_with fail
        go_round
        case rel => exact ⟨k + 1, by omega, by go_num, hn⟩
        case measure => simp [intOf]; omega
    · obtain rfl : k = s.size := by omega
      have ht : Hid (inB s.data.toList b = false) := Lib.hid (by have := hp.out; rwa [List.take_of_length_le (by simp)] at this)
      go_wp2_with fail
      go_ret
      exact ⟨ret_bool ht.out.symm, rfl⟩

set_option maxHeartbeats 400000 in
theorem refPlain_call (s : ByteArray) (w : World) (hs : s.size ≤ 9223372036854775806) : Calls Tryd.prog 19 #[.string s] w fun e w' => e = .returned (.bool (plainL s.data.toList)) ∧ w = w' := by
  go_enter Tryd.func19, Tryd.ntmps19
  go_wp2_with fail
  go_loop [3] (fun i => ∃ k : Nat, k ≤ s.size ∧ i = .int .i64 k ∧ Hid (plainL (s.data.toList.take k) = true)) (fun i => s.size - (intOf i).toNat)
  case atStart => exact ⟨0, Nat.zero_le _, rfl, Lib.hid rfl⟩
  case round =>
    obtain ⟨k, hk, rfl, hp⟩ := hrel
    by_cases hlt : k < s.size
    · have h1 : (k : Int) < s.size := by omega
      have hb := str_get s k hlt
      have hkl : k < s.data.toList.length := by simpa using hlt
      have hyes : Hid (ctl s[k] = true → plainL s.data.toList = false) := Lib.hid (fun h => plain_hit k hkl (by rw [← hb]; exact h))
      have hno : Hid (ctl s[k] = false → plainL (s.data.toList.take (k + 1)) = true) := Lib.hid (fun h => plain_take k hkl hp.out (by rw [← hb]; exact h))
      clear hb
      by_cases hc1 : s[k].toNat < 32
      · have hy := Lib.hid (hyes.out (ctl_yes (.inl hc1)))
        have g1 : (s[k].toNat : Int) < 32 := by omega
        clear hyes hno hc1
        go_wp2_with fail
        go_ret
        exact ⟨ret_bool hy.out.symm, rfl⟩
      · have g1 : ¬ (s[k].toNat : Int) < 32 := by omega
        by_cases hc2 : s[k].toNat = 127
        · have hy := Lib.hid (hyes.out (ctl_yes (.inr hc2)))
          have g2 : ((s[k].toNat : Int) == 127) = true := by simp; omega
          clear hyes hno hc1 hc2
          go_wp2_with fail
          go_ret
          exact ⟨ret_bool hy.out.symm, rfl⟩
        · have hn := Lib.hid (hno.out (ctl_no hc1 hc2))
          have g2 : ((s[k].toNat : Int) == 127) = false := by simp; omega
          clear hyes hno hc1 hc2
          go_wp2_with fail
          go_round
          case rel => exact ⟨k + 1, by omega, by go_num, hn⟩
          case measure => simp [intOf]; omega
    · obtain rfl : k = s.size := by omega
      have ht : Hid (plainL s.data.toList = true) := Lib.hid (by have := hp.out; rwa [List.take_of_length_le (by simp)] at this)
      go_wp2_with fail
      go_ret
      exact ⟨ret_bool ht.out.symm, rfl⟩

theorem in_esc_call (b : UInt8) (w : World) : Calls Tryd.prog 25 #[.string ⟨#[44, 61, 32, 92]⟩, .int .u8 (b.toNat : Int)] w fun e w' => e = .returned (.bool (esc b)) ∧ w = w' := by
  have := in_call ⟨#[44, 61, 32, 92]⟩ b w (by decide)
  have e0 : inB (⟨#[44, 61, 32, 92]⟩ : ByteArray).data.toList b = esc b := in_esc b
  rw [e0] at this
  exact this
set_option maxRecDepth 100000 in
set_option maxHeartbeats 1000000 in
theorem refEscape_call (s : ByteArray) (w : World) (hs : s.size ≤ 1048576) : Calls Tryd.prog 17 #[.string s] w fun e w' => e = .returned (.string ⟨(escape s.data.toList).toArray⟩) ∧ Below w.heap.size w w' := by
  obtain ⟨i0, hi0, hz0, hz1, hz2⟩ := info_parts info_u8
  go_enter Tryd.func17, Tryd.ntmps17
  go_wp2_with fail
  go_loopw [3, 4] (fun v i wr => ∃ (k m : Nat) (A : Option Addr) (c : Nat), k ≤ s.size ∧ m ≤ 2 * k ∧ i = .int .i64 k ∧ v = .slice A m c ∧ Own .u8 5 wr w.heap.size A m c (bI (escape (s.data.toList.take k))) ∧ Below w.heap.size w wr) (fun _ i _ => s.size - (intOf i).toNat)
  case atStart => exact ⟨0, 0, none, 0, Nat.zero_le _, Nat.zero_le _, rfl, rfl, Own.nil, Below.refl _ _⟩
  case round =>
    obtain ⟨k, m, A, c, hk, hmk, rfl, rfl, hO, hB⟩ := hrel
    have hBs := hB.size
    by_cases hlt : k < s.size
    · have h1 : (k : Int) < s.size := by omega
      have HS := Lib.hid (take_snocB s k hlt)
      have hwf := byte_wf s[k]
      have HE := Lib.hid (fun W => in_esc_call s[k] W)
      have hwf9 : (Lit.int .u8 92).wf = true := by decide
      cases he : esc s[k]
      · have hn : Hid (bI (escape (s.data.toList.take (k + 1))) = bI (escape (s.data.toList.take k)) ++ [(s[k].toNat : Int)]) := Lib.hid (by rw [HS.out, escape_snoc, he]; simp [bI])
        clear HS
        go_upto_region 7 with (first | (go_at_call 25; refine (HE.out _).mono ?_; rw [he]; rintro e w' ⟨rfl, rfl⟩))
        clear HE he
        generalize bI (escape (s.data.toList.take k)) = L at *
        go_wp2_with (first
          | (at_builtin
             refine wpList_app _ rfl _ _ 22 rfl 5 i0 1 .u8 Tryd.underlying22 hi0 hz0 hz1 hz2 w.heap.size A m c _ (hO.step (balloc (Below.refl _ _) _)) rfl (some ⟨wr.heap.size, 0, none⟩) 1 1 [(s[k].toNat : Int)] (ints_one (Blk.new wr _ _) hwf) rfl (by omega) (by omega) (by simp; omega) ?_
             intro A1 c1 w4 hO1 hG1 hat1
             have b4 := (hO.step (balloc (Below.refl _ _) _)).below (balloc hB _) (by simp; omega) hG1))
        go_roundw
        case rel => exact ⟨k + 1, m + 1, A1, c1, by omega, by omega, by go_num, rfl, by rw [hn.out]; exact hO1, b4⟩
        case measure => simp [intOf]; omega
      · have hn : Hid (bI (escape (s.data.toList.take (k + 1))) = bI (escape (s.data.toList.take k)) ++ [(92 : Int)] ++ [(s[k].toNat : Int)]) := Lib.hid (by rw [HS.out, escape_snoc, he]; simp [bI])
        clear HS
        go_upto_region 6 with (first | (go_at_call 25; refine (HE.out _).mono ?_; rw [he]; rintro e w' ⟨rfl, rfl⟩))
        clear HE he
        generalize bI (escape (s.data.toList.take k)) = L at *
        go_upto_region 7 with (first
          | (at_builtin
             refine wpList_app _ rfl _ _ 22 rfl 5 i0 1 .u8 Tryd.underlying22 hi0 hz0 hz1 hz2 w.heap.size A m c _ (hO.step (balloc (Below.refl _ _) _)) rfl (some ⟨wr.heap.size, 0, none⟩) 1 1 [(92 : Int)] (ints_one (Blk.new wr _ _) hwf9) rfl (by omega) (by omega) (by simp; omega) ?_
             intro A1 c1 w4 hO1 hG1 hat1
             have b4 := (hO.step (balloc (Below.refl _ _) _)).below (balloc hB _) (by simp; omega) hG1))
        have hBs4 := b4.size
        clear hO hB hat1 hG1
        go_wp2_with (first
          | (at_builtin
             refine wpList_app _ rfl _ _ 22 rfl 5 i0 1 .u8 Tryd.underlying22 hi0 hz0 hz1 hz2 w.heap.size A1 (m + 1) c1 _ (hO1.step (balloc (Below.refl _ _) _)) rfl (some ⟨w4.heap.size, 0, none⟩) 1 1 [(s[k].toNat : Int)] (ints_one (Blk.new w4 _ _) hwf) rfl (by omega) (by omega) (by simp; omega) ?_
             intro A2 c2 w5 hO2 hG2 hat2
             have b5 := (hO1.step (balloc (Below.refl _ _) _)).below (balloc b4 _) (by simp; omega) hG2))
        go_roundw
        case rel => exact ⟨k + 1, m + 2, A2, c2, by omega, by omega, by go_num, rfl, by rw [hn.out]; exact hO2, b5⟩
        case measure => simp [intOf]; omega
    · have htk : Hid (s.data.toList.take k = s.data.toList) := Lib.hid (List.take_of_length_le (by simp; omega))
      have h1 : ¬ (k : Int) < s.size := by omega
      rw [htk.out] at hO
      have hcv := conv_own hO
      go_wp2_with fail
      go_ret
      exact ⟨rfl, hB⟩
end Go.Proofs.YtoaohohnaifjdaaDoor

/- The walk of TopLimits. -/
import Derived.Test.YtcbheekfdhklcaaTopMa
import Derived.Deep.OwnRows
namespace Go.Proofs.Ytcbheekfdhklcaa
open Go.RowKit
set_option linter.unusedVariables false
set_option linter.unusedSimpArgs false

theorem info_u8 : (Try.prog.info? 5).map (fun i => (i.zero, i.size, i.bytes)) = some (some (.int .u8 0), 1, 1) := by kernel_rfl
theorem info_u64 : (Try.prog.info? 28).map (fun i => (i.zero, i.size, i.bytes)) = some (some (.int .u64 0), 1, 8) := by kernel_rfl
theorem made_get (z : Value) (n i : Nat) (h : i < n) : (madeCells #[z] n)[i]? = some z := by
  have h1 : (madeCells #[z] n).toList = List.replicate n z := toList_madeCells_one _ _
  rw [← Array.getElem?_toList, h1]
  simp [h]
theorem conv_made (W : World) (n : Nat) : (convert 22 9 (.slice (some ⟨W.heap.size, 0, none⟩) n n)).run Try.prog (W.alloc (.cells (madeCells #[.int .u8 0] n) 5)) = .ok (.string (strOfNums (List.replicate n 0))) (W.alloc (.cells (madeCells #[.int .u8 0] n) 5)) :=
  run_convert_bytes_arg (P := Try.prog) _ 22 5 Try.underlying22 Try.underlying5 W.heap.size 0 n n (List.replicate n 0) (by simp) (fun i hi => by
    rw [Nat.zero_add]
    refine (Blk.new W 5 _).cellAt i ?_
    rw [made_get _ _ _ hi]
    simp [List.getD_eq_getElem?_getD, List.getElem?_replicate, hi]) 9 Try.underlying9
theorem addE_zeroby (seen : Nat) (nm : ByteArray) : addE seen nm 0 = 1 := by unfold addE; rw [if_pos (.inr rfl)]
theorem addE_long (seen : Nat) (nm : ByteArray) (b : Nat) (h : 64 < nm.size) : addE seen nm b = 1 := by unfold addE; rw [if_pos (.inl h)]
theorem addE_range (seen : Nat) (nm : ByteArray) (b : Nat) (h : nm.size ≤ 64) (h0 : b ≠ 0) (h2 : 4611686018427387904 - seen < b) : addE seen nm b = 7 := by
  unfold addE
  rw [if_neg (by rw [not_or]; exact ⟨by omega, h0⟩), if_pos h2]
theorem told_nil {s : List It} (h : Told [] s) : s = [] := List.Perm.eq_nil h.perm
theorem TM.cast {W w : World} {base g room seen seen' : Nat} {l : List It} (h : TM W base g room seen l w) (e : seen = seen') : TM W base g room seen' l w := e ▸ h

set_option maxRecDepth 100000 in
set_option maxHeartbeats 4000000 in
theorem topLimits_walk (room num size : Int) (w : World) (hr : 0 ≤ room ∧ room ≤ 255) (hn : 0 ≤ num ∧ num ≤ 18446744073709551615) (hs : 0 ≤ size ∧ size ≤ 255) :
    Calls Try.prog 5 #[.int .u8 room, .int .u64 num, .int .u8 size] w fun e w' => e = .returned (.bool true) ∧ Below w.heap.size w w' := by
  have r1 : (1 + room % 16 : Int) = ((1 + room.toNat % 16 : Nat) : Int) := by omega
  have r2 : (1 + num % 4611686018427387904 : Int) = ((1 + num.toNat % 4611686018427387904 : Nat) : Int) := by omega
  have r3 : (size % 71 : Int) = ((size.toNat % 71 : Nat) : Int) := by omega
  have hk1 : 1 ≤ 1 + room.toNat % 16 ∧ 1 + room.toNat % 16 ≤ 16 := by omega
  have hb1 : 1 ≤ 1 + num.toNat % 4611686018427387904 ∧ 1 + num.toNat % 4611686018427387904 ≤ 4611686018427387904 := by omega
  have hs1 : size.toNat % 71 ≤ 70 := by omega
  generalize 1 + room.toNat % 16 = k at *
  generalize 1 + num.toNat % 4611686018427387904 = b at *
  generalize size.toNat % 71 = z at *
  obtain ⟨b2, hb2⟩ : ∃ b2, 4611686018427387904 - b = b2 := ⟨_, rfl⟩
  have q1 : (4611686018427387904 : Int) - b = (b2 : Int) := by omega
  have q2 : IntKind.u64.wrap ((b2 : Int) + 1) = ((b2 + 1 : Nat) : Int) := by simp [IntKind.wrap, IntKind.bits, IntKind.signed]; omega
  have q3 : IntKind.u64.wrap (b2 : Int) = (b2 : Int) := by simp [IntKind.wrap, IntKind.bits, IntKind.signed]; omega
  have hmk := run_make_row' (P := Try.prog) 22 5 (.int .u8 0) 1 Try.underlying22 info_u8 rfl .i64 .i64 z (by omega) (by omega)
  have hcv := fun W => conv_made W z
  have hS : (strOfNums (List.replicate z 0)).size = z := by rw [strOfNums_size]; simp
  generalize strOfNums (List.replicate z 0) = S at *
  generalize madeCells #[Value.int .u8 0] z = Z at *
  go_enter Try.func5, Try.ntmps5
  go_wp2_with fail
  refine (examples_any w).mono ?_
  rintro e w1 ⟨rfl, c1⟩
  go_wp2_with fail
  refine (tm_new (W := w) (base := w.heap.size) k hk1.1 hk1.2 c1 (Nat.le_refl _)).mono ?_
  rintro e w2 ⟨rfl, T2, _⟩
  generalize w1.heap.size = g at *
  go_wp2_with fail
  have T3 := T2.alloc (.cells Z 5)
  by_cases h64 : 64 < z
  · have e1 := addE_long 0 S b (by omega)
    refine (tm_add S b (by omega) (by omega) T3).mono ?_
    rintro e w4 ⟨rfl, T4, _⟩
    rw [e1]
    have s1 : stepS 0 S b = 0 := if_neg (by omega)
    rw [s1] at T4
    generalize stepT k 0 [] S b = L4 at *
    have e2 : addE 0 ⟨#[120]⟩ (b2 + 1) = 0 := addE_ok (by decide) (by omega) (by omega)
    go_wp2_with fail
    refine (tm_add ⟨#[120]⟩ (b2 + 1) (by omega) (by decide) T4).mono ?_
    rintro e w5 ⟨rfl, T5, _⟩
    rw [e2]
    have s2 : stepS 0 ⟨#[120]⟩ (b2 + 1) = b2 + 1 := by unfold stepS; rw [if_pos e2]; omega
    rw [s2] at T5
    generalize stepT k 0 L4 ⟨#[120]⟩ (b2 + 1) = L5 at *
    go_wp2_with fail
    refine (tm_add ⟨#[120]⟩ 0 (by omega) (by decide) T5).mono ?_
    rintro e w6 ⟨rfl, T6, _⟩
    rw [addE_zeroby]
    have s3 : stepS (b2 + 1) ⟨#[120]⟩ 0 = b2 + 1 := if_neg (by rw [addE_zeroby]; omega)
    rw [s3] at T6
    generalize stepT k (b2 + 1) L5 ⟨#[120]⟩ 0 = L6 at *
    have z1 : (64 : Int) < z := by omega
    go_wp2_with (first | (go_at_call 13; refine (tm_seen T6).mono ?_; rintro e w9 ⟨rfl, rfl⟩))
    go_ret
    exact ⟨by simp, T6.below⟩
  · have e1 : addE 0 S b = 0 := addE_ok (by omega) (by omega) (by omega)
    refine (tm_add S b (by omega) (by omega) T3).mono ?_
    rintro e w4 ⟨rfl, T4, _⟩
    rw [e1]
    have s1 : stepS 0 S b = b := by unfold stepS; rw [if_pos e1]; omega
    rw [s1] at T4
    generalize stepT k 0 [] S b = L4 at *
    have e2 : addE b ⟨#[120]⟩ (b2 + 1) = 7 := addE_range _ _ _ (by decide) (by omega) (by omega)
    go_wp2_with fail
    refine (tm_add ⟨#[120]⟩ (b2 + 1) (by omega) (by decide) T4).mono ?_
    rintro e w5 ⟨rfl, T5, _⟩
    rw [e2]
    have s2 : stepS b ⟨#[120]⟩ (b2 + 1) = b := if_neg (by omega)
    rw [s2] at T5
    generalize stepT k b L4 ⟨#[120]⟩ (b2 + 1) = L5 at *
    go_wp2_with fail
    refine (tm_add ⟨#[120]⟩ 0 (by omega) (by decide) T5).mono ?_
    rintro e w6 ⟨rfl, T6, _⟩
    rw [addE_zeroby]
    have s3 : stepS b ⟨#[120]⟩ 0 = b := if_neg (by rw [addE_zeroby]; omega)
    rw [s3] at T6
    generalize stepT k b L5 ⟨#[120]⟩ 0 = L6 at *
    have z1 : ¬ (64 : Int) < z := by omega
    go_wp2_with fail
    refine (tm_add ⟨#[121]⟩ b2 (by omega) (by decide) T6).mono ?_
    rintro e w7 ⟨rfl, T7, _⟩
    generalize stepT k b L6 ⟨#[121]⟩ b2 = L7 at *
    generalize stepS b ⟨#[121]⟩ b2 = s7 at *
    have hE : addE b ⟨#[121]⟩ b2 = if b2 = 0 then 1 else 0 := by
      by_cases h0 : b2 = 0
      · subst h0; rw [addE_zeroby]; rfl
      · rw [if_neg h0]; exact addE_ok (by decide) h0 (by omega)
    by_cases h0 : b2 = 0
    · rw [hE, if_pos h0]
      have h0' : ((b2 : Int) == 0) = true := by simp [h0]
      go_wp2_with fail
      refine (tm_clear T7).mono ?_
      rintro e w8 ⟨rfl, T8, _⟩
      go_wp2_with (first
        | (go_at_call 13; refine (tm_seen T8).mono ?_; rintro e w9 ⟨rfl, rfl⟩)
        | (go_at_call 12; refine (tm_items T8).mono ?_; rintro e w10 ⟨A', m, c', s, rfl, hT, hI, T9, _⟩; have hm := hI.len; rw [told_nil hT] at hm; have hm0 : m = 0 := hm.symm; subst hm0)
        | (go_at_call 14; refine (tm_least T9).mono ?_; rintro e w11 ⟨rfl, T10, _⟩; have hL0 : leastT k [] = 0 := if_pos (by simp; omega); rw [hL0]))
      go_ret
      exact ⟨by simp, T10.below⟩
    · rw [hE, if_neg h0]
      have h0' : ((b2 : Int) == 0) = false := by simp; omega
      go_wp2_with fail
      refine (tm_clear T7).mono ?_
      rintro e w8 ⟨rfl, T8, _⟩
      go_wp2_with (first
        | (go_at_call 13; refine (tm_seen T8).mono ?_; rintro e w9 ⟨rfl, rfl⟩)
        | (go_at_call 12; refine (tm_items T8).mono ?_; rintro e w10 ⟨A', m, c', s, rfl, hT, hI, T9, _⟩; have hm := hI.len; rw [told_nil hT] at hm; have hm0 : m = 0 := hm.symm; subst hm0)
        | (go_at_call 14; refine (tm_least T9).mono ?_; rintro e w11 ⟨rfl, T10, _⟩; have hL0 : leastT k [] = 0 := if_pos (by simp; omega); rw [hL0]))
      go_ret
      exact ⟨by simp, T10.below⟩
theorem topLimits_row (room num size : Int) (w : World) (h1 : (Lit.int .u8 room).wf = true) (h2 : (Lit.int .u64 num).wf = true) (h3 : (Lit.int .u8 size).wf = true) :
    Calls Try.prog 5 #[.int .u8 room, .int .u64 num, .int .u8 size] w fun e w' => e = .returned (.bool true) ∧ Below w.heap.size w w' :=
  topLimits_walk room num size w (bounds_u8 h1) (by have := bounds_u64 h2; omega) (bounds_u8 h3)
end Go.Proofs.Ytcbheekfdhklcaa

/- The chapter's examples are so. -/
import Derived.Test.YtcbheekfdhklcaaTopJ
namespace Go.Proofs.Ytcbheekfdhklcaa
open Go.RowKit
set_option linter.unusedVariables false
set_option linter.unusedSimpArgs false
attribute [local go_sem high] eqI

set_option maxRecDepth 100000 in
set_option maxHeartbeats 2000000 in
theorem examples_any (w : World) : Calls Try.prog 9 #[] w fun e w' => e = .returned (.bool true) ∧ Below w.heap.size w w' := by
  obtain ⟨a1, a2, a3, a4⟩ := ex_steps
  obtain ⟨l1, l2, l3, l4⟩ := ex_list
  have s1 : stepS 0 ⟨#[97]⟩ 3 = 3 := rfl
  have s2 : stepS 3 ⟨#[98]⟩ 1 = 4 := rfl
  have s3 : stepS 4 ⟨#[99]⟩ 1 = 5 := rfl
  have hg := guardI
  go_enter Try.func9, Try.ntmps9
  go_wp2_with fail
  refine (new_no 0 (by omega) _).mono ?_
  rintro e w1 ⟨rfl, rfl⟩
  go_wp2_with fail
  refine (tm_new (W := w1) (base := w1.heap.size) 2 (by omega) (by omega) (Below.refl _ _) (Nat.le_refl _)).mono ?_
  rintro e w2 ⟨rfl, T2, _⟩
  generalize hgg : w1.heap.size = g at *
  go_wp2_with fail
  refine (tm_add ⟨#[97]⟩ 3 (by omega) (by decide) T2).mono ?_
  rintro e w3 ⟨rfl, T3, _⟩
  rw [a1]
  rw [l1, s1] at T3
  go_wp2_with fail
  refine (tm_add ⟨#[98]⟩ 1 (by omega) (by decide) T3).mono ?_
  rintro e w4 ⟨rfl, T4, _⟩
  rw [a2]
  rw [l2, s2] at T4
  go_wp2_with fail
  refine (tm_add ⟨#[99]⟩ 1 (by omega) (by decide) T4).mono ?_
  rintro e w5 ⟨rfl, T5, _⟩
  rw [a3]
  rw [l3, s3] at T5
  go_wp2_with fail
  refine (tm_items T5).mono ?_
  rintro e w6 ⟨A', n', c', s, rfl, hT, hI, T6, hB6⟩
  have hs := ex_told hT
  subst hs
  have hn : n' = 2 := by rw [← hI.len]; rfl
  subst hn
  obtain ⟨r, rfl, hr0, hr1, hrc, hcell⟩ := hI.row (by omega)
  have x0 : w6.cell? ⟨r, 0, none⟩ = some (.string ⟨#[97]⟩) := (hcell 0 (by omega)).1
  have x1 : w6.cell? ⟨r, 1, none⟩ = some (.int .u64 3) := (hcell 0 (by omega)).2.1
  have x2 : w6.cell? ⟨r, 2, none⟩ = some (.int .u64 0) := (hcell 0 (by omega)).2.2
  have y0 : w6.cell? ⟨r, 3, none⟩ = some (.string ⟨#[99]⟩) := (hcell 1 (by omega)).1
  have y1 : w6.cell? ⟨r, 4, none⟩ = some (.int .u64 2) := (hcell 1 (by omega)).2.1
  have y2 : w6.cell? ⟨r, 5, none⟩ = some (.int .u64 1) := (hcell 1 (by omega)).2.2
  clear hcell hT hI a1 a2 a3 l1 l2 l3 s1 s2 s3 T2 T3 T4 T5
  go_wp2_with fail
  refine (tm_seen T6).mono ?_
  rintro e w7 ⟨rfl, rfl⟩
  go_wp2_with fail
  refine (tm_least T6).mono ?_
  rintro e w8 ⟨rfl, T8, _⟩
  rw [l4]
  go_wp2_with fail
  refine (tm_add ⟨#[97]⟩ 0 (by omega) (by decide) T8).mono ?_
  rintro e w9 ⟨rfl, T9, _⟩
  rw [a4]
  go_wp2_with fail
  go_ret
  exact ⟨rfl, by rw [hgg]; exact T9.below⟩
end Go.Proofs.Ytcbheekfdhklcaa

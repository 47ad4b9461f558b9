/- The sum of a text. sip's mix. sip's Sum. -/
import Derived.Test.YtapiehddcdnadaaGreatDoorProg
import Derived.Test.YtapiehddcdnadaaGreatDoorM1
import Derived.Lib.Hide
import Derived.StillTailTactics
import Derived.Deep.CutBlock
import Derived.Deep.CutRange
import Derived.OpenShut
namespace Go.Proofs.YtapiehddcdnadaaGreatDoor
open Go.RowKit
set_option linter.unusedVariables false
set_option linter.unusedSimpArgs false

def rotI (k x : Int) : Int := bits .or .u64 (IntKind.u64.wrap (x * 2 ^ k.toNat)) (x / 2 ^ (64 - k).toNat)
theorem rot_any (x k : Int) (w : World) (h0 : 0 < k) (h1 : k < 64) (hk : bits .and .u64 k 63 = k) : Calls Tryz.prog 94 #[.int .u64 x, .int .i64 k] w fun e w' => e = .returned (.int .u64 (rotI k x)) ∧ w = w' := by
  go_enter Tryz.func94, Tryz.ntmps94
  go_wp2_with fail
  go_ret
  exact ⟨rfl, rfl⟩
/-- The four words. -/
structure Sip where
  a : Int
  b : Int
  c : Int
  d : Int
def Sip.cells (s : Sip) : Array Value := #[.int .u64 s.a, .int .u64 s.b, .int .u64 s.c, .int .u64 s.d]
def Sip.round (s : Sip) : Sip :=
  let a1 := IntKind.u64.wrap (s.a + s.b)
  let c1 := IntKind.u64.wrap (s.c + s.d)
  let b1 := bits .xor .u64 (rotI 13 s.b) a1
  let d1 := bits .xor .u64 (rotI 16 s.d) c1
  let a2 := rotI 32 a1
  let c2 := IntKind.u64.wrap (c1 + b1)
  let a3 := IntKind.u64.wrap (a2 + d1)
  ⟨a3, bits .xor .u64 (rotI 17 b1) c2, rotI 32 c2, bits .xor .u64 (rotI 21 d1) a3⟩
theorem grown_put {W w : World} {g i : Nat} {u : Value} (h : W.grownBy w (some g)) : W.grownBy (w.setCell ⟨g, i, none⟩ u) (some g) := only_setCell h (.inl rfl) u
theorem grown_drew {W w : World} {g : Nat} (h : W.grownBy w (some g)) : W.grownBy w.drew (some g) := ⟨h.os, h.tape, h.output, h.size, h.block⟩
set_option maxRecDepth 100000 in
set_option maxHeartbeats 4000000 in
theorem round_call (g : Nat) (s : Sip) (w : World) (hB : Blk w g 134 s.cells) : Calls Tryz.prog 79 #[.pointer (some ⟨g, 0, none⟩)] w fun e w' => e = .returned (.tuple #[]) ∧ Blk w' g 134 s.round.cells ∧ w.grownBy w' (some g) := by
  obtain ⟨a, b, c, d⟩ := s
  have hG : w.grownBy w (some g) := only_refl _ _
  replace hB : Blk w g 134 #[.int .u64 a, .int .u64 b, .int .u64 c, .int .u64 d] := hB
  obtain ⟨a0, ha0⟩ : ∃ x, x = IntKind.u64.wrap (a + b) := ⟨_, rfl⟩
  obtain ⟨c1, hc1⟩ : ∃ x, x = IntKind.u64.wrap (c + d) := ⟨_, rfl⟩
  obtain ⟨b2, hb2⟩ : ∃ x, x = bits .xor .u64 (rotI 13 b) a0 := ⟨_, rfl⟩
  obtain ⟨d3, hd3⟩ : ∃ x, x = bits .xor .u64 (rotI 16 d) c1 := ⟨_, rfl⟩
  obtain ⟨a4, ha4⟩ : ∃ x, x = rotI 32 a0 := ⟨_, rfl⟩
  obtain ⟨c5, hc5⟩ : ∃ x, x = IntKind.u64.wrap (c1 + b2) := ⟨_, rfl⟩
  obtain ⟨a6, ha6⟩ : ∃ x, x = IntKind.u64.wrap (a4 + d3) := ⟨_, rfl⟩
  obtain ⟨b7, hb7⟩ : ∃ x, x = bits .xor .u64 (rotI 17 b2) c5 := ⟨_, rfl⟩
  obtain ⟨d8, hd8⟩ : ∃ x, x = bits .xor .u64 (rotI 21 d3) a6 := ⟨_, rfl⟩
  obtain ⟨c9, hc9⟩ : ∃ x, x = rotI 32 c5 := ⟨_, rfl⟩
  have HV : Hid ((Sip.mk a b c d).round.cells = #[.int .u64 a6, .int .u64 b7, .int .u64 c9, .int .u64 d8]) := Lib.hid (by subst ha0 hc1 hb2 hd3 ha4 hc5 ha6 hb7 hd8 hc9; rfl)
  generalize (Sip.mk a b c d).round.cells = RC at *
  go_enter Tryz.func79, Tryz.ntmps79
  go_wp2_with fail
  have k0 := hB.cellAt 0 rfl
  have k1 := hB.cellAt 1 rfl
  have k2 := hB.cellAt 2 rfl
  have k3 := hB.cellAt 3 rfl
  have kf := hB.frozen
  have kl := hB.lt
  go_cut [0] from 2 (fun x wx => x = .pointer (some ⟨g, 0, none⟩) ∧ Blk wx g 134 #[.int .u64 a0, .int .u64 b, .int .u64 c, .int .u64 d] ∧ w.grownBy wx (some g))
  case first =>
    refine wp_region_still_tail 11 (by kernel_rfl) (by kernel_rfl) ?_
    simp only [List.take_succ_cons, List.take_zero, List.drop_succ_cons, List.drop_zero]
    repeat (first | still_step)
    try refine wpStill_nil ?_
    all_goals
      go_wp2_with fail
      go_meet
      (try rw [← ha0])
      refine ⟨rfl, ?_, ?_⟩
      · first | exact (hB.put 0 _) | exact (hB.put 0 _).drew
      · first | exact grown_drew (grown_put hG) | exact grown_put (grown_drew hG)
  clear hB hG k0 k1 k2 k3 kf kl ha0
  obtain ⟨rfl, hB, hG⟩ := hcut
  go_upto_region 1 with fail
  have k0 := hB.cellAt 0 rfl
  have k1 := hB.cellAt 1 rfl
  have k2 := hB.cellAt 2 rfl
  have k3 := hB.cellAt 3 rfl
  have kf := hB.frozen
  have kl := hB.lt
  go_cut [0] from 2 (fun x wx => x = .pointer (some ⟨g, 0, none⟩) ∧ Blk wx g 134 #[.int .u64 a0, .int .u64 b, .int .u64 c1, .int .u64 d] ∧ w.grownBy wx (some g))
  case first =>
    refine wp_region_still_tail 11 (by kernel_rfl) (by kernel_rfl) ?_
    simp only [List.take_succ_cons, List.take_zero, List.drop_succ_cons, List.drop_zero]
    repeat (first | still_step)
    try refine wpStill_nil ?_
    all_goals
      go_wp2_with fail
      go_meet
      (try rw [← hc1])
      refine ⟨rfl, ?_, ?_⟩
      · first | exact (hB.put 2 _) | exact (hB.put 2 _).drew
      · first | exact grown_drew (grown_put hG) | exact grown_put (grown_drew hG)
  clear hB hG k0 k1 k2 k3 kf kl hc1
  obtain ⟨rfl, hB, hG⟩ := hcut
  go_upto_region 2 with fail
  have k0 := hB.cellAt 0 rfl
  have k1 := hB.cellAt 1 rfl
  have k2 := hB.cellAt 2 rfl
  have k3 := hB.cellAt 3 rfl
  have kf := hB.frozen
  have kl := hB.lt
  have HR := Lib.hid (fun W => rot_any b 13 W (by omega) (by omega) (by decide))
  go_cut [0] from 2 (fun x wx => x = .pointer (some ⟨g, 0, none⟩) ∧ Blk wx g 134 #[.int .u64 a0, .int .u64 b2, .int .u64 c1, .int .u64 d] ∧ w.grownBy wx (some g))
  case first =>
    refine wp_region_still_tail 13 (by kernel_rfl) (by kernel_rfl) ?_
    simp only [List.take_succ_cons, List.take_zero, List.drop_succ_cons, List.drop_zero]
    repeat (first | still_step | still_call ((HR.out _).mono (fun e w' h => ⟨h.1, h.2.symm⟩)))
    try refine wpStill_nil ?_
    all_goals
      go_wp2_with fail
      go_meet
      (try rw [← hb2])
      refine ⟨rfl, ?_, ?_⟩
      · first | exact (hB.put 1 _) | exact (hB.put 1 _).drew
      · first | exact grown_drew (grown_put hG) | exact grown_put (grown_drew hG)
  clear hB hG k0 k1 k2 k3 kf kl hb2 HR
  obtain ⟨rfl, hB, hG⟩ := hcut
  go_upto_region 3 with fail
  have k0 := hB.cellAt 0 rfl
  have k1 := hB.cellAt 1 rfl
  have k2 := hB.cellAt 2 rfl
  have k3 := hB.cellAt 3 rfl
  have kf := hB.frozen
  have kl := hB.lt
  have HR := Lib.hid (fun W => rot_any d 16 W (by omega) (by omega) (by decide))
  go_cut [0] from 2 (fun x wx => x = .pointer (some ⟨g, 0, none⟩) ∧ Blk wx g 134 #[.int .u64 a0, .int .u64 b2, .int .u64 c1, .int .u64 d3] ∧ w.grownBy wx (some g))
  case first =>
    refine wp_region_still_tail 13 (by kernel_rfl) (by kernel_rfl) ?_
    simp only [List.take_succ_cons, List.take_zero, List.drop_succ_cons, List.drop_zero]
    repeat (first | still_step | still_call ((HR.out _).mono (fun e w' h => ⟨h.1, h.2.symm⟩)))
    try refine wpStill_nil ?_
    all_goals
      go_wp2_with fail
      go_meet
      (try rw [← hd3])
      refine ⟨rfl, ?_, ?_⟩
      · first | exact (hB.put 3 _) | exact (hB.put 3 _).drew
      · first | exact grown_drew (grown_put hG) | exact grown_put (grown_drew hG)
  clear hB hG k0 k1 k2 k3 kf kl hd3 HR
  obtain ⟨rfl, hB, hG⟩ := hcut
  go_upto_region 4 with fail
  have k0 := hB.cellAt 0 rfl
  have k1 := hB.cellAt 1 rfl
  have k2 := hB.cellAt 2 rfl
  have k3 := hB.cellAt 3 rfl
  have kf := hB.frozen
  have kl := hB.lt
  have HR := Lib.hid (fun W => rot_any a0 32 W (by omega) (by omega) (by decide))
  go_cut [0] from 2 (fun x wx => x = .pointer (some ⟨g, 0, none⟩) ∧ Blk wx g 134 #[.int .u64 a4, .int .u64 b2, .int .u64 c1, .int .u64 d3] ∧ w.grownBy wx (some g))
  case first =>
    refine wp_region_still_tail 8 (by kernel_rfl) (by kernel_rfl) ?_
    simp only [List.take_succ_cons, List.take_zero, List.drop_succ_cons, List.drop_zero]
    repeat (first | still_step | still_call ((HR.out _).mono (fun e w' h => ⟨h.1, h.2.symm⟩)))
    try refine wpStill_nil ?_
    all_goals
      go_wp2_with fail
      go_meet
      (try rw [← ha4])
      refine ⟨rfl, ?_, ?_⟩
      · first | exact (hB.put 0 _) | exact (hB.put 0 _).drew
      · first | exact grown_drew (grown_put hG) | exact grown_put (grown_drew hG)
  clear hB hG k0 k1 k2 k3 kf kl ha4 HR
  obtain ⟨rfl, hB, hG⟩ := hcut
  go_upto_region 5 with fail
  have k0 := hB.cellAt 0 rfl
  have k1 := hB.cellAt 1 rfl
  have k2 := hB.cellAt 2 rfl
  have k3 := hB.cellAt 3 rfl
  have kf := hB.frozen
  have kl := hB.lt
  go_cut [0] from 2 (fun x wx => x = .pointer (some ⟨g, 0, none⟩) ∧ Blk wx g 134 #[.int .u64 a4, .int .u64 b2, .int .u64 c5, .int .u64 d3] ∧ w.grownBy wx (some g))
  case first =>
    refine wp_region_still_tail 11 (by kernel_rfl) (by kernel_rfl) ?_
    simp only [List.take_succ_cons, List.take_zero, List.drop_succ_cons, List.drop_zero]
    repeat (first | still_step)
    try refine wpStill_nil ?_
    all_goals
      go_wp2_with fail
      go_meet
      (try rw [← hc5])
      refine ⟨rfl, ?_, ?_⟩
      · first | exact (hB.put 2 _) | exact (hB.put 2 _).drew
      · first | exact grown_drew (grown_put hG) | exact grown_put (grown_drew hG)
  clear hB hG k0 k1 k2 k3 kf kl hc5
  obtain ⟨rfl, hB, hG⟩ := hcut
  go_upto_region 6 with fail
  have k0 := hB.cellAt 0 rfl
  have k1 := hB.cellAt 1 rfl
  have k2 := hB.cellAt 2 rfl
  have k3 := hB.cellAt 3 rfl
  have kf := hB.frozen
  have kl := hB.lt
  go_cut [0] from 2 (fun x wx => x = .pointer (some ⟨g, 0, none⟩) ∧ Blk wx g 134 #[.int .u64 a6, .int .u64 b2, .int .u64 c5, .int .u64 d3] ∧ w.grownBy wx (some g))
  case first =>
    refine wp_region_still_tail 11 (by kernel_rfl) (by kernel_rfl) ?_
    simp only [List.take_succ_cons, List.take_zero, List.drop_succ_cons, List.drop_zero]
    repeat (first | still_step)
    try refine wpStill_nil ?_
    all_goals
      go_wp2_with fail
      go_meet
      (try rw [← ha6])
      refine ⟨rfl, ?_, ?_⟩
      · first | exact (hB.put 0 _) | exact (hB.put 0 _).drew
      · first | exact grown_drew (grown_put hG) | exact grown_put (grown_drew hG)
  clear hB hG k0 k1 k2 k3 kf kl ha6
  obtain ⟨rfl, hB, hG⟩ := hcut
  go_upto_region 7 with fail
  have k0 := hB.cellAt 0 rfl
  have k1 := hB.cellAt 1 rfl
  have k2 := hB.cellAt 2 rfl
  have k3 := hB.cellAt 3 rfl
  have kf := hB.frozen
  have kl := hB.lt
  have HR := Lib.hid (fun W => rot_any b2 17 W (by omega) (by omega) (by decide))
  go_cut [0] from 2 (fun x wx => x = .pointer (some ⟨g, 0, none⟩) ∧ Blk wx g 134 #[.int .u64 a6, .int .u64 b7, .int .u64 c5, .int .u64 d3] ∧ w.grownBy wx (some g))
  case first =>
    refine wp_region_still_tail 13 (by kernel_rfl) (by kernel_rfl) ?_
    simp only [List.take_succ_cons, List.take_zero, List.drop_succ_cons, List.drop_zero]
    repeat (first | still_step | still_call ((HR.out _).mono (fun e w' h => ⟨h.1, h.2.symm⟩)))
    try refine wpStill_nil ?_
    all_goals
      go_wp2_with fail
      go_meet
      (try rw [← hb7])
      refine ⟨rfl, ?_, ?_⟩
      · first | exact (hB.put 1 _) | exact (hB.put 1 _).drew
      · first | exact grown_drew (grown_put hG) | exact grown_put (grown_drew hG)
  clear hB hG k0 k1 k2 k3 kf kl hb7 HR
  obtain ⟨rfl, hB, hG⟩ := hcut
  go_upto_region 8 with fail
  have k0 := hB.cellAt 0 rfl
  have k1 := hB.cellAt 1 rfl
  have k2 := hB.cellAt 2 rfl
  have k3 := hB.cellAt 3 rfl
  have kf := hB.frozen
  have kl := hB.lt
  have HR := Lib.hid (fun W => rot_any d3 21 W (by omega) (by omega) (by decide))
  go_cut [0] from 2 (fun x wx => x = .pointer (some ⟨g, 0, none⟩) ∧ Blk wx g 134 #[.int .u64 a6, .int .u64 b7, .int .u64 c5, .int .u64 d8] ∧ w.grownBy wx (some g))
  case first =>
    refine wp_region_still_tail 13 (by kernel_rfl) (by kernel_rfl) ?_
    simp only [List.take_succ_cons, List.take_zero, List.drop_succ_cons, List.drop_zero]
    repeat (first | still_step | still_call ((HR.out _).mono (fun e w' h => ⟨h.1, h.2.symm⟩)))
    try refine wpStill_nil ?_
    all_goals
      go_wp2_with fail
      go_meet
      (try rw [← hd8])
      refine ⟨rfl, ?_, ?_⟩
      · first | exact (hB.put 3 _) | exact (hB.put 3 _).drew
      · first | exact grown_drew (grown_put hG) | exact grown_put (grown_drew hG)
  clear hB hG k0 k1 k2 k3 kf kl hd8 HR
  obtain ⟨rfl, hB, hG⟩ := hcut
  go_upto_region 9 with fail
  have k0 := hB.cellAt 0 rfl
  have k1 := hB.cellAt 1 rfl
  have k2 := hB.cellAt 2 rfl
  have k3 := hB.cellAt 3 rfl
  have kf := hB.frozen
  have kl := hB.lt
  have HR := Lib.hid (fun W => rot_any c5 32 W (by omega) (by omega) (by decide))
  refine wp_region_still_tail 8 (by kernel_rfl) (by kernel_rfl) ?_
  simp only [List.take_succ_cons, List.take_zero, List.drop_succ_cons, List.drop_zero]
  repeat (first | still_step | still_call ((HR.out _).mono (fun e w' h => ⟨h.1, h.2.symm⟩)))
  try refine wpStill_nil ?_
  go_wp2_with fail
  go_end0
  (try rw [← hc9])
  refine ⟨rfl, ?_, ?_⟩
  · rw [HV.out]; first | exact (hB.put 2 _) | exact (hB.put 2 _).drew
  · first | exact grown_drew (grown_put hG) | exact grown_put (grown_drew hG)
end Go.Proofs.YtapiehddcdnadaaGreatDoor
namespace Go.Proofs.YtapiehddcdnadaaGreatDoor
open Go.RowKit
set_option linter.unusedVariables false
set_option linter.unusedSimpArgs false

def Sip.rounds (s : Sip) : Nat → Sip
  | 0 => s
  | k + 1 => (s.rounds k).round
def Sip.mixD (s : Sip) (m : Int) : Sip := ⟨s.a, s.b, s.c, bits .xor .u64 s.d m⟩
def Sip.mixA (s : Sip) (m : Int) : Sip := ⟨bits .xor .u64 s.a m, s.b, s.c, s.d⟩
def Sip.mix (s : Sip) (m : Int) : Sip := ((s.mixD m).rounds 2).mixA m
set_option maxRecDepth 100000 in
set_option maxHeartbeats 2000000 in
theorem mix_call (g : Nat) (s : Sip) (m : Int) (w : World) (hB : Blk w g 134 s.cells) : Calls Tryz.prog 78 #[.pointer (some ⟨g, 0, none⟩), .int .u64 m] w fun e w' => e = .returned (.tuple #[]) ∧ Blk w' g 134 (s.mix m).cells ∧ w.grownBy w' (some g) := by
  have hG : w.grownBy w (some g) := only_refl _ _
  have HM : Hid ((s.mix m).cells = (((s.mixD m).rounds 2).mixA m).cells) := Lib.hid rfl
  generalize (s.mix m).cells = RC at *
  have HD : Hid (∀ W : World, Blk W g 134 s.cells → Blk (W.setCell ⟨g, 3, none⟩ (.int .u64 (bits .xor .u64 s.d m))) g 134 (s.mixD m).cells) := Lib.hid (fun W h => h.put 3 _)
  have k3 : w.cell? ⟨g, 3, none⟩ = some (.int .u64 s.d) := hB.cellAt 3 rfl
  have kf := hB.frozen
  have kl := hB.lt
  generalize s.mixD m = s1 at *
  go_enter Tryz.func78, Tryz.ntmps78
  go_wp2_with fail
  go_cut [0] from 2 (fun x wx => x = .pointer (some ⟨g, 0, none⟩) ∧ Blk wx g 134 s1.cells ∧ w.grownBy wx (some g))
  case first =>
    refine wp_region_still_tail 8 (by kernel_rfl) (by kernel_rfl) ?_
    simp only [List.take_succ_cons, List.take_zero, List.drop_succ_cons, List.drop_zero]
    repeat (first | still_step)
    try refine wpStill_nil ?_
    go_wp2_with fail
    go_meet
    refine ⟨rfl, ?_, ?_⟩
    · first | exact (HD.out _ hB) | exact (HD.out _ hB).drew | exact HD.out _ hB.drew
    · first | exact grown_drew (grown_put hG) | exact grown_put (grown_drew hG)
  case rest =>
  clear HD hB hG k3 kf kl
  obtain ⟨rfl, hB, hG⟩ := hcut
  go_upto_region 1 with fail
  go_wp2_with fail
  go_loopw [12] (fun i wr => ∃ k : Nat, k ≤ 2 ∧ i = .int .i64 k ∧ Blk wr g 134 (s1.rounds k).cells ∧ w.grownBy wr (some g)) (fun i _ => 2 - (intOf i).toNat)
  case atStart => exact ⟨0, by omega, rfl, hB, hG⟩
  case round =>
    clear hB hG
    obtain ⟨k, hk, rfl, hB, hG⟩ := hrel
    by_cases hlt : k < 2
    · have h1 : (k : Int) < 2 := by omega
      go_wp2_with (go_at_call 79; refine (round_call g _ _ hB).mono ?_; rintro e w2 ⟨rfl, hB2, hG2⟩)
      exact ⟨⟨k + 1, by omega, by go_num, hB2, only_trans hG hG2⟩, by simp [intOf]; omega⟩
    · obtain rfl : k = 2 := by omega
      generalize s1.rounds 2 = s2 at *
      have HA : Hid (∀ W : World, Blk W g 134 s2.cells → Blk (W.setCell ⟨g, 0, none⟩ (.int .u64 (bits .xor .u64 s2.a m))) g 134 RC) := Lib.hid (fun W h => by rw [HM.out]; exact h.put 0 _)
      have k0 : wr.cell? ⟨g, 0, none⟩ = some (.int .u64 s2.a) := hB.cellAt 0 rfl
      have kf := hB.frozen
      have kl := hB.lt
      go_wp2_with fail
      refine wp_region_still_tail 8 (by kernel_rfl) (by kernel_rfl) ?_
      simp only [List.take_succ_cons, List.take_zero, List.drop_succ_cons, List.drop_zero]
      repeat (first | still_step)
      try refine wpStill_nil ?_
      go_wp2_with fail
      go_end0
      refine ⟨rfl, ?_, ?_⟩
      · first | exact (HA.out _ hB) | exact (HA.out _ hB).drew | exact HA.out _ hB.drew
      · first | exact grown_drew (grown_put hG) | exact grown_put (grown_drew hG)
end Go.Proofs.YtapiehddcdnadaaGreatDoor
namespace Go.Proofs.YtapiehddcdnadaaGreatDoor
open Go.RowKit Go.WideShapes
set_option linter.unusedVariables false
set_option linter.unusedSimpArgs false
def byteI (s : ByteArray) (k : Nat) : Int := ((s.data.toList.getD k 0).toNat : Int)
theorem byteI_get (s : ByteArray) (k : Nat) (h : k < s.size) : (s[k].toNat : Int) = byteI s k := by
  unfold byteI
  rw [List.getD_eq_getElem?_getD, List.getElem?_eq_getElem (by simpa using h)]
  simp
  rfl
def sumStep (s : ByteArray) (k : Nat) (st : Sip × Int) : Sip × Int :=
  if k % 8 = 7 then (st.1.mix (bits .or .u64 st.2 (IntKind.u64.wrap (IntKind.u64.wrap (byteI s k) * 2 ^ (8 * (k % 8))))), 0)
  else (st.1, bits .or .u64 st.2 (IntKind.u64.wrap (IntKind.u64.wrap (byteI s k) * 2 ^ (8 * (k % 8)))))
def sipTo (i : Sip) (s : ByteArray) : Nat → Sip × Int
  | 0 => (i, 0)
  | k + 1 => sumStep s k (sipTo i s k)
def sip0 : Sip := Sip.mk (bits .xor .u64 0 8317987319222330741) (bits .xor .u64 0 7237128888997146477) (bits .xor .u64 0 7816392313619706465) (bits .xor .u64 0 8387220255154660723)
def Sip.last (S : Sip) (x : Int) (n : Nat) : Sip := S.mix (bits .or .u64 x (IntKind.u64.wrap ((n : Int) * 72057594037927936)))
def Sip.ff (S : Sip) : Sip := Sip.mk S.a S.b (bits .xor .u64 S.c 255) S.d
def Sip.all (S : Sip) : Int := bits .xor .u64 (bits .xor .u64 (bits .xor .u64 S.a S.b) S.c) S.d
/-- The sum of a text, of the key 0, 0. -/
def sumI (s : ByteArray) : Int := (((sipTo sip0 s s.size).1.last (sipTo sip0 s s.size).2 s.size).ff.rounds 4).all
def sumN (s : ByteArray) : Nat := (sumI s).toNat
theorem sumI_nat (s : ByteArray) : ((sumN s : Nat) : Int) = sumI s ∧ sumN s < 18446744073709551616 := by
  have h := bounds_u64 (wf_bits .xor .u64 (bits .xor .u64 (bits .xor .u64 (((sipTo sip0 s s.size).1.last (sipTo sip0 s s.size).2 s.size).ff.rounds 4).a (((sipTo sip0 s s.size).1.last (sipTo sip0 s s.size).2 s.size).ff.rounds 4).b) (((sipTo sip0 s s.size).1.last (sipTo sip0 s s.size).2 s.size).ff.rounds 4).c) (((sipTo sip0 s s.size).1.last (sipTo sip0 s s.size).2 s.size).ff.rounds 4).d)
  have h2 : 0 ≤ sumI s ∧ sumI s ≤ 18446744073709551615 := h
  unfold sumN
  omega
set_option maxRecDepth 100000 in
set_option maxHeartbeats 2000000 in
theorem sum_int (s : ByteArray) (w : World) (hs : s.size ≤ 9223372036854775806) : Calls Tryz.prog 58 #[.int .u64 0, .int .u64 0, .string s] w fun e w' => e = .returned (.int .u64 (sumI s)) ∧ Below w.heap.size w w' := by
  have HSUM : Hid (sumI s = (((sipTo sip0 s s.size).1.last (sipTo sip0 s s.size).2 s.size).ff.rounds 4).all) := Lib.hid rfl
  generalize sumI s = R at *
  go_enter Tryz.func58, Tryz.ntmps58
  go_wp2_with fail
  obtain ⟨i0, hi0⟩ : ∃ i0 : Sip, sip0 = i0 := ⟨_, rfl⟩
  rw [hi0] at HSUM
  have hB0 : Blk (w.alloc (.cells #[.int .u64 (bits .xor .u64 0 8317987319222330741), .int .u64 (bits .xor .u64 0 7237128888997146477), .int .u64 (bits .xor .u64 0 7816392313619706465), .int .u64 (bits .xor .u64 0 8387220255154660723)] 134)) w.heap.size 134 i0.cells := by rw [← hi0]; exact Blk.new _ _ _
  have hb0 := balloc (Below.refl w.heap.size w) (.cells #[.int .u64 (bits .xor .u64 0 8317987319222330741), .int .u64 (bits .xor .u64 0 7237128888997146477), .int .u64 (bits .xor .u64 0 7816392313619706465), .int .u64 (bits .xor .u64 0 8387220255154660723)] 134)
  clear hi0
  go_loopw [8, 21] (fun m i wr => ∃ (k : Nat), k ≤ s.size ∧ i = .int .i64 k ∧ m = .int .u64 (sipTo i0 s k).2 ∧ Blk wr w.heap.size 134 (sipTo i0 s k).1.cells ∧ Below w.heap.size w wr) (fun _ i _ => s.size - (intOf i).toNat)
  case atStart => exact ⟨0, Nat.zero_le _, rfl, rfl, hB0, hb0⟩
  case round =>
    obtain ⟨k, hk, rfl, rfl, hB, hb⟩ := hrel
    by_cases hlt : k < s.size
    · have h1 : (k : Int) < s.size := by omega
      obtain ⟨r, hr, hr8, hrk⟩ : ∃ r : Nat, (k : Int) % 8 = (r : Int) ∧ r < 8 ∧ k % 8 = r := ⟨k % 8, by omega, by omega, rfl⟩
      have hr9 : (r : Int) < 8 := by omega
      have HS : Hid (sipTo i0 s (k + 1) = sumStep s k (sipTo i0 s k)) := Lib.hid rfl
      have HU : Hid (sumStep s k (sipTo i0 s k) = if r = 7 then ((sipTo i0 s k).1.mix (bits .or .u64 (sipTo i0 s k).2 (IntKind.u64.wrap (IntKind.u64.wrap (byteI s k) * 2 ^ (8 * r)))), 0) else ((sipTo i0 s k).1, bits .or .u64 (sipTo i0 s k).2 (IntKind.u64.wrap (IntKind.u64.wrap (byteI s k) * 2 ^ (8 * r))))) := Lib.hid (by unfold sumStep; rw [hrk])
      have hby := byteI_get s k hlt
      clear hrk
      generalize byteI s k = y at *
      generalize (sipTo i0 s k) = p at *
      obtain ⟨S, x⟩ := p
      by_cases h7 : r = 7
      · have HN : Hid (sipTo i0 s (k + 1) = (S.mix (bits .or .u64 x (IntKind.u64.wrap (IntKind.u64.wrap y * 2 ^ (8 * r)))), 0)) := Lib.hid (by rw [HS.out, HU.out, if_pos h7])
        have h7' : ((r : Int) == 7) = true := by simp; omega
        clear HS HU h7
        go_wp2_with (go_at_call 78; refine (mix_call w.heap.size S _ _ hB).mono ?_; rintro e w2 ⟨rfl, hB2, hG2⟩)
        exact ⟨⟨k + 1, by omega, by go_num, by rw [HN.out], by rw [HN.out]; exact hB2, bgrown hb hG2 (fun q hq => by injection hq with e; omega)⟩, by simp [intOf]; omega⟩
      · have HN : Hid (sipTo i0 s (k + 1) = (S, bits .or .u64 x (IntKind.u64.wrap (IntKind.u64.wrap y * 2 ^ (8 * r))))) := Lib.hid (by rw [HS.out, HU.out, if_neg h7])
        have h7' : ((r : Int) == 7) = false := by simp; omega
        clear HS HU h7
        go_wp2_with fail
        exact ⟨⟨k + 1, by omega, by go_num, by rw [HN.out], by rw [HN.out]; exact hB, hb⟩, by simp [intOf]; omega⟩
    · obtain rfl : k = s.size := by omega
      generalize sipTo i0 s s.size = p at *
      obtain ⟨S, x⟩ := p
      replace HSUM : Hid (R = (((S.mix (bits .or .u64 x (IntKind.u64.wrap ((s.size : Int) * 72057594037927936)))).ff).rounds 4).all) := HSUM
      go_upto_region 12 with (go_at_call 78; refine (mix_call w.heap.size S _ _ hB).mono ?_; rintro e w2 ⟨rfl, hB2, hG2⟩)
      have hb2 := bgrown hb hG2 (fun q hq => by injection hq with e; omega)
      clear hB hb hG2 hB0 hb0
      generalize S.mix (bits .or .u64 x (IntKind.u64.wrap ((s.size : Int) * 72057594037927936))) = S2 at *
      have k2 : w2.cell? ⟨w.heap.size, 2, none⟩ = some (.int .u64 S2.c) := hB2.cellAt 2 rfl
      have kf := hB2.frozen
      have kl := hB2.lt
      have hB3 : Blk (w2.setCell ⟨w.heap.size, 2, none⟩ (.int .u64 (bits .xor .u64 S2.c 255))) w.heap.size 134 (Sip.mk S2.a S2.b (bits .xor .u64 S2.c 255) S2.d).cells := hB2.put 2 _
      have hb3 := bset hb2 (p := ⟨w.heap.size, 2, none⟩) (Nat.le_refl _) (.int .u64 (bits .xor .u64 S2.c 255))
      go_upto_region 13 with fail
      replace HSUM : Hid (R = ((Sip.mk S2.a S2.b (bits .xor .u64 S2.c 255) S2.d).rounds 4).all) := HSUM
      generalize Sip.mk S2.a S2.b (bits .xor .u64 S2.c 255) S2.d = S3 at *
      generalize (w2.setCell ⟨w.heap.size, 2, none⟩ (.int .u64 (bits .xor .u64 S2.c 255))) = w3 at *
      clear hB2 hb2 k2 kf kl
      go_wp2_with fail
      go_loopw [51] (fun i wr => ∃ k : Nat, k ≤ 4 ∧ i = .int .i64 k ∧ Blk wr w.heap.size 134 (S3.rounds k).cells ∧ Below w.heap.size w wr) (fun i _ => 4 - (intOf i).toNat)
      case atStart => exact ⟨0, by omega, rfl, hB3, hb3⟩
      case round =>
        clear hB3 hb3
        obtain ⟨k, hk, rfl, hB, hb⟩ := hrel
        by_cases hlt : k < 4
        · have h1 : (k : Int) < 4 := by omega
          go_wp2_with (go_at_call 79; refine (round_call w.heap.size _ _ hB).mono ?_; rintro e w4 ⟨rfl, hB4, hG4⟩)
          exact ⟨⟨k + 1, by omega, by go_num, hB4, bgrown hb hG4 (fun q hq => by injection hq with e; omega)⟩, by simp [intOf]; omega⟩
        · obtain rfl : k = 4 := by omega
          generalize S3.rounds 4 = S4 at *
          have k0 : wr.cell? ⟨w.heap.size, 0, none⟩ = some (.int .u64 S4.a) := hB.cellAt 0 rfl
          have k1 : wr.cell? ⟨w.heap.size, 1, none⟩ = some (.int .u64 S4.b) := hB.cellAt 1 rfl
          have k2 : wr.cell? ⟨w.heap.size, 2, none⟩ = some (.int .u64 S4.c) := hB.cellAt 2 rfl
          have k3 : wr.cell? ⟨w.heap.size, 3, none⟩ = some (.int .u64 S4.d) := hB.cellAt 3 rfl
          have kl := hB.lt
          go_wp2_with fail
          go_ret
          exact ⟨ret_int HSUM.out.symm, hb⟩
theorem sum_call (s : ByteArray) (w : World) (hs : s.size ≤ 9223372036854775806) : Calls Tryz.prog 58 #[.int .u64 0, .int .u64 0, .string s] w fun e w' => e = .returned (.int .u64 (sumN s : Nat)) ∧ Below w.heap.size w w' := by
  rw [(sumI_nat s).1]
  exact sum_int s w hs
end Go.Proofs.YtapiehddcdnadaaGreatDoor

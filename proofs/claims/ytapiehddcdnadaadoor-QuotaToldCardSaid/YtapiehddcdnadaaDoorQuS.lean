/- The sum of a text. -/
import Derived.Test.YtapiehddcdnadaaDoorProg
import Derived.Test.YtapiehddcdnadaaDoorApp
import Derived.Lib.Hide
import Derived.StillTailTactics
import Derived.Deep.CutBlock
import Derived.Deep.CutRange
namespace Go.Proofs.YtapiehddcdnadaaDoor
open Go.RowKit
set_option linter.unusedVariables false
set_option linter.unusedSimpArgs false

def rotI (k x : Int) : Int := bits .or .u64 (IntKind.u64.wrap (x * 2 ^ k.toNat)) (x / 2 ^ (64 - k).toNat)
theorem rot_any (x k : Int) (w : World) (h0 : 0 < k) (h1 : k < 64) (hk : bits .and .u64 k 63 = k) : Calls Tryd.prog 49 #[.int .u64 x, .int .i64 k] w fun e w' => e = .returned (.int .u64 (rotI k x)) ∧ w = w' := by
  go_enter Tryd.func49, Tryd.ntmps49
  go_wp2_with fail
  go_ret
  exact ⟨rfl, rfl⟩
/-- The four words. -/
structure Sip where
  a : Int
  b : Int
  c : Int
  d : Int
def Sip.cells (s : Sip) : Array Value := #[.int .u64 s.a, .int .u64 s.b, .int .u64 s.c, .int .u64 s.d]
def Sip.round (s : Sip) : Sip :=
  let a1 := IntKind.u64.wrap (s.a + s.b)
  let c1 := IntKind.u64.wrap (s.c + s.d)
  let b1 := bits .xor .u64 (rotI 13 s.b) a1
  let d1 := bits .xor .u64 (rotI 16 s.d) c1
  let a2 := rotI 32 a1
  let c2 := IntKind.u64.wrap (c1 + b1)
  let a3 := IntKind.u64.wrap (a2 + d1)
  ⟨a3, bits .xor .u64 (rotI 17 b1) c2, rotI 32 c2, bits .xor .u64 (rotI 21 d1) a3⟩
theorem grown_put {W w : World} {g i : Nat} {u : Value} (h : W.grownBy w (some g)) : W.grownBy (w.setCell ⟨g, i, none⟩ u) (some g) := only_setCell h (.inl rfl) u
theorem grown_drew {W w : World} {g : Nat} (h : W.grownBy w (some g)) : W.grownBy w.drew (some g) := ⟨h.os, h.tape, h.output, h.size, h.block⟩
set_option maxRecDepth 100000 in
set_option maxHeartbeats 4000000 in
theorem round_call (g : Nat) (s : Sip) (w : World) (hB : Blk w g 87 s.cells) : Calls Tryd.prog 40 #[.pointer (some ⟨g, 0, none⟩)] w fun e w' => e = .returned (.tuple #[]) ∧ Blk w' g 87 s.round.cells ∧ w.grownBy w' (some g) := by
  obtain ⟨a, b, c, d⟩ := s
  have hG : w.grownBy w (some g) := only_refl _ _
  replace hB : Blk w g 87 #[.int .u64 a, .int .u64 b, .int .u64 c, .int .u64 d] := hB
  obtain ⟨a0, ha0⟩ : ∃ x, x = IntKind.u64.wrap (a + b) := ⟨_, rfl⟩
  obtain ⟨c1, hc1⟩ : ∃ x, x = IntKind.u64.wrap (c + d) := ⟨_, rfl⟩
  obtain ⟨b2, hb2⟩ : ∃ x, x = bits .xor .u64 (rotI 13 b) a0 := ⟨_, rfl⟩
  obtain ⟨d3, hd3⟩ : ∃ x, x = bits .xor .u64 (rotI 16 d) c1 := ⟨_, rfl⟩
  obtain ⟨a4, ha4⟩ : ∃ x, x = rotI 32 a0 := ⟨_, rfl⟩
  obtain ⟨c5, hc5⟩ : ∃ x, x = IntKind.u64.wrap (c1 + b2) := ⟨_, rfl⟩
  obtain ⟨a6, ha6⟩ : ∃ x, x = IntKind.u64.wrap (a4 + d3) := ⟨_, rfl⟩
  obtain ⟨b7, hb7⟩ : ∃ x, x = bits .xor .u64 (rotI 17 b2) c5 := ⟨_, rfl⟩
  obtain ⟨d8, hd8⟩ : ∃ x, x = bits .xor .u64 (rotI 21 d3) a6 := ⟨_, rfl⟩
  obtain ⟨c9, hc9⟩ : ∃ x, x = rotI 32 c5 := ⟨_, rfl⟩
  have HV : Hid ((Sip.mk a b c d).round.cells = #[.int .u64 a6, .int .u64 b7, .int .u64 c9, .int .u64 d8]) := Lib.hid (by subst ha0 hc1 hb2 hd3 ha4 hc5 ha6 hb7 hd8 hc9; rfl)
  generalize (Sip.mk a b c d).round.cells = RC at *
  go_enter Tryd.func40, Tryd.ntmps40
  go_wp2_with fail
  have k0 := hB.cellAt 0 rfl
  have k1 := hB.cellAt 1 rfl
  have k2 := hB.cellAt 2 rfl
  have k3 := hB.cellAt 3 rfl
  have kf := hB.frozen
  have kl := hB.lt
  go_cut [0] from 2 (fun x wx => x = .pointer (some ⟨g, 0, none⟩) ∧ Blk wx g 87 #[.int .u64 a0, .int .u64 b, .int .u64 c, .int .u64 d] ∧ w.grownBy wx (some g))
  case first =>
    refine wp_region_still_tail 11 (by kernel_rfl) (by kernel_rfl) ?_
    simp only [List.take_succ_cons, List.take_zero, List.drop_succ_cons, List.drop_zero]
    repeat (first | still_step)
    try refine wpStill_nil ?_
    all_goals
      go_wp2_with fail
      go_meet
      (try rw [← ha0])
      refine ⟨rfl, ?_, ?_⟩
      · first | exact (hB.put 0 _) | exact (hB.put 0 _).drew
      · first | exact grown_drew (grown_put hG) | exact grown_put (grown_drew hG)
  clear hB hG k0 k1 k2 k3 kf kl ha0
  obtain ⟨rfl, hB, hG⟩ := hcut
  go_upto_region 1 with fail
  have k0 := hB.cellAt 0 rfl
  have k1 := hB.cellAt 1 rfl
  have k2 := hB.cellAt 2 rfl
  have k3 := hB.cellAt 3 rfl
  have kf := hB.frozen
  have kl := hB.lt
  go_cut [0] from 2 (fun x wx => x = .pointer (some ⟨g, 0, none⟩) ∧ Blk wx g 87 #[.int .u64 a0, .int .u64 b, .int .u64 c1, .int .u64 d] ∧ w.grownBy wx (some g))
  case first =>
    refine wp_region_still_tail 11 (by kernel_rfl) (by kernel_rfl) ?_
    simp only [List.take_succ_cons, List.take_zero, List.drop_succ_cons, List.drop_zero]
    repeat (first | still_step)
    try refine wpStill_nil ?_
    all_goals
      go_wp2_with fail
      go_meet
      (try rw [← hc1])
      refine ⟨rfl, ?_, ?_⟩
      · first | exact (hB.put 2 _) | exact (hB.put 2 _).drew
      · first | exact grown_drew (grown_put hG) | exact grown_put (grown_drew hG)
  clear hB hG k0 k1 k2 k3 kf kl hc1
  obtain ⟨rfl, hB, hG⟩ := hcut
  go_upto_region 2 with fail
  have k0 := hB.cellAt 0 rfl
  have k1 := hB.cellAt 1 rfl
  have k2 := hB.cellAt 2 rfl
  have k3 := hB.cellAt 3 rfl
  have kf := hB.frozen
  have kl := hB.lt
  have HR := Lib.hid (fun W => rot_any b 13 W (by omega) (by omega) (by decide))
  go_cut [0] from 2 (fun x wx => x = .pointer (some ⟨g, 0, none⟩) ∧ Blk wx g 87 #[.int .u64 a0, .int .u64 b2, .int .u64 c1, .int .u64 d] ∧ w.grownBy wx (some g))
  case first =>
    refine wp_region_still_tail 13 (by kernel_rfl) (by kernel_rfl) ?_
    simp only [List.take_succ_cons, List.take_zero, List.drop_succ_cons, List.drop_zero]
    repeat (first | still_step | still_call ((HR.out _).mono (fun e w' h => ⟨h.1, h.2.symm⟩)))
    try refine wpStill_nil ?_
    all_goals
      go_wp2_with fail
      go_meet
      (try rw [← hb2])
      refine ⟨rfl, ?_, ?_⟩
      · first | exact (hB.put 1 _) | exact (hB.put 1 _).drew
      · first | exact grown_drew (grown_put hG) | exact grown_put (grown_drew hG)
  clear hB hG k0 k1 k2 k3 kf kl hb2 HR
  obtain ⟨rfl, hB, hG⟩ := hcut
  go_upto_region 3 with fail
  have k0 := hB.cellAt 0 rfl
  have k1 := hB.cellAt 1 rfl
  have k2 := hB.cellAt 2 rfl
  have k3 := hB.cellAt 3 rfl
  have kf := hB.frozen
  have kl := hB.lt
  have HR := Lib.hid (fun W => rot_any d 16 W (by omega) (by omega) (by decide))
  go_cut [0] from 2 (fun x wx => x = .pointer (some ⟨g, 0, none⟩) ∧ Blk wx g 87 #[.int .u64 a0, .int .u64 b2, .int .u64 c1, .int .u64 d3] ∧ w.grownBy wx (some g))
  case first =>
    refine wp_region_still_tail 13 (by kernel_rfl) (by kernel_rfl) ?_
    simp only [List.take_succ_cons, List.take_zero, List.drop_succ_cons, List.drop_zero]
    repeat (first | still_step | still_call ((HR.out _).mono (fun e w' h => ⟨h.1, h.2.symm⟩)))
    try refine wpStill_nil ?_
    all_goals
      go_wp2_with fail
      go_meet
      (try rw [← hd3])
      refine ⟨rfl, ?_, ?_⟩
      · first | exact (hB.put 3 _) | exact (hB.put 3 _).drew
      · first | exact grown_drew (grown_put hG) | exact grown_put (grown_drew hG)
  clear hB hG k0 k1 k2 k3 kf kl hd3 HR
  obtain ⟨rfl, hB, hG⟩ := hcut
  go_upto_region 4 with fail
  have k0 := hB.cellAt 0 rfl
  have k1 := hB.cellAt 1 rfl
  have k2 := hB.cellAt 2 rfl
  have k3 := hB.cellAt 3 rfl
  have kf := hB.frozen
  have kl := hB.lt
  have HR := Lib.hid (fun W => rot_any a0 32 W (by omega) (by omega) (by decide))
  go_cut [0] from 2 (fun x wx => x = .pointer (some ⟨g, 0, none⟩) ∧ Blk wx g 87 #[.int .u64 a4, .int .u64 b2, .int .u64 c1, .int .u64 d3] ∧ w.grownBy wx (some g))
  case first =>
    refine wp_region_still_tail 8 (by kernel_rfl) (by kernel_rfl) ?_
    simp only [List.take_succ_cons, List.take_zero, List.drop_succ_cons, List.drop_zero]
    repeat (first | still_step | still_call ((HR.out _).mono (fun e w' h => ⟨h.1, h.2.symm⟩)))
    try refine wpStill_nil ?_
    all_goals
      go_wp2_with fail
      go_meet
      (try rw [← ha4])
      refine ⟨rfl, ?_, ?_⟩
      · first | exact (hB.put 0 _) | exact (hB.put 0 _).drew
      · first | exact grown_drew (grown_put hG) | exact grown_put (grown_drew hG)
  clear hB hG k0 k1 k2 k3 kf kl ha4 HR
  obtain ⟨rfl, hB, hG⟩ := hcut
  go_upto_region 5 with fail
  have k0 := hB.cellAt 0 rfl
  have k1 := hB.cellAt 1 rfl
  have k2 := hB.cellAt 2 rfl
  have k3 := hB.cellAt 3 rfl
  have kf := hB.frozen
  have kl := hB.lt
  go_cut [0] from 2 (fun x wx => x = .pointer (some ⟨g, 0, none⟩) ∧ Blk wx g 87 #[.int .u64 a4, .int .u64 b2, .int .u64 c5, .int .u64 d3] ∧ w.grownBy wx (some g))
  case first =>
    refine wp_region_still_tail 11 (by kernel_rfl) (by kernel_rfl) ?_
    simp only [List.take_succ_cons, List.take_zero, List.drop_succ_cons, List.drop_zero]
    repeat (first | still_step)
    try refine wpStill_nil ?_
    all_goals
      go_wp2_with fail
      go_meet
      (try rw [← hc5])
      refine ⟨rfl, ?_, ?_⟩
      · first | exact (hB.put 2 _) | exact (hB.put 2 _).drew
      · first | exact grown_drew (grown_put hG) | exact grown_put (grown_drew hG)
  clear hB hG k0 k1 k2 k3 kf kl hc5
  obtain ⟨rfl, hB, hG⟩ := hcut
  go_upto_region 6 with fail
  have k0 := hB.cellAt 0 rfl
  have k1 := hB.cellAt 1 rfl
  have k2 := hB.cellAt 2 rfl
  have k3 := hB.cellAt 3 rfl
  have kf := hB.frozen
  have kl := hB.lt
  go_cut [0] from 2 (fun x wx => x = .pointer (some ⟨g, 0, none⟩) ∧ Blk wx g 87 #[.int .u64 a6, .int .u64 b2, .int .u64 c5, .int .u64 d3] ∧ w.grownBy wx (some g))
  case first =>
    refine wp_region_still_tail 11 (by kernel_rfl) (by kernel_rfl) ?_
    simp only [List.take_succ_cons, List.take_zero, List.drop_succ_cons, List.drop_zero]
    repeat (first | still_step)
    try refine wpStill_nil ?_
    all_goals
      go_wp2_with fail
      go_meet
      (try rw [← ha6])
      refine ⟨rfl, ?_, ?_⟩
      · first | exact (hB.put 0 _) | exact (hB.put 0 _).drew
      · first | exact grown_drew (grown_put hG) | exact grown_put (grown_drew hG)
  clear hB hG k0 k1 k2 k3 kf kl ha6
  obtain ⟨rfl, hB, hG⟩ := hcut
  go_upto_region 7 with fail
  have k0 := hB.cellAt 0 rfl
  have k1 := hB.cellAt 1 rfl
  have k2 := hB.cellAt 2 rfl
  have k3 := hB.cellAt 3 rfl
  have kf := hB.frozen
  have kl := hB.lt
  have HR := Lib.hid (fun W => rot_any b2 17 W (by omega) (by omega) (by decide))
  go_cut [0] from 2 (fun x wx => x = .pointer (some ⟨g, 0, none⟩) ∧ Blk wx g 87 #[.int .u64 a6, .int .u64 b7, .int .u64 c5, .int .u64 d3] ∧ w.grownBy wx (some g))
  case first =>
    refine wp_region_still_tail 13 (by kernel_rfl) (by kernel_rfl) ?_
    simp only [List.take_succ_cons, List.take_zero, List.drop_succ_cons, List.drop_zero]
    repeat (first | still_step | still_call ((HR.out _).mono (fun e w' h => ⟨h.1, h.2.symm⟩)))
    try refine wpStill_nil ?_
    all_goals
      go_wp2_with fail
      go_meet
      (try rw [← hb7])
      refine ⟨rfl, ?_, ?_⟩
      · first | exact (hB.put 1 _) | exact (hB.put 1 _).drew
      · first | exact grown_drew (grown_put hG) | exact grown_put (grown_drew hG)
  clear hB hG k0 k1 k2 k3 kf kl hb7 HR
  obtain ⟨rfl, hB, hG⟩ := hcut
  go_upto_region 8 with fail
  have k0 := hB.cellAt 0 rfl
  have k1 := hB.cellAt 1 rfl
  have k2 := hB.cellAt 2 rfl
  have k3 := hB.cellAt 3 rfl
  have kf := hB.frozen
  have kl := hB.lt
  have HR := Lib.hid (fun W => rot_any d3 21 W (by omega) (by omega) (by decide))
  go_cut [0] from 2 (fun x wx => x = .pointer (some ⟨g, 0, none⟩) ∧ Blk wx g 87 #[.int .u64 a6, .int .u64 b7, .int .u64 c5, .int .u64 d8] ∧ w.grownBy wx (some g))
  case first =>
    refine wp_region_still_tail 13 (by kernel_rfl) (by kernel_rfl) ?_
    simp only [List.take_succ_cons, List.take_zero, List.drop_succ_cons, List.drop_zero]
    repeat (first | still_step | still_call ((HR.out _).mono (fun e w' h => ⟨h.1, h.2.symm⟩)))
    try refine wpStill_nil ?_
    all_goals
      go_wp2_with fail
      go_meet
      (try rw [← hd8])
      refine ⟨rfl, ?_, ?_⟩
      · first | exact (hB.put 3 _) | exact (hB.put 3 _).drew
      · first | exact grown_drew (grown_put hG) | exact grown_put (grown_drew hG)
  clear hB hG k0 k1 k2 k3 kf kl hd8 HR
  obtain ⟨rfl, hB, hG⟩ := hcut
  go_upto_region 9 with fail
  have k0 := hB.cellAt 0 rfl
  have k1 := hB.cellAt 1 rfl
  have k2 := hB.cellAt 2 rfl
  have k3 := hB.cellAt 3 rfl
  have kf := hB.frozen
  have kl := hB.lt
  have HR := Lib.hid (fun W => rot_any c5 32 W (by omega) (by omega) (by decide))
  refine wp_region_still_tail 8 (by kernel_rfl) (by kernel_rfl) ?_
  simp only [List.take_succ_cons, List.take_zero, List.drop_succ_cons, List.drop_zero]
  repeat (first | still_step | still_call ((HR.out _).mono (fun e w' h => ⟨h.1, h.2.symm⟩)))
  try refine wpStill_nil ?_
  go_wp2_with fail
  go_end0
  (try rw [← hc9])
  refine ⟨rfl, ?_, ?_⟩
  · rw [HV.out]; first | exact (hB.put 2 _) | exact (hB.put 2 _).drew
  · first | exact grown_drew (grown_put hG) | exact grown_put (grown_drew hG)
end Go.Proofs.YtapiehddcdnadaaDoor

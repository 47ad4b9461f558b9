/- sip's mix. -/
import Derived.Test.YtapiehddcdnadaaDoorQuS
namespace Go.Proofs.YtapiehddcdnadaaDoor
open Go.RowKit
set_option linter.unusedVariables false
set_option linter.unusedSimpArgs false

def Sip.rounds (s : Sip) : Nat → Sip
  | 0 => s
  | k + 1 => (s.rounds k).round
def Sip.mixD (s : Sip) (m : Int) : Sip := ⟨s.a, s.b, s.c, bits .xor .u64 s.d m⟩
def Sip.mixA (s : Sip) (m : Int) : Sip := ⟨bits .xor .u64 s.a m, s.b, s.c, s.d⟩
def Sip.mix (s : Sip) (m : Int) : Sip := ((s.mixD m).rounds 2).mixA m
set_option maxRecDepth 100000 in
set_option maxHeartbeats 2000000 in
theorem mix_call (g : Nat) (s : Sip) (m : Int) (w : World) (hB : Blk w g 87 s.cells) : Calls Tryd.prog 39 #[.pointer (some ⟨g, 0, none⟩), .int .u64 m] w fun e w' => e = .returned (.tuple #[]) ∧ Blk w' g 87 (s.mix m).cells ∧ w.grownBy w' (some g) := by
  have hG : w.grownBy w (some g) := only_refl _ _
  have HM : Hid ((s.mix m).cells = (((s.mixD m).rounds 2).mixA m).cells) := Lib.hid rfl
  generalize (s.mix m).cells = RC at *
  have HD : Hid (∀ W : World, Blk W g 87 s.cells → Blk (W.setCell ⟨g, 3, none⟩ (.int .u64 (bits .xor .u64 s.d m))) g 87 (s.mixD m).cells) := Lib.hid (fun W h => h.put 3 _)
  have k3 : w.cell? ⟨g, 3, none⟩ = some (.int .u64 s.d) := hB.cellAt 3 rfl
  have kf := hB.frozen
  have kl := hB.lt
  generalize s.mixD m = s1 at *
  go_enter Tryd.func39, Tryd.ntmps39
  go_wp2_with fail
  go_cut [0] from 2 (fun x wx => x = .pointer (some ⟨g, 0, none⟩) ∧ Blk wx g 87 s1.cells ∧ w.grownBy wx (some g))
  case first =>
    refine wp_region_still_tail 8 (by kernel_rfl) (by kernel_rfl) ?_
    simp only [List.take_succ_cons, List.take_zero, List.drop_succ_cons, List.drop_zero]
    repeat (first | still_step)
    try refine wpStill_nil ?_
    go_wp2_with fail
    go_meet
    refine ⟨rfl, ?_, ?_⟩
    · first | exact (HD.out _ hB) | exact (HD.out _ hB).drew | exact HD.out _ hB.drew
    · first | exact grown_drew (grown_put hG) | exact grown_put (grown_drew hG)
  case rest =>
  clear HD hB hG k3 kf kl
  obtain ⟨rfl, hB, hG⟩ := hcut
  go_upto_region 1 with fail
  go_wp2_with fail
  go_loopw [12] (fun i wr => ∃ k : Nat, k ≤ 2 ∧ i = .int .i64 k ∧ Blk wr g 87 (s1.rounds k).cells ∧ w.grownBy wr (some g)) (fun i _ => 2 - (intOf i).toNat)
  case atStart => exact ⟨0, by omega, rfl, hB, hG⟩
  case round =>
    clear hB hG
    obtain ⟨k, hk, rfl, hB, hG⟩ := hrel
    by_cases hlt : k < 2
    · have h1 : (k : Int) < 2 := by omega
      go_wp2_with (go_at_call 40; refine (round_call g _ _ hB).mono ?_; rintro e w2 ⟨rfl, hB2, hG2⟩)
      exact ⟨⟨k + 1, by omega, by go_num, hB2, only_trans hG hG2⟩, by simp [intOf]; omega⟩
    · obtain rfl : k = 2 := by omega
      generalize s1.rounds 2 = s2 at *
      have HA : Hid (∀ W : World, Blk W g 87 s2.cells → Blk (W.setCell ⟨g, 0, none⟩ (.int .u64 (bits .xor .u64 s2.a m))) g 87 RC) := Lib.hid (fun W h => by rw [HM.out]; exact h.put 0 _)
      have k0 : wr.cell? ⟨g, 0, none⟩ = some (.int .u64 s2.a) := hB.cellAt 0 rfl
      have kf := hB.frozen
      have kl := hB.lt
      go_wp2_with fail
      refine wp_region_still_tail 8 (by kernel_rfl) (by kernel_rfl) ?_
      simp only [List.take_succ_cons, List.take_zero, List.drop_succ_cons, List.drop_zero]
      repeat (first | still_step)
      try refine wpStill_nil ?_
      go_wp2_with fail
      go_end0
      refine ⟨rfl, ?_, ?_⟩
      · first | exact (HA.out _ hB) | exact (HA.out _ hB).drew | exact HA.out _ hB.drew
      · first | exact grown_drew (grown_put hG) | exact grown_put (grown_drew hG)
end Go.Proofs.YtapiehddcdnadaaDoor

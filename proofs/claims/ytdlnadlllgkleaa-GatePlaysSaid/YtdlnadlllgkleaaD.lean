/- The walk of GatePlays: it returns true, whatever it is given; what lay in memory stays. No condition. -/
import Derived.Test.YtdlnadlllgkleaaA
namespace Go.Proofs.Ytdlnadlllgkleaa
open Go.RowKit
set_option linter.unusedVariables false
set_option linter.unusedSimpArgs false
attribute [local go_sem high] eq24
attribute [local go_sem] fld24_0 fld24_1 fld24_2

set_option maxHeartbeats 2000000 in
theorem gatePlays_no (c : Bool) (l h lo hi a b : Int) (w : World) :
    Calls Try.prog 3 #[.agg #[.bool c, .int .u64 l, .int .u64 h], .bool false, .int .u64 lo, .int .u64 hi, .int .u64 a, .int .u64 b] w fun e w' => e = .returned (.bool true) ∧ Below w.heap.size w w' := by
  go_enter Try.func3, Try.ntmps3
  go_wp2_with fail
  refine (examples_any _).mono ?_
  rintro e w1 ⟨rfl, b1⟩
  have B1 := Blk.step b1 (Blk.new _ _ _)
  have C1 := B1.cell
  have L1 := B1.lt
  go_wp2_with fail
  have A2 := B1.alloc (Obj.cells #[Value.bool c, Value.int IntKind.u64 l, Value.int IntKind.u64 h] 27)
  have A3 := Blk.new w1 27 #[Value.bool c, Value.int IntKind.u64 l, Value.int IntKind.u64 h]
  have hB : Below w.heap.size w (w1.alloc (Obj.cells #[Value.bool c, Value.int IntKind.u64 l, Value.int IntKind.u64 h] 27)).drew := bdrew (balloc (bstep b1 (balloc (Below.refl _ _) _)) _)
  clear C1 L1 B1 b1
  go_region_held3 (fun w' => w'.cell? ⟨w.heap.size, 0, none⟩ = some (.bool c) ∧ w'.cell? ⟨w.heap.size, 1, none⟩ = some (.int .u64 l) ∧ w'.cell? ⟨w.heap.size, 2, none⟩ = some (.int .u64 h)
        ∧ w'.cell? ⟨w1.heap.size, 0, none⟩ = some (.bool c) ∧ w'.cell? ⟨w1.heap.size, 1, none⟩ = some (.int .u64 l) ∧ w'.cell? ⟨w1.heap.size, 2, none⟩ = some (.int .u64 h)) (first | exact ⟨A2.cellAt 0 rfl, A2.cellAt 1 rfl, A2.cellAt 2 rfl, A3.cellAt 0 rfl, A3.cellAt 1 rfl, A3.cellAt 2 rfl⟩)
      (first | (go_at_call 9; refine (same_any _ _ _ _ _ _ _ ⟨rfl, rfl, rfl⟩).mono ?_; rintro e w5 ⟨rfl, b5⟩; replace A2 := Blk.step b5 A2; replace A3 := Blk.step b5 A3; replace hB := bstep b5 hB) | (go_at_call 10; refine (see_any _ _ _ _ _).mono ?_; rintro e w5 ⟨rfl, b5⟩; replace A2 := Blk.step b5 A2; replace A3 := Blk.step b5 A3; replace hB := bstep b5 hB) | (go_at_call 11; refine (rsee_any _ _ _ _ _).mono ?_; rintro e w5 ⟨rfl, b5⟩; replace A2 := Blk.step b5 A2; replace A3 := Blk.step b5 A3; replace hB := bstep b5 hB) | (go_at_call 12; refine (turn_any _ _ _ _ _).mono ?_; rintro e w5 ⟨rfl, b5⟩; replace A2 := Blk.step b5 A2; replace A3 := Blk.step b5 A3; replace hB := bstep b5 hB) | (go_at_call 13; refine (rturn_any _ _ _ _ _).mono ?_; rintro e w5 ⟨rfl, b5⟩; replace A2 := Blk.step b5 A2; replace A3 := Blk.step b5 A3; replace hB := bstep b5 hB) | (go_at_call 14; refine (set_any _ _ _ _ _ _).mono ?_; rintro e w5 ⟨rfl, b5⟩; replace A2 := Blk.step b5 A2; replace A3 := Blk.step b5 A3; replace hB := bstep b5 hB) | (go_at_call 15; refine (rset_any _ _ _ _ _ _).mono ?_; rintro e w5 ⟨rfl, b5⟩; replace A2 := Blk.step b5 A2; replace A3 := Blk.step b5 A3; replace hB := bstep b5 hB) | (go_at_call 8; refine (new_any _ _ _).mono ?_; rintro e w5 ⟨rfl, b5⟩; replace A2 := Blk.step b5 A2; replace A3 := Blk.step b5 A3; replace hB := bstep b5 hB) | (go_at_call 16; refine (rnew_any _ _ _).mono ?_; rintro e w5 ⟨rfl, b5⟩; replace A2 := Blk.step b5 A2; replace A3 := Blk.step b5 A3; replace hB := bstep b5 hB))
  go_wp2_with fail
  go_ret
  exact ⟨rfl, hB⟩
end Go.Proofs.Ytdlnadlllgkleaa

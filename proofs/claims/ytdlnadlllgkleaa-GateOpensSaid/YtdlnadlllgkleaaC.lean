/- The walk of GateOpens: it returns true, whatever it is given; what lay in memory stays. The bounds are 16 bits wide. -/
import Derived.Test.YtdlnadlllgkleaaA
import Derived.OpenShut
namespace Go.Proofs.Ytdlnadlllgkleaa
open Go.RowKit
set_option linter.unusedVariables false
set_option linter.unusedSimpArgs false
attribute [local go_sem high] eq24
attribute [local go_sem] fld24_0 fld24_1 fld24_2

set_option maxHeartbeats 1000000 in
theorem gateOpens_core (lo hi n m : Int) (o : Bool) (w : World) (h0 : 0 ≤ lo) (h1 : 0 ≤ hi) (h2 : lo ≤ 65535) (h3 : hi ≤ 65535) (hm0 : 0 ≤ m) (hm : m ≤ 65535)
    (ho : (o == decide (m < n)) = true) (hoe : Hid (o = decide (m < n)))
    (Hnew : Hid (∀ w, Calls Try.prog 8 #[.int .u64 lo, .int .u64 hi] w fun e w' => e = .returned (.agg #[.bool false, .int .u64 m, .int .u64 hi]) ∧ Below w.heap.size w w')) :
    Calls Try.prog 6 #[.int .u16 lo, .int .u16 hi, .int .u64 n] w fun e w' => e = .returned (.bool true) ∧ Below w.heap.size w w' := by
  go_enter Try.func6, Try.ntmps6
  go_wp2_with fail
  refine (examples_any _).mono ?_
  rintro e w1 ⟨rfl, b1⟩
  go_wp2_with fail
  refine (Hnew.out _).mono ?_
  rintro e w2 ⟨rfl, b2⟩
  go_wp2_with fail
  refine (see_any _ _ _ _ _).mono ?_
  rintro e w3 ⟨rfl, b3⟩
  have hhi : decide (hi ≤ hi) = true := by simp
  rw [Bool.false_or, hhi]
  have B1 := Blk.step b3 (Blk.new _ _ _)
  have C1 := B1.cell
  have L1 := B1.lt
  go_wp2_with fail
  clear C1 L1
  have A2 := B1.alloc (Obj.cells #[Value.bool true, Value.int IntKind.u64 m, Value.int IntKind.u64 hi] 24)
  have A3 := Blk.new w3 24 #[Value.bool true, Value.int IntKind.u64 m, Value.int IntKind.u64 hi]
  have hB : Below w.heap.size w (w3.alloc (Obj.cells #[Value.bool true, Value.int IntKind.u64 m, Value.int IntKind.u64 hi] 24)).drew := bdrew (balloc (bstep b3 (balloc (bstep b2 (bstep b1 (Below.refl _ _))) _)) _)
  have hlt : ¬ m < m := by omega
  have hlt1 : m < m + 1 := by omega
  have hlt2 : hi ≤ 0 ∨ ¬ hi ≤ 0 := by omega
  have hwr : IntKind.u64.wrap (m + 1) = m + 1 := by have h : IntKind.u64.wrap (m + 1) = (m + 1) % 18446744073709551616 := rfl; rw [h]; omega
  clear B1 b1 b2 b3
  go_region_held3 (fun w' => w'.cell? ⟨w2.heap.size, 0, none⟩ = some (.bool false) ∧ w'.cell? ⟨w2.heap.size, 1, none⟩ = some (.int .u64 m) ∧ w'.cell? ⟨w2.heap.size, 2, none⟩ = some (.int .u64 hi)
        ∧ w'.cell? ⟨w3.heap.size, 0, none⟩ = some (.bool true) ∧ w'.cell? ⟨w3.heap.size, 1, none⟩ = some (.int .u64 m) ∧ w'.cell? ⟨w3.heap.size, 2, none⟩ = some (.int .u64 hi)) (first | exact ⟨A2.cellAt 0 rfl, A2.cellAt 1 rfl, A2.cellAt 2 rfl, A3.cellAt 0 rfl, A3.cellAt 1 rfl, A3.cellAt 2 rfl⟩)
      (first | (go_at_call 12; refine (turn_any _ _ _ _ _).mono ?_; rintro e w5 ⟨rfl, b5⟩; replace A2 := Blk.step b5 A2; replace A3 := Blk.step b5 A3; replace hB := bstep b5 hB) | (go_at_call 10; refine (see_any _ _ _ _ _).mono ?_; rintro e w5 ⟨rfl, b5⟩; replace A2 := Blk.step b5 A2; replace A3 := Blk.step b5 A3; replace hB := bstep b5 hB))
  go_wp2_with fail
  go_ret
  exact ⟨rfl, hB⟩

theorem gateOpens_walk (lo hi n : Int) (w : World) (h0 : (Lit.int .u16 lo).wf = true) (h1 : (Lit.int .u16 hi).wf = true) :
    Calls Try.prog 6 #[.int .u16 lo, .int .u16 hi, .int .u64 n] w fun e w' => e = .returned (.bool true) ∧ Below w.heap.size w w' := by
  have b0 := bounds_u16 h0
  have b1 := bounds_u16 h1
  exact gateOpens_core lo hi n (min lo hi) (decide (min lo hi < n)) w b0.1 b1.1 b0.2 b1.2 (by omega) (by omega) (by simp) rfl (new_any lo hi)
theorem gateOpens_row (lo hi n : Int) (w : World) (h0 : (Lit.int .u16 lo).wf = true) (h1 : (Lit.int .u16 hi).wf = true) (_ : (Lit.int .u64 n).wf = true) :
    Calls Try.prog 6 #[.int .u16 lo, .int .u16 hi, .int .u64 n] w fun e w' => e = .returned (.bool true) ∧ Below w.heap.size w w' := gateOpens_walk lo hi n w h0 h1
end Go.Proofs.Ytdlnadlllgkleaa

/- The walk of GatePlays, where a gate is made: it returns true, whatever it is given; what lay in memory stays. No condition. -/
import Derived.Test.YtdlnadlllgkleaaD
namespace Go.Proofs.Ytdlnadlllgkleaa
open Go.RowKit
set_option linter.unusedVariables false
set_option linter.unusedSimpArgs false
attribute [local go_sem high] eq24
attribute [local go_sem] fld24_0 fld24_1 fld24_2

set_option maxHeartbeats 2000000 in
theorem gatePlays_own (c0 : Bool) (l0 h0 lo hi a b : Int) (w : World) :
    Calls Try.prog 3 #[.agg #[.bool c0, .int .u64 l0, .int .u64 h0], .bool true, .int .u64 lo, .int .u64 hi, .int .u64 a, .int .u64 b] w fun e w' => e = .returned (.bool true) ∧ Below w.heap.size w w' := by
  go_enter Try.func3, Try.ntmps3
  go_wp2_with fail
  refine (examples_any _).mono ?_
  rintro e w1 ⟨rfl, b1⟩
  have B1 := Blk.step b1 (Blk.new _ _ _)
  have C1 := B1.cell
  have F1 := B1.frozen
  have L1 := B1.lt
  go_wp2_with fail
  refine (new_any _ _ _).mono ?_
  rintro e w2 ⟨rfl, b2⟩
  have B2 := Blk.step b2 B1
  clear C1 F1 L1 B1
  have C1 := B2.cell
  have F1 := B2.frozen
  have L1 := B2.lt
  go_wp2_with fail
  clear C1 F1 L1
  generalize hWW : ((((w2.setCell { block := w.heap.size, off := 0 } (Value.bool false)).setCell { block := w.heap.size, off := 1 } (Value.int IntKind.u64 (min (lo.tmod 50) (hi.tmod 50)))).setCell { block := w.heap.size, off := 2 } (Value.int IntKind.u64 (hi.tmod 50))).setCell { block := w.heap.size, off := 0 } (Value.bool (a.tmod 3 == 0))) = w3
  have hs : w3.heap.size = w2.heap.size := by subst hWW; simp [World.setCell]
  have B3 : Blk w3 w.heap.size 24 #[Value.bool (a.tmod 3 == 0), Value.int IntKind.u64 (min (lo.tmod 50) (hi.tmod 50)), Value.int IntKind.u64 (hi.tmod 50)] := by subst hWW; exact (((B2.put 0 _).put 1 _).put 2 _).put 0 _
  have hB : Below w.heap.size w w3 := by subst hWW; exact bset (bset (bset (bset (bstep b2 (bstep b1 (balloc (Below.refl _ _) _))) (Nat.le_refl _) _) (Nat.le_refl _) _) (Nat.le_refl _) _) (Nat.le_refl _) _
  clear hWW B2 b1 b2
  generalize (a.tmod 3 == 0) = c at *
  generalize min (lo.tmod 50) (hi.tmod 50) = l at *
  generalize hi.tmod 50 = h at *
  generalize lo.tmod 50 = lo' at *
  generalize a.tmod 60 = a' at *
  generalize b.tmod 60 = b' at *
  have A2 := B3.alloc (Obj.cells #[Value.bool c, Value.int IntKind.u64 l, Value.int IntKind.u64 h] 27)
  have A3 := Blk.newAt (cs := #[Value.bool c, Value.int IntKind.u64 l, Value.int IntKind.u64 h]) (t := 27) hs
  replace hB := bdrew (balloc hB (Obj.cells #[Value.bool c, Value.int IntKind.u64 l, Value.int IntKind.u64 h] 27))
  clear B3 hs
  go_region_held3 (fun w' => w'.cell? ⟨w.heap.size, 0, none⟩ = some (.bool c) ∧ w'.cell? ⟨w.heap.size, 1, none⟩ = some (.int .u64 l) ∧ w'.cell? ⟨w.heap.size, 2, none⟩ = some (.int .u64 h)
        ∧ w'.cell? ⟨w2.heap.size, 0, none⟩ = some (.bool c) ∧ w'.cell? ⟨w2.heap.size, 1, none⟩ = some (.int .u64 l) ∧ w'.cell? ⟨w2.heap.size, 2, none⟩ = some (.int .u64 h)) (first | exact ⟨A2.cellAt 0 rfl, A2.cellAt 1 rfl, A2.cellAt 2 rfl, A3.cellAt 0 rfl, A3.cellAt 1 rfl, A3.cellAt 2 rfl⟩)
      (first | (go_at_call 9; refine (same_any _ _ _ _ _ _ _ ⟨rfl, rfl, rfl⟩).mono ?_; rintro e w5 ⟨rfl, b5⟩; replace A2 := Blk.step b5 A2; replace A3 := Blk.step b5 A3; replace hB := bstep b5 hB) | (go_at_call 10; refine (see_any _ _ _ _ _).mono ?_; rintro e w5 ⟨rfl, b5⟩; replace A2 := Blk.step b5 A2; replace A3 := Blk.step b5 A3; replace hB := bstep b5 hB) | (go_at_call 11; refine (rsee_any _ _ _ _ _).mono ?_; rintro e w5 ⟨rfl, b5⟩; replace A2 := Blk.step b5 A2; replace A3 := Blk.step b5 A3; replace hB := bstep b5 hB) | (go_at_call 12; refine (turn_any _ _ _ _ _).mono ?_; rintro e w5 ⟨rfl, b5⟩; replace A2 := Blk.step b5 A2; replace A3 := Blk.step b5 A3; replace hB := bstep b5 hB) | (go_at_call 13; refine (rturn_any _ _ _ _ _).mono ?_; rintro e w5 ⟨rfl, b5⟩; replace A2 := Blk.step b5 A2; replace A3 := Blk.step b5 A3; replace hB := bstep b5 hB) | (go_at_call 14; refine (set_any _ _ _ _ _ _).mono ?_; rintro e w5 ⟨rfl, b5⟩; replace A2 := Blk.step b5 A2; replace A3 := Blk.step b5 A3; replace hB := bstep b5 hB) | (go_at_call 15; refine (rset_any _ _ _ _ _ _).mono ?_; rintro e w5 ⟨rfl, b5⟩; replace A2 := Blk.step b5 A2; replace A3 := Blk.step b5 A3; replace hB := bstep b5 hB) | (go_at_call 8; refine (new_any _ _ _).mono ?_; rintro e w5 ⟨rfl, b5⟩; replace A2 := Blk.step b5 A2; replace A3 := Blk.step b5 A3; replace hB := bstep b5 hB) | (go_at_call 16; refine (rnew_any _ _ _).mono ?_; rintro e w5 ⟨rfl, b5⟩; replace A2 := Blk.step b5 A2; replace A3 := Blk.step b5 A3; replace hB := bstep b5 hB))
  go_wp2_with fail
  go_ret
  exact ⟨rfl, hB⟩

theorem gatePlays_walk (c : Bool) (l h : Int) (own : Bool) (lo hi a b : Int) (w : World) :
    Calls Try.prog 3 #[.agg #[.bool c, .int .u64 l, .int .u64 h], .bool own, .int .u64 lo, .int .u64 hi, .int .u64 a, .int .u64 b] w fun e w' => e = .returned (.bool true) ∧ Below w.heap.size w w' := by
  cases own
  · exact gatePlays_no c l h lo hi a b w
  · exact gatePlays_own c l h lo hi a b w
end Go.Proofs.Ytdlnadlllgkleaa

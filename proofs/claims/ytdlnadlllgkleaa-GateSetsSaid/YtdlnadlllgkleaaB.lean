/- The walks of GateSets, GateOpens, GatePlays and GateOnly: each returns true, whatever it is given; what lay in memory stays. No condition. -/
import Derived.Test.YtdlnadlllgkleaaA
namespace Go.Proofs.Ytdlnadlllgkleaa
open Go.RowKit
set_option linter.unusedVariables false
set_option linter.unusedSimpArgs false
attribute [local go_sem high] eq24
attribute [local go_sem] fld24_0 fld24_1 fld24_2

set_option maxHeartbeats 1000000 in
theorem gateSets_core (a b c d n m k : Int) (o : Bool) (w : World) (hmin : m ≤ b)
    (ek : (if d < c then d else c) = k) (ho : (o == decide (b ≤ n)) = true) (hoe : Hid (o = decide (b ≤ n)))
    (Hnew : Hid (∀ w, Calls Try.prog 8 #[.int .u64 a, .int .u64 b] w fun e w' => e = .returned (.agg #[.bool false, .int .u64 m, .int .u64 b]) ∧ Below w.heap.size w w'))
    (Hset : Hid (∀ x lo hi w, Calls Try.prog 14 #[.agg #[.bool x, .int .u64 lo, .int .u64 hi], .int .u64 c, .int .u64 d] w fun e w' => e = .returned (.agg #[.bool x, .int .u64 k, .int .u64 d]) ∧ Below w.heap.size w w'))
    (Hset2 : Hid (∀ x lo hi w, Calls Try.prog 14 #[.agg #[.bool x, .int .u64 lo, .int .u64 hi], .int .u64 a, .int .u64 b] w fun e w' => e = .returned (.agg #[.bool x, .int .u64 m, .int .u64 b]) ∧ Below w.heap.size w w')) :
    Calls Try.prog 5 #[.int .u64 a, .int .u64 b, .int .u64 c, .int .u64 d, .int .u64 n] w fun e w' => e = .returned (.bool true) ∧ Below w.heap.size w w' := by
  have hg := guard24
  all_goals
    go_enter Try.func5, Try.ntmps5
    go_wp2_with fail
    refine (examples_any _).mono ?_
    rintro e w1 ⟨rfl, h1⟩
    go_wp2_with fail
    refine (Hnew.out _).mono ?_
    rintro e w2 ⟨rfl, h2⟩
    go_wp2_with fail
    refine (see_any _ _ _ _ _).mono ?_
    rintro e w3 ⟨rfl, h3⟩
    have B1 := Blk.step h3 (Blk.new _ _ _)
    have C1 := B1.cell
    have L1 := B1.lt
    rw [Bool.false_or, ← hoe.out]
    go_wp2_with fail
    refine (Hset.out _ _ _ _).mono ?_
    rintro e w4 ⟨rfl, h4⟩
    have B2 := Blk.step h4 (B1.alloc _)
    have B3 := Blk.step h4 (Blk.new _ _ _)
    clear C1 L1 B1
    have C2 := B2.cell
    have L2 := B2.lt
    have C3 := B3.cell
    have L3 := B3.lt
    go_wp2_with fail
    have A2 := B2.alloc (Obj.cells #[Value.bool o, Value.int IntKind.u64 k, Value.int IntKind.u64 d] 24)
    have A3 := B3.alloc (Obj.cells #[Value.bool o, Value.int IntKind.u64 k, Value.int IntKind.u64 d] 24)
    have A4 := Blk.new w4 24 #[Value.bool o, Value.int IntKind.u64 k, Value.int IntKind.u64 d]
    clear C2 C3 L2 L3 B2 B3
    go_region_held3 (fun w' => w'.cell? ⟨w2.heap.size, 0, none⟩ = some (.bool false) ∧ w'.cell? ⟨w2.heap.size, 1, none⟩ = some (.int .u64 m) ∧ w'.cell? ⟨w2.heap.size, 2, none⟩ = some (.int .u64 b)
        ∧ w'.cell? ⟨w3.heap.size, 0, none⟩ = some (.bool o) ∧ w'.cell? ⟨w3.heap.size, 1, none⟩ = some (.int .u64 m) ∧ w'.cell? ⟨w3.heap.size, 2, none⟩ = some (.int .u64 b)
        ∧ w'.cell? ⟨w4.heap.size, 0, none⟩ = some (.bool o) ∧ w'.cell? ⟨w4.heap.size, 1, none⟩ = some (.int .u64 k) ∧ w'.cell? ⟨w4.heap.size, 2, none⟩ = some (.int .u64 d)) (first | exact ⟨(A2.drew).cellAt 0 rfl, (A2.drew).cellAt 1 rfl, (A2.drew).cellAt 2 rfl, (A3.drew).cellAt 0 rfl, (A3.drew).cellAt 1 rfl, (A3.drew).cellAt 2 rfl, (A4.drew).cellAt 0 rfl, (A4.drew).cellAt 1 rfl, (A4.drew).cellAt 2 rfl⟩ | exact ⟨(Blk.step h5 A2.drew).cellAt 0 rfl, (Blk.step h5 A2.drew).cellAt 1 rfl, (Blk.step h5 A2.drew).cellAt 2 rfl, (Blk.step h5 A3.drew).cellAt 0 rfl, (Blk.step h5 A3.drew).cellAt 1 rfl, (Blk.step h5 A3.drew).cellAt 2 rfl, (Blk.step h5 A4.drew).cellAt 0 rfl, (Blk.step h5 A4.drew).cellAt 1 rfl, (Blk.step h5 A4.drew).cellAt 2 rfl⟩)
      (first | (go_at_call 14; refine (Hset2.out _ _ _ _).mono ?_; rintro e w5 ⟨rfl, h5⟩))
    go_wp2_with fail
    go_ret
    exact ⟨rfl, bstep h5 (bdrew (balloc (bstep h4 (balloc (bstep h3 (balloc (bstep h2 (bstep h1 (Below.refl _ _))) _)) _)) _))⟩

theorem gateSets_walk (a b c d n : Int) (w : World) :
    Calls Try.prog 5 #[.int .u64 a, .int .u64 b, .int .u64 c, .int .u64 d, .int .u64 n] w fun e w' => e = .returned (.bool true) ∧ Below w.heap.size w w' :=
  gateSets_core a b c d n (min a b) (min c d) (decide (b ≤ n)) w (by omega) (by split <;> omega) (by simp) rfl (new_any a b) (fun x lo hi => set_any x lo hi c d) (fun x lo hi => set_any x lo hi a b)
end Go.Proofs.Ytdlnadlllgkleaa

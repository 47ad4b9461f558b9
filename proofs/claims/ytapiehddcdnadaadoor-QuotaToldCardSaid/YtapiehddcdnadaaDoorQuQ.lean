/- A quota in memory; Many, Closed, Window, decide. -/
import Derived.Test.YtapiehddcdnadaaDoorTopJ
import Derived.Test.YtapiehddcdnadaaDoorHllE
import Derived.Test.YtapiehddcdnadaaDoorGate
import Derived.Test.YtapiehddcdnadaaDoorQuP
import Derived.Test.YtapiehddcdnadaaDoorQuN
import Derived.WalkMore
namespace Go.Proofs.YtapiehddcdnadaaDoor
open Go.RowKit
set_option linter.unusedVariables false
set_option linter.unusedSimpArgs false

/-- A quota. -/
structure QS where
  win : Int
  closed : Bool
  low : Int
  high : Int
  b : Nat
  rn : List Int
  rb : List Int
  room : Nat
  seen : Nat
  l : List It
def zerosN (b : Nat) : List Int := List.replicate (2 ^ b) 0
def quCells (q : QS) (gn gb gt : Nat) : Array Value := #[.int .i64 q.win, .pointer (some ⟨gn, 0, none⟩), .pointer (some ⟨gb, 0, none⟩), .bool q.closed, .int .u64 q.low, .int .u64 q.high, .pointer (some ⟨gt, 0, none⟩)]
/-- The quota q at g, its sketches and its top where gn, gb, gt say; all of this is new since W. -/
structure Qt (W : World) (g gn gb gt : Nat) (q : QS) (w : World) : Prop where
  blk : Blk w g 64 (quCells q gn gb gt)
  now : Sk w gn q.b q.rn
  bef : Sk w gb q.b q.rb
  ne : gn ≠ gb
  tm : TM W W.heap.size gt q.room q.seen q.l w
  g0 : W.heap.size ≤ g
  gn0 : W.heap.size ≤ gn
  gb0 : W.heap.size ≤ gb
  win0 : 0 ≤ q.win ∧ q.win ≤ 9223372036854775807
  low0 : 0 ≤ q.low
def QQ (W : World) (g : Nat) (q : QS) (w : World) : Prop := ∃ gn gb gt, Qt W g gn gb gt q w
section
variable {W w w' : World} {g gn gb gt : Nat} {q : QS}
theorem Qt.below (h : Qt W g gn gb gt q w) : Below W.heap.size W w := h.tm.below
theorem QQ.below (h : QQ W g q w) : Below W.heap.size W w := by obtain ⟨_, _, _, h⟩ := h; exact h.below
theorem Qt.step (h : Qt W g gn gb gt q w) (hb : Below w.heap.size w w') : Qt W g gn gb gt q w' := ⟨Blk.step hb h.blk, Sk.step hb h.now, Sk.step hb h.bef, h.ne, h.tm.step hb, h.g0, h.gn0, h.gb0, h.win0, h.low0⟩
theorem QQ.step (h : QQ W g q w) (hb : Below w.heap.size w w') : QQ W g q w' := by obtain ⟨a, b, c, h⟩ := h; exact ⟨a, b, c, h.step hb⟩
theorem Qt.tab (h : Qt W g gn gb gt q w) (hT : Tab W) : Tab w := hT.step h.below
theorem Qt.c0 (h : Qt W g gn gb gt q w) : w.cell? ⟨g, 0, none⟩ = some (.int .i64 q.win) := h.blk.cellAt 0 rfl
theorem Qt.c1 (h : Qt W g gn gb gt q w) : w.cell? ⟨g, 1, none⟩ = some (.pointer (some ⟨gn, 0, none⟩)) := h.blk.cellAt 1 rfl
theorem Qt.c2 (h : Qt W g gn gb gt q w) : w.cell? ⟨g, 2, none⟩ = some (.pointer (some ⟨gb, 0, none⟩)) := h.blk.cellAt 2 rfl
theorem Qt.c3 (h : Qt W g gn gb gt q w) : w.cell? ⟨g, 3, none⟩ = some (.bool q.closed) := h.blk.cellAt 3 rfl
theorem Qt.c4 (h : Qt W g gn gb gt q w) : w.cell? ⟨g, 4, none⟩ = some (.int .u64 q.low) := h.blk.cellAt 4 rfl
theorem Qt.c5 (h : Qt W g gn gb gt q w) : w.cell? ⟨g, 5, none⟩ = some (.int .u64 q.high) := h.blk.cellAt 5 rfl
theorem Qt.c6 (h : Qt W g gn gb gt q w) : w.cell? ⟨g, 6, none⟩ = some (.pointer (some ⟨gt, 0, none⟩)) := h.blk.cellAt 6 rfl
theorem Qt.gn_ne (h : Qt W g gn gb gt q w) : g ≠ gn ∧ g ≠ gb := ⟨h.blk.ne_ h.now.blk (by decide), h.blk.ne_ h.bef.blk (by decide)⟩
end

/-- How many there were. -/
def manyQ (q : QS) : Int := estI q.b (List.zipWith max (List.zipWith max (zerosN q.b) q.rn) q.rb)
theorem many_call {W w : World} {g gn gb gt : Nat} {q : QS} (h : Qt W g gn gb gt q w) : Calls Tryd.prog 12 #[.pointer (some ⟨g, 0, none⟩)] w fun e w' => e = .returned (.int .u64 (manyQ q)) ∧ Below w.heap.size w w' := by
  have k1 := h.c1
  have k2 := h.c2
  have kl := h.blk.lt
  have HM : Hid (manyQ q = estI q.b (List.zipWith max (List.zipWith max (zerosN q.b) q.rn) q.rb)) := Lib.hid rfl
  generalize manyQ q = M at *
  have HN := Lib.hid h.now
  have HB := Lib.hid h.bef
  have hbc := Lib.hid h.now.bits_cases
  have HK := Lib.hid h.blk
  clear h
  go_enter Tryd.func12, Tryd.ntmps12
  go_wp2_with fail
  refine (Bits_any gn q.b q.rn w HN.out).mono ?_
  rintro e w1 ⟨rfl, rfl⟩
  go_wp2_with fail
  refine (New_yes q.b w hbc.out).mono ?_
  rintro e w1 ⟨rfl, S1, b1⟩
  have HN1 := Lib.hid (Sk.step b1 HN.out)
  have HB1 := Lib.hid (Sk.step b1 HB.out)
  have hne1 : Hid (w.heap.size ≠ gn) := Lib.hid (by have := HN.out.lt; omega)
  have hne2 : Hid (w.heap.size ≠ gb) := Lib.hid (by have := HB.out.lt; omega)
  have HK1 := Lib.hid (Blk.step b1 HK.out)
  have j1 : _ = some (Value.pointer (some ⟨gn, 0, none⟩)) := HK1.out.cellAt 1 rfl
  have jl := HK1.out.lt
  have hgz : Hid (some g ≠ some w.heap.size) := Lib.hid (by intro e; injection e with e; omega)
  go_wp2_with fail
  refine (Merge_yes w.heap.size gn q.b _ _ w1 S1 HN1.out hne1.out).mono ?_
  rintro e w2 ⟨rfl, S2, G2⟩
  have HB2 := Lib.hid (HB1.out.grown G2 (by intro e; injection e with e; exact hne2.out e.symm))
  have HK2 := Lib.hid (HK1.out.grown G2 hgz.out)
  have m2 : _ = some (Value.pointer (some ⟨gb, 0, none⟩)) := HK2.out.cellAt 2 rfl
  have ml := HK2.out.lt
  clear S1 j1 jl
  go_wp2_with fail
  refine (Merge_yes w.heap.size gb q.b _ _ w2 S2 HB2.out hne2.out).mono ?_
  rintro e w3 ⟨rfl, S3, G3⟩
  clear S2 m2 ml
  go_wp2_with fail
  refine (Estimate_any w.heap.size q.b _ w3 S3).mono ?_
  rintro e w4 ⟨rfl, b4⟩
  go_wp2_with fail
  go_ret
  refine ⟨ret_int HM.out.symm, ?_⟩
  exact bstep b4 (bgrown (bgrown b1 G2 (fun q hq => by injection hq with e; omega)) G3 (fun q hq => by injection hq with e; omega))
theorem closed_call {W w : World} {g gn gb gt : Nat} {q : QS} (h : Qt W g gn gb gt q w) : Calls Tryd.prog 10 #[.pointer (some ⟨g, 0, none⟩)] w fun e w' => e = .returned (.bool q.closed) ∧ w = w' := by
  have k3 := h.c3
  have kl := h.blk.lt
  clear h
  go_enter Tryd.func10, Tryd.ntmps10
  go_wp2_with fail
  go_ret
  exact ⟨rfl, rfl⟩
theorem window_call {W w : World} {g gn gb gt : Nat} {q : QS} (h : Qt W g gn gb gt q w) : Calls Tryd.prog 15 #[.pointer (some ⟨g, 0, none⟩)] w fun e w' => e = .returned (.int .i64 q.win) ∧ w = w' := by
  have k3 := h.c0
  have kl := h.blk.lt
  clear h
  go_enter Tryd.func15, Tryd.ntmps15
  go_wp2_with fail
  go_ret
  exact ⟨rfl, rfl⟩
/-- What is decided. -/
def decideQ (closed known full : Bool) : Int := if known then 0 else if closed then 10 else if full then 4 else 0
theorem decide_call {W w : World} {g gn gb gt : Nat} {q : QS} (known full : Bool) (h : Qt W g gn gb gt q w) : Calls Tryd.prog 25 #[.pointer (some ⟨g, 0, none⟩), .bool known, .bool full] w fun e w' => e = .returned (.int .i64 (decideQ q.closed known full)) ∧ w = w' := by
  have k3 := h.c3
  have kl := h.blk.lt
  clear h
  generalize q.closed = c at *
  cases known <;> cases c <;> cases full
  all_goals
    go_enter Tryd.func25, Tryd.ntmps25
    go_wp2_with fail
    repeat (go_step3; go_wp2_with fail)
    (try rw [Exit.noGoto_ret])
    go_ret
    exact ⟨rfl, rfl⟩
end Go.Proofs.YtapiehddcdnadaaDoor

/- A quota in memory; Many, Closed, Window, decide. New of a quota. Admit of a quota. State of a quota. The law's same and refState. -/
import Derived.Test.YtapiehddcdnadaaGreatDoorM9
import Derived.Test.YtapiehddcdnadaaGreatDoorM2
import Derived.Test.YtapiehddcdnadaaGreatDoorM1
import Derived.Test.YtapiehddcdnadaaGreatDoorQuP
import Derived.Test.YtapiehddcdnadaaGreatDoorM3
import Derived.WalkMore
import Derived.Deep.CutBlock
import Derived.Deep.CutRange
import Derived.Test.YtapiehddcdnadaaGreatDoorM11
import Derived.Test.YtapiehddcdnadaaGreatDoorM12
import Derived.Deep.RegionLaw
import Derived.BigQuiet
namespace Go.Proofs.YtapiehddcdnadaaGreatDoor
open Go.RowKit
set_option linter.unusedVariables false
set_option linter.unusedSimpArgs false

/-- A quota. -/
structure QS where
  win : Int
  closed : Bool
  low : Int
  high : Int
  b : Nat
  rn : List Int
  rb : List Int
  room : Nat
  seen : Nat
  l : List It
def zerosN (b : Nat) : List Int := List.replicate (2 ^ b) 0
def quCells (q : QS) (gn gb gt : Nat) : Array Value := #[.int .i64 q.win, .pointer (some ⟨gn, 0, none⟩), .pointer (some ⟨gb, 0, none⟩), .bool q.closed, .int .u64 q.low, .int .u64 q.high, .pointer (some ⟨gt, 0, none⟩)]
/-- The quota q at g, its sketches and its top where gn, gb, gt say; all of this is new since W. -/
structure Qt (W : World) (g gn gb gt : Nat) (q : QS) (w : World) : Prop where
  blk : Blk w g 84 (quCells q gn gb gt)
  now : Sk w gn q.b q.rn
  bef : Sk w gb q.b q.rb
  ne : gn ≠ gb
  tm : TM W W.heap.size gt q.room q.seen q.l w
  g0 : W.heap.size ≤ g
  gn0 : W.heap.size ≤ gn
  gb0 : W.heap.size ≤ gb
  win0 : 0 ≤ q.win ∧ q.win ≤ 9223372036854775807
  low0 : 0 ≤ q.low
def QQ (W : World) (g : Nat) (q : QS) (w : World) : Prop := ∃ gn gb gt, Qt W g gn gb gt q w
section
variable {W w w' : World} {g gn gb gt : Nat} {q : QS}
theorem Qt.below (h : Qt W g gn gb gt q w) : Below W.heap.size W w := h.tm.below
theorem QQ.below (h : QQ W g q w) : Below W.heap.size W w := by obtain ⟨_, _, _, h⟩ := h; exact h.below
theorem Qt.step (h : Qt W g gn gb gt q w) (hb : Below w.heap.size w w') : Qt W g gn gb gt q w' := ⟨Blk.step hb h.blk, Sk.step hb h.now, Sk.step hb h.bef, h.ne, h.tm.step hb, h.g0, h.gn0, h.gb0, h.win0, h.low0⟩
theorem QQ.step (h : QQ W g q w) (hb : Below w.heap.size w w') : QQ W g q w' := by obtain ⟨a, b, c, h⟩ := h; exact ⟨a, b, c, h.step hb⟩
theorem Qt.tab (h : Qt W g gn gb gt q w) (hT : Tab W) : Tab w := hT.step h.below
theorem Qt.c0 (h : Qt W g gn gb gt q w) : w.cell? ⟨g, 0, none⟩ = some (.int .i64 q.win) := h.blk.cellAt 0 rfl
theorem Qt.c1 (h : Qt W g gn gb gt q w) : w.cell? ⟨g, 1, none⟩ = some (.pointer (some ⟨gn, 0, none⟩)) := h.blk.cellAt 1 rfl
theorem Qt.c2 (h : Qt W g gn gb gt q w) : w.cell? ⟨g, 2, none⟩ = some (.pointer (some ⟨gb, 0, none⟩)) := h.blk.cellAt 2 rfl
theorem Qt.c3 (h : Qt W g gn gb gt q w) : w.cell? ⟨g, 3, none⟩ = some (.bool q.closed) := h.blk.cellAt 3 rfl
theorem Qt.c4 (h : Qt W g gn gb gt q w) : w.cell? ⟨g, 4, none⟩ = some (.int .u64 q.low) := h.blk.cellAt 4 rfl
theorem Qt.c5 (h : Qt W g gn gb gt q w) : w.cell? ⟨g, 5, none⟩ = some (.int .u64 q.high) := h.blk.cellAt 5 rfl
theorem Qt.c6 (h : Qt W g gn gb gt q w) : w.cell? ⟨g, 6, none⟩ = some (.pointer (some ⟨gt, 0, none⟩)) := h.blk.cellAt 6 rfl
theorem Qt.gn_ne (h : Qt W g gn gb gt q w) : g ≠ gn ∧ g ≠ gb := ⟨h.blk.ne_ h.now.blk (by decide), h.blk.ne_ h.bef.blk (by decide)⟩
end

/-- How many there were. -/
def manyQ (q : QS) : Int := estI q.b (List.zipWith max (List.zipWith max (zerosN q.b) q.rn) q.rb)
theorem many_call {W w : World} {g gn gb gt : Nat} {q : QS} (h : Qt W g gn gb gt q w) : Calls Tryz.prog 20 #[.pointer (some ⟨g, 0, none⟩)] w fun e w' => e = .returned (.int .u64 (manyQ q)) ∧ Below w.heap.size w w' := by
  have k1 := h.c1
  have k2 := h.c2
  have kl := h.blk.lt
  have HM : Hid (manyQ q = estI q.b (List.zipWith max (List.zipWith max (zerosN q.b) q.rn) q.rb)) := Lib.hid rfl
  generalize manyQ q = M at *
  have HN := Lib.hid h.now
  have HB := Lib.hid h.bef
  have hbc := Lib.hid h.now.bits_cases
  have HK := Lib.hid h.blk
  clear h
  go_enter Tryz.func20, Tryz.ntmps20
  go_wp2_with fail
  refine (Bits_any gn q.b q.rn w HN.out).mono ?_
  rintro e w1 ⟨rfl, rfl⟩
  go_wp2_with fail
  refine (New_yes q.b w hbc.out).mono ?_
  rintro e w1 ⟨rfl, S1, b1⟩
  have HN1 := Lib.hid (Sk.step b1 HN.out)
  have HB1 := Lib.hid (Sk.step b1 HB.out)
  have hne1 : Hid (w.heap.size ≠ gn) := Lib.hid (by have := HN.out.lt; omega)
  have hne2 : Hid (w.heap.size ≠ gb) := Lib.hid (by have := HB.out.lt; omega)
  have HK1 := Lib.hid (Blk.step b1 HK.out)
  have j1 : _ = some (Value.pointer (some ⟨gn, 0, none⟩)) := HK1.out.cellAt 1 rfl
  have jl := HK1.out.lt
  have hgz : Hid (some g ≠ some w.heap.size) := Lib.hid (by intro e; injection e with e; omega)
  go_wp2_with fail
  refine (Merge_yes w.heap.size gn q.b _ _ w1 S1 HN1.out hne1.out).mono ?_
  rintro e w2 ⟨rfl, S2, G2⟩
  have HB2 := Lib.hid (HB1.out.grown G2 (by intro e; injection e with e; exact hne2.out e.symm))
  have HK2 := Lib.hid (HK1.out.grown G2 hgz.out)
  have m2 : _ = some (Value.pointer (some ⟨gb, 0, none⟩)) := HK2.out.cellAt 2 rfl
  have ml := HK2.out.lt
  clear S1 j1 jl
  go_wp2_with fail
  refine (Merge_yes w.heap.size gb q.b _ _ w2 S2 HB2.out hne2.out).mono ?_
  rintro e w3 ⟨rfl, S3, G3⟩
  clear S2 m2 ml
  go_wp2_with fail
  refine (Estimate_any w.heap.size q.b _ w3 S3).mono ?_
  rintro e w4 ⟨rfl, b4⟩
  go_wp2_with fail
  go_ret
  refine ⟨ret_int HM.out.symm, ?_⟩
  exact bstep b4 (bgrown (bgrown b1 G2 (fun q hq => by injection hq with e; omega)) G3 (fun q hq => by injection hq with e; omega))
theorem closed_call {W w : World} {g gn gb gt : Nat} {q : QS} (h : Qt W g gn gb gt q w) : Calls Tryz.prog 24 #[.pointer (some ⟨g, 0, none⟩)] w fun e w' => e = .returned (.bool q.closed) ∧ w = w' := by
  have k3 := h.c3
  have kl := h.blk.lt
  clear h
  go_enter Tryz.func24, Tryz.ntmps24
  go_wp2_with fail
  go_ret
  exact ⟨rfl, rfl⟩
theorem window_call {W w : World} {g gn gb gt : Nat} {q : QS} (h : Qt W g gn gb gt q w) : Calls Tryz.prog 10 #[.pointer (some ⟨g, 0, none⟩)] w fun e w' => e = .returned (.int .i64 q.win) ∧ w = w' := by
  have k3 := h.c0
  have kl := h.blk.lt
  clear h
  go_enter Tryz.func10, Tryz.ntmps10
  go_wp2_with fail
  go_ret
  exact ⟨rfl, rfl⟩
/-- What is decided. -/
def decideQ (closed known full : Bool) : Int := if known then 0 else if closed then 10 else if full then 4 else 0
theorem decide_call {W w : World} {g gn gb gt : Nat} {q : QS} (known full : Bool) (h : Qt W g gn gb gt q w) : Calls Tryz.prog 60 #[.pointer (some ⟨g, 0, none⟩), .bool known, .bool full] w fun e w' => e = .returned (.int .i64 (decideQ q.closed known full)) ∧ w = w' := by
  have k3 := h.c3
  have kl := h.blk.lt
  clear h
  generalize q.closed = c at *
  cases known <;> cases c <;> cases full
  all_goals
    go_enter Tryz.func60, Tryz.ntmps60
    go_wp2_with fail
    repeat (go_step3; go_wp2_with fail)
    (try rw [Exit.noGoto_ret])
    go_ret
    exact ⟨rfl, rfl⟩
end Go.Proofs.YtapiehddcdnadaaGreatDoor
namespace Go.Proofs.YtapiehddcdnadaaGreatDoor
open Go.RowKit
set_option linter.unusedVariables false
set_option linter.unusedSimpArgs false

structure PolN.Ok (p : PolN) : Prop where
  sk : 4 ≤ p.sketch ∧ p.sketch ≤ 10
  tp : 1 ≤ p.top ∧ p.top ≤ 16
  lo : 0 ≤ p.low ∧ p.low ≤ p.high
  hi : p.high ≤ 1000000
theorem num_ok {p : PolN} (h : (List.range 10).all (numOk p) = true) (k : Nat) (hk : k < 10) : leastL.getD k 0 ≤ p.list.getD k 0 ∧ p.list.getD k 0 ≤ (mostL p.high).getD k 0 := by
  rw [List.all_eq_true] at h
  have h2 := h k (List.mem_range.2 hk)
  unfold numOk at h2
  simp only [Bool.and_eq_true, decide_eq_true_eq] at h2
  exact h2
theorem right_ok {p : PolN} {xs : List Int} (h : rightP p xs = true) : p.Ok := by
  unfold rightP at h
  simp only [Bool.and_eq_true] at h
  have h1 := num_ok h.1.1.1
  have h2 := h1 1 (by omega)
  have h3 := h1 2 (by omega)
  have h4 := h1 3 (by omega)
  have h5 := h1 4 (by omega)
  simp [leastL, mostL, PolN.list] at h2 h3 h4 h5
  exact ⟨h5, h4, h2, h3.2⟩
def newQ (p : PolN) (window : Int) : QS := ⟨window, false, min p.low p.high, p.high, p.sketch.toNat, zerosN p.sketch.toNat, zerosN p.sketch.toNat, p.top.toNat, 0, []⟩
def NewPost (W : World) (q : QS) (e : Ending) (w' : World) : Prop := ∃ g, e = .returned (.tuple #[.pointer (some ⟨g, 0, none⟩), .int .i64 0]) ∧ QQ W g q w'

set_option maxRecDepth 100000 in
set_option maxHeartbeats 4000000 in
theorem new_no_call (p : PolN) (a : Option Addr) (n c : Nat) (xs : List Int) (window : Int) (w : World) (hx : Ints .i64 w a n xs) (hn : n ≤ 9223372036854775807) (hr : rightP p xs = false ∨ window < 0) :
    Calls Tryz.prog 7 #[polV p a n c, .int .i64 window] w fun e w' => e = .returned (.tuple #[.pointer none, .int .i64 1]) ∧ Below w.heap.size w w' := by
  have HR := Lib.hid (fun W hW => right_call p a n c xs W hW hn)
  have HX := Lib.hid (fun o => hx.step (balloc (Below.refl _ w) o))
  generalize rightP p xs = R at *
  unfold polV at *
  clear hx
  cases R
  · clear hr
    go_enter Tryz.func7, Tryz.ntmps7
    go_wp2_with fail
    refine (HR.out _ (HX.out _)).mono ?_
    rintro e w1 ⟨rfl, b1⟩
    go_wp2_with fail
    go_ret2
    exact ⟨rfl, bstep b1 (balloc (Below.refl _ _) _)⟩
  · have hlt : window < 0 := by simpa using hr
    clear hr
    go_enter Tryz.func7, Tryz.ntmps7
    go_wp2_with fail
    refine (HR.out _ (HX.out _)).mono ?_
    rintro e w1 ⟨rfl, b1⟩
    go_wp2_with fail
    go_ret2
    exact ⟨rfl, bstep b1 (balloc (Below.refl _ _) _)⟩

set_option maxRecDepth 100000 in
set_option maxHeartbeats 4000000 in
theorem new_call (W : World) (p : PolN) (a : Option Addr) (n c : Nat) (xs : List Int) (window : Int) (w : World) (hW : Below W.heap.size W w) (hx : Ints .i64 w a n xs) (hn : n ≤ 9223372036854775807) (hr : rightP p xs = true) (h0 : 0 ≤ window) (h1 : window ≤ 9223372036854775807) :
    Calls Tryz.prog 7 #[polV p a n c, .int .i64 window] w (NewPost W (newQ p window)) := by
  have HR := Lib.hid (fun W hW => right_call p a n c xs W hW hn)
  have HX := Lib.hid (fun o => hx.step (balloc (Below.refl _ w) o))
  have ok := right_ok hr
  rw [hr] at HR
  unfold polV at *
  clear hx hr
  have HWs := Lib.hid hW
  clear hW
  obtain ⟨slots, low, high, top, sketch, fine, idle, wd, late, future⟩ := p
  obtain ⟨o1, o2, o3, o4⟩ := ok
  simp only at o1 o2 o3 o4 HR
  obtain ⟨b, rfl⟩ : ∃ b : Nat, sketch = b := ⟨sketch.toNat, by omega⟩
  obtain ⟨rm, rfl⟩ : ∃ b : Nat, top = b := ⟨top.toNat, by omega⟩
  have hbc : Hid (b = 4 ∨ b = 5 ∨ b = 6 ∨ b = 7 ∨ b = 8 ∨ b = 9 ∨ b = 10) := Lib.hid (by omega)
  have HQ : Hid (newQ ⟨slots, low, high, (rm : Int), (b : Int), fine, idle, wd, late, future⟩ window = ⟨window, false, min low high, high, b, zerosN b, zerosN b, rm, 0, []⟩) := Lib.hid rfl
  rw [HQ.out]
  clear HQ
  go_enter Tryz.func7, Tryz.ntmps7
  go_wp2_with fail
  refine (HR.out _ (HX.out _)).mono ?_
  rintro e w1 ⟨rfl, b1⟩
  have B0 := Blk.step b1 (Blk.new w 24 #[.int .i64 slots, .int .i64 low, .int .i64 high, .int .i64 rm, .int .i64 b, .int .i64 fine, .int .i64 idle, .int .i64 wd, .int .i64 late, .int .i64 future, .slice a n c])
  have k1 : _ = some (Value.int .i64 low) := B0.cellAt 1 rfl
  have k2 : _ = some (Value.int .i64 high) := B0.cellAt 2 rfl
  have hb1 := Lib.hid (bstep b1 (balloc (Below.refl w.heap.size w) _))
  have kl := B0.lt
  have HB0 := Lib.hid B0
  clear b1 HR HX B0
  go_wp2_with fail
  refine (gnew_any low high w1).mono ?_
  rintro e w2 ⟨rfl, b2⟩
  have HB1 := Lib.hid (Blk.step b2 HB0.out)
  have hb2 := Lib.hid (bstep b2 hb1.out)
  clear k1 k2 kl HB0 hb1 b2
  have hlo2 : Hid (0 ≤ min low high) := Lib.hid (by omega)
  generalize min low high = lo2 at *
  have k4 : _ = some (Value.int .i64 b) := HB1.out.cellAt 4 rfl
  have kl := HB1.out.lt
  go_upto_region 4 with fail
  have BQ := Blk.new w2 84 #[.int .i64 window, .pointer none, .pointer none, .bool false, .int .u64 lo2, .int .u64 high, .pointer none]
  have HB2 := Lib.hid (HB1.out.alloc (.cells #[.int .i64 window, .pointer none, .pointer none, .bool false, .int .u64 lo2, .int .u64 high, .pointer none] 84))
  have hW3 : Hid (Below W.heap.size W (w2.alloc (.cells #[.int .i64 window, .pointer none, .pointer none, .bool false, .int .u64 lo2, .int .u64 high, .pointer none] 84))) := Lib.hid (HWs.out.trans ((balloc hb2.out _).mono HWs.out.size))
  have hg0 : Hid (W.heap.size ≤ w2.heap.size) := Lib.hid (Nat.le_trans HWs.out.size hb2.out.size)
  generalize hw3 : (w2.alloc (.cells #[.int .i64 window, .pointer none, .pointer none, .bool false, .int .u64 lo2, .int .u64 high, .pointer none] 84)) = w3 at *
  clear hw3 k4 kl HB1 hb2
  generalize w2.heap.size = g at *
  have k4 : _ = some (Value.int .i64 b) := HB2.out.cellAt 4 rfl
  have kl := HB2.out.lt
  have HQ3 := Lib.hid BQ
  clear BQ
  go_wp2_with fail
  refine (New_yes b w3 hbc.out).mono ?_
  rintro e w4 ⟨rfl, S1, b4⟩
  have BQ4 := Blk.step b4 HQ3.out
  have gl := BQ4.lt
  have gf := BQ4.frozen
  have gc1 : _ = some (Value.pointer none) := BQ4.cellAt 1 rfl
  have HB4 := Lib.hid ((Blk.step b4 HB2.out).far (p := ⟨g, 1, none⟩) (by intro e; have := BQ4.ne_ (Blk.step b4 HB2.out) (by decide); exact this e.symm) (.pointer (some ⟨w3.heap.size, 0, none⟩)))
  have hgn : Hid (g ≠ w3.heap.size) := Lib.hid (by have := HQ3.out.lt; omega)
  have hgn0 : Hid (W.heap.size ≤ w3.heap.size) := Lib.hid hW3.out.size
  have HS1 := Lib.hid (S1.grown (only_set w4 g 1 (.pointer (some ⟨w3.heap.size, 0, none⟩))) (by intro e; injection e with e; exact hgn.out e.symm))
  have HQ4 := Lib.hid (BQ4.put 1 (.pointer (some ⟨w3.heap.size, 0, none⟩)))
  have hW4 := Lib.hid (bset (hW3.out.trans (b4.mono hW3.out.size)) (p := ⟨g, 1, none⟩) hg0.out (.pointer (some ⟨w3.heap.size, 0, none⟩)))
  clear b4 S1 BQ4 k4 kl HB2 HQ3 hW3
  generalize w3.heap.size = gn at *
  go_upto_region 5 with fail
  clear gl gf gc1
  generalize (w4.setCell ⟨g, 1, none⟩ (.pointer (some ⟨gn, 0, none⟩))) = w5 at *
  have k4 : _ = some (Value.int .i64 b) := HB4.out.cellAt 4 rfl
  have kl := HB4.out.lt
  go_wp2_with fail
  refine (New_yes b w5 hbc.out).mono ?_
  rintro e w6 ⟨rfl, S2, b6⟩
  have BQ6 := Blk.step b6 HQ4.out
  have gl := BQ6.lt
  have gf := BQ6.frozen
  have gc1 : _ = some (Value.pointer none) := BQ6.cellAt 2 rfl
  have HB6 := Lib.hid ((Blk.step b6 HB4.out).far (p := ⟨g, 2, none⟩) (by intro e; have := BQ6.ne_ (Blk.step b6 HB4.out) (by decide); exact this e.symm) (.pointer (some ⟨w5.heap.size, 0, none⟩)))
  have hgb : Hid (g ≠ w5.heap.size) := Lib.hid (by have := HQ4.out.lt; omega)
  have hgb0 : Hid (W.heap.size ≤ w5.heap.size) := Lib.hid hW4.out.size
  have hnb : Hid (gn ≠ w5.heap.size) := Lib.hid (by have := HS1.out.lt; omega)
  have HS2 := Lib.hid (S2.grown (only_set w6 g 2 (.pointer (some ⟨w5.heap.size, 0, none⟩))) (by intro e; injection e with e; exact hgb.out e.symm))
  have HS1b := Lib.hid ((Sk.step b6 HS1.out).grown (only_set w6 g 2 (.pointer (some ⟨w5.heap.size, 0, none⟩))) (by intro e; injection e with e; exact hgn.out e.symm))
  have HQ6 := Lib.hid (BQ6.put 2 (.pointer (some ⟨w5.heap.size, 0, none⟩)))
  have hW6 := Lib.hid (bset (hW4.out.trans (b6.mono hW4.out.size)) (p := ⟨g, 2, none⟩) hg0.out (.pointer (some ⟨w5.heap.size, 0, none⟩)))
  clear b6 S2 BQ6 k4 kl HB4 HQ4 hW4 HS1
  generalize w5.heap.size = gb at *
  go_upto_region 6 with fail
  clear gl gf gc1
  generalize (w6.setCell ⟨g, 2, none⟩ (.pointer (some ⟨gb, 0, none⟩))) = w7 at *
  have k3 : _ = some (Value.int .i64 rm) := HB6.out.cellAt 3 rfl
  have kl := HB6.out.lt
  go_wp2_with fail
  refine (tm_new (W := W) (base := W.heap.size) rm (by omega) (by omega) hW6.out (Nat.le_refl _)).mono ?_
  rintro e w8 ⟨rfl, T, b8⟩
  have BQ8 := Blk.step b8 HQ6.out
  have gl := BQ8.lt
  have gf := BQ8.frozen
  have gc1 : _ = some (Value.pointer none) := BQ8.cellAt 6 rfl
  have hgt : g ≠ w7.heap.size := by have := HQ6.out.lt; omega
  have HS1c := Lib.hid ((Sk.step b8 HS1b.out).grown (only_set w8 g 6 (.pointer (some ⟨w7.heap.size, 0, none⟩))) (by intro e; injection e with e; exact hgn.out e.symm))
  have HS2c := Lib.hid ((Sk.step b8 HS2.out).grown (only_set w8 g 6 (.pointer (some ⟨w7.heap.size, 0, none⟩))) (by intro e; injection e with e; exact hgb.out e.symm))
  have HT := Lib.hid (T.set (i := 6) BQ8 hgt (by decide) hg0.out (.pointer (some ⟨w7.heap.size, 0, none⟩)))
  have HQ8 := Lib.hid (BQ8.put 6 (.pointer (some ⟨w7.heap.size, 0, none⟩)))
  clear b8 T BQ8 k3 kl HB6 HQ6 hW6 HS1b HS2 hgt
  go_upto_region 7 with fail
  clear gl gf gc1
  generalize (w8.setCell ⟨g, 6, none⟩ (.pointer (some ⟨w7.heap.size, 0, none⟩))) = w9 at *
  go_wp2_with fail
  go_ret2
  exact ⟨g, rfl, gn, gb, _, HQ8.out, HS1c.out, HS2c.out, hnb.out, HT.out, hg0.out, hgn0.out, hgb0.out, ⟨h0, h1⟩, hlo2.out⟩
end Go.Proofs.YtapiehddcdnadaaGreatDoor
namespace Go.Proofs.YtapiehddcdnadaaGreatDoor
open Go.RowKit
set_option linter.unusedVariables false
set_option linter.unusedSimpArgs false

section
variable {W w w' : World} {base g gn gb gt : Nat} {q : QS}
theorem TM.grown {room seen : Nat} {l : List It} (h : TM W base g room seen l w) {b : Nat} {t : TypeId} {cs : Array Value} (hB : Blk w b t cs) (hg : b ≠ g) (ht : t ≠ 75) (hb : base ≤ b) (hG : w.grownBy w' (some b)) : TM W base g room seen l w' := by
  have hbs := h.bs
  obtain ⟨A, n, c, T, I, B, hW⟩ := h
  exact ⟨A, n, c, ⟨Blk.grown hG T.blk (by intro e; injection e with e; exact hg e.symm), ⟨T.its.own.kept hG (.inr (fun e => T.its.far hB ht e.symm))⟩, T.g0, T.rm, T.ln, T.sn, T.bd⟩, I, B.grown hG hbs (fun k hk => by injection hk with hk; omega), hW⟩
theorem TM.blk {room seen : Nat} {l : List It} (h : TM W base g room seen l w) : ∃ cs, Blk w g 122 cs := by
  obtain ⟨A, n, c, T, I, B, hW⟩ := h
  exact ⟨_, T.blk⟩
theorem Qt.gt_ne (h : Qt W g gn gb gt q w) : g ≠ gt ∧ gn ≠ gt ∧ gb ≠ gt := by
  obtain ⟨cs, hB⟩ := h.tm.blk
  exact ⟨h.blk.ne_ hB (by decide), h.now.blk.ne_ hB (by decide), h.bef.blk.ne_ hB (by decide)⟩
/-- The new sketch alone has turned. -/
theorem Qt.now' (h : Qt W g gn gb gt q w) {r : List Int} (hS : Sk w' gn q.b r) (hG : w.grownBy w' (some gn)) : Qt W g gn gb gt { q with rn := r } w' :=
  ⟨Blk.grown hG h.blk (by intro e; injection e with e; exact h.gn_ne.1 e), hS, h.bef.grown hG (by intro e; injection e with e; exact h.ne e.symm), h.ne, h.tm.grown h.now.blk h.gt_ne.2.1 (by decide) h.gn0 hG, h.g0, h.gn0, h.gb0, h.win0, h.low0⟩
theorem Qt.bef' (h : Qt W g gn gb gt q w) {r : List Int} (hS : Sk w' gb q.b r) (hG : w.grownBy w' (some gb)) : Qt W g gn gb gt { q with rb := r } w' :=
  ⟨Blk.grown hG h.blk (by intro e; injection e with e; exact h.gn_ne.2 e), h.now.grown hG (by intro e; injection e with e; exact h.ne e), hS, h.ne, h.tm.grown h.bef.blk h.gt_ne.2.2 (by decide) h.gb0 hG, h.g0, h.gn0, h.gb0, h.win0, h.low0⟩
/-- Cells of the quota's own block are set. -/
theorem Qt.own' (h : Qt W g gn gb gt q w) {q' : QS} (hG : w.grownBy w' (some g)) (hB : Blk w' g 84 (quCells q' gn gb gt)) (e1 : q'.b = q.b) (e2 : q'.rn = q.rn) (e3 : q'.rb = q.rb) (e4 : q'.room = q.room) (e5 : q'.seen = q.seen) (e6 : q'.l = q.l) (e7 : 0 ≤ q'.win ∧ q'.win ≤ 9223372036854775807) (e8 : 0 ≤ q'.low) : Qt W g gn gb gt q' w' := by
  refine ⟨hB, ?_, ?_, h.ne, ?_, h.g0, h.gn0, h.gb0, e7, e8⟩
  · rw [e1, e2]; exact h.now.grown hG (by intro e; injection e with e; exact h.gn_ne.1 e.symm)
  · rw [e1, e3]; exact h.bef.grown hG (by intro e; injection e with e; exact h.gn_ne.2 e.symm)
  · rw [e4, e5, e6]; exact h.tm.grown h.blk h.gt_ne.1 (by decide) h.g0 hG
/-- The top alone has turned. -/
theorem Qt.top' (h : Qt W g gn gb gt q w) {seen : Nat} {l : List It} (hT : TM W W.heap.size gt q.room seen l w') (hF : Far gt w w') : Qt W g gn gb gt { q with seen := seen, l := l } w' :=
  ⟨hF.2 _ _ _ h.blk h.gt_ne.1 (by decide), ⟨hF.2 _ _ _ h.now.blk h.gt_ne.2.1 (by decide), h.now.lo, h.now.hi, h.now.len, h.now.wf⟩, ⟨hF.2 _ _ _ h.bef.blk h.gt_ne.2.2 (by decide), h.bef.lo, h.bef.hi, h.bef.len, h.bef.wf⟩, h.ne, hT, h.g0, h.gn0, h.gb0, h.win0, h.low0⟩
theorem Qt.gate' (h : Qt W g gn gb gt q w) (c : Bool) (lo hi : Int) (hlo : 0 ≤ lo) : Qt W g gn gb gt { q with closed := c, low := lo, high := hi } (((w.setCell ⟨g, 3, none⟩ (.bool c)).setCell ⟨g, 4, none⟩ (.int .u64 lo)).setCell ⟨g, 5, none⟩ (.int .u64 hi)) := by
  have hG : w.grownBy (((w.setCell ⟨g, 3, none⟩ (.bool c)).setCell ⟨g, 4, none⟩ (.int .u64 lo)).setCell ⟨g, 5, none⟩ (.int .u64 hi)) (some g) := by
    refine only_setCell ?_ (.inl rfl) _
    refine only_setCell ?_ (.inl rfl) _
    refine only_setCell ?_ (.inl rfl) _
    exact only_refl _ _
  have hB := ((h.blk.put 3 (.bool c)).put 4 (.int .u64 lo)).put 5 (.int .u64 hi)
  exact h.own' (q' := { q with closed := c, low := lo, high := hi }) hG hB rfl rfl rfl rfl rfl rfl h.win0 hlo
theorem Qt.drew (h : Qt W g gn gb gt q w) : Qt W g gn gb gt q w.drew := h.step (bdrew (Below.refl _ _))
end
def addQ (q : QS) (key : ByteArray) : QS := { q with rn := addR q.b q.rn (sumN key) }
def seeQ (q : QS) : QS := { q with closed := q.closed || decide (q.high ≤ manyQ q) }
def topQ (q : QS) (metric : ByteArray) : QS := { q with seen := stepS q.seen metric 1, l := stepT q.room q.seen q.l metric 1 }
def admitE (q : QS) (key : ByteArray) (known full : Bool) : Int := decideQ (seeQ (addQ q key)).closed known full
def admitQ (q : QS) (key metric : ByteArray) (known full : Bool) : QS := if admitE q key known full = 0 then seeQ (addQ q key) else topQ (seeQ (addQ q key)) metric
theorem decideQ_cases (c k f : Bool) : decideQ c k f = 0 ∨ decideQ c k f = 10 ∨ decideQ c k f = 4 := by cases c <;> cases k <;> cases f <;> decide

theorem fldG_0 (c : Bool) (lo hi : Int) (w : World) : (Instr.field 79 (.agg #[.bool c, .int .u64 lo, .int .u64 hi]) 0).run Tryz.prog w = .ok (.bool c) w := by kernel_rfl
set_option maxRecDepth 100000 in
set_option maxHeartbeats 2000000 in
theorem admit_call {W w : World} {g gn gb gt : Nat} {q : QS} (hT : Tab W) (key metric : ByteArray) (known full : Bool) (hk : key.size ≤ 9223372036854775806) (hm : metric.size ≤ 64) (h : Qt W g gn gb gt q w) :
    Calls Tryz.prog 22 #[.pointer (some ⟨g, 0, none⟩), .string key, .string metric, .bool known, .bool full] w fun e w' => e = .returned (.int .i64 (admitE q key known full)) ∧ Qt W g gn gb gt (admitQ q key metric known full) w' := by
  have hms : (metric.size : Int) ≤ 64 := by omega
  have HT := Lib.hid hT
  have HE : Hid (admitE q key known full = decideQ (seeQ (addQ q key)).closed known full) := Lib.hid rfl
  have HA : Hid (admitQ q key metric known full = if admitE q key known full = 0 then seeQ (addQ q key) else topQ (seeQ (addQ q key)) metric) := Lib.hid rfl
  generalize admitQ q key metric known full = Q at *
  generalize admitE q key known full = E at *
  have k1 := h.c1
  have kl := h.blk.lt
  have H := h
  clear h hT
  go_enter Tryz.func22, Tryz.ntmps22
  go_upto_region 3 with fail
  have A := H.drew
  go_region_held3 (fun w' => w'.cell? ⟨g, 1, none⟩ = some (.pointer (some ⟨gn, 0, none⟩))) (exact A.c1)
    (first
      | (go_at_call 58; ((with_reducible refine (sum_call key _ hk).mono ?_); rintro e wA ⟨rfl, bA⟩; replace A := A.step bA; clear bA))
      | (go_at_call 57; ((with_reducible refine (Add_any gn q.b q.rn (sumN key) _ (sumI_nat key).2 A.now (A.tab HT.out)).mono ?_); rintro e wA ⟨rfl, hS, hG⟩; have A2 := A.now' hS hG; clear hS hG A; have A := A2; clear A2)))
  go_wp2_with fail
  have e1 : wA = wA := rfl
  clear e1
  generalize hq1 : ({ q with rn := addR q.b q.rn (sumN key) } : QS) = q1 at *
  have HQ1 : Hid (addQ q key = q1) := Lib.hid hq1
  clear hq1 H k1 kl
  rw [HQ1.out] at HE HA
  have HS : Hid (seeQ q1 = { q1 with closed := q1.closed || decide (q1.high ≤ manyQ q1) }) := Lib.hid rfl
  generalize seeQ q1 = q2 at *
  have c3 := A.c3
  have c4 := A.c4
  have c5 := A.c5
  have kl := A.blk.lt
  have kf := A.blk.frozen
  have A0 := A.drew
  clear A
  go_region_with (first
    | (go_at_call 20; ((with_reducible refine (many_call A0).mono ?_); rintro eB wB ⟨rfl, bB⟩; have A1 := A0.step bB; clear bB; have d3 := A1.c3; have d4 := A1.c4; have d5 := A1.c5; have dl := A1.blk.lt; have df := A1.blk.frozen))
    | (go_at_call 59; ((with_reducible refine (gsee_any q1.closed q1.low q1.high (manyQ q1) _).mono ?_); rintro eC wC ⟨rfl, bC⟩; have A2 := A1.step bC; clear bC; have m3 := A2.c3; have m4 := A2.c4; have m5 := A2.c5; have ml := A2.blk.lt; have mf := A2.blk.frozen)))
  all_goals
    have A3 : Qt W g gn gb gt q2 (((wC.setCell ⟨g, 3, none⟩ (.bool (q1.closed || decide (q1.high ≤ manyQ q1)))).setCell ⟨g, 4, none⟩ (.int .u64 q1.low)).setCell ⟨g, 5, none⟩ (.int .u64 q1.high)) := by
      rw [HS.out]
      exact A2.gate' _ q1.low q1.high A2.low0
    generalize (((wC.setCell ⟨g, 3, none⟩ (.bool (q1.closed || decide (q1.high ≤ manyQ q1)))).setCell ⟨g, 4, none⟩ (.int .u64 q1.low)).setCell ⟨g, 5, none⟩ (.int .u64 q1.high)) = w5 at *
    clear c3 c4 c5 kl kf d3 d4 d5 dl df m3 m4 m5 ml mf A0 A1 A2
    have HD := decide_call known full A3
    rw [← HE.out] at HD
    have hE3 : E = 0 ∨ E = 10 ∨ E = 4 := by rw [HE.out]; exact decideQ_cases _ _ _
    have HD2 := Lib.hid HD
    clear HD HE
    rcases hE3 with h | h | h
    · subst h
      have HA2 : Hid (Q = q2) := Lib.hid (by rw [HA.out, if_pos rfl])
      clear HA
      go_wp2_with fail
      refine HD2.out.mono ?_
      rintro e w6 ⟨rfl, rfl⟩
      go_wp2_with fail
      go_ret
      exact ⟨rfl, by rw [HA2.out]; exact A3⟩
    all_goals
      subst h
      have HA2 : Hid (Q = topQ q2 metric) := Lib.hid (by rw [HA.out, if_neg (by decide)])
      clear HA
      go_wp2_with fail
      refine HD2.out.mono ?_
      rintro e w6 ⟨rfl, rfl⟩
      have c6 := A3.c6
      have kl := A3.blk.lt
      go_wp2_with fail
      refine (tm_add metric 1 (by omega) (by omega) A3.tm).mono ?_
      rintro e w7 ⟨rfl, T7, F7⟩
      go_wp2_with fail
      go_ret
      exact ⟨rfl, by rw [HA2.out]; exact A3.top' T7 F7⟩
theorem admit_long {W w : World} {g gn gb gt : Nat} {q : QS} (key metric : ByteArray) (known full : Bool) (hm : 64 < metric.size) (h : Qt W g gn gb gt q w) :
    Calls Tryz.prog 22 #[.pointer (some ⟨g, 0, none⟩), .string key, .string metric, .bool known, .bool full] w fun e w' => e = .returned (.int .i64 1) ∧ w = w' := by
  have hms : (64 : Int) < (metric.size : Int) := by omega
  clear h hm
  go_enter Tryz.func22, Tryz.ntmps22
  go_wp2_with fail
  go_ret
  exact ⟨rfl, rfl⟩
end Go.Proofs.YtapiehddcdnadaaGreatDoor
namespace Go.Proofs.YtapiehddcdnadaaGreatDoor
open Go.RowKit
set_option linter.unusedVariables false
set_option linter.unusedSimpArgs false

section
variable {W w w' : World} {g gn gb gt : Nat} {q : QS}
/-- A block of another kind has turned. -/
theorem Qt.other (h : Qt W g gn gb gt q w) {b : Nat} {t : TypeId} {cs : Array Value} (hB : Blk w b t cs) (h1 : t ≠ 84) (h2 : t ≠ 120) (h3 : t ≠ 122) (h4 : t ≠ 75) (hb : W.heap.size ≤ b) (hG : w.grownBy w' (some b)) : Qt W g gn gb gt q w' := by
  obtain ⟨cs2, hB2⟩ := h.tm.blk
  exact ⟨Blk.grown hG h.blk (by intro e; injection e with e; exact hB.ne_ h.blk h1 e.symm), h.now.grown hG (by intro e; injection e with e; exact hB.ne_ h.now.blk h2 e.symm), h.bef.grown hG (by intro e; injection e with e; exact hB.ne_ h.bef.blk h2 e.symm), h.ne, h.tm.grown hB (hB.ne_ hB2 h3) h4 hb hG, h.g0, h.gn0, h.gb0, h.win0, h.low0⟩
end
def set6 (w : World) (b : Nat) (v0 v1 v2 v3 v4 v5 : Value) : World := (((((w.setCell ⟨b, 0, none⟩ v0).setCell ⟨b, 1, none⟩ v1).setCell ⟨b, 2, none⟩ v2).setCell ⟨b, 3, none⟩ v3).setCell ⟨b, 4, none⟩ v4).setCell ⟨b, 5, none⟩ v5
theorem set6_grown (w : World) (b : Nat) (v0 v1 v2 v3 v4 v5 : Value) : w.grownBy (set6 w b v0 v1 v2 v3 v4 v5) (some b) := by
  unfold set6
  repeat refine only_setCell ?_ (.inl rfl) _
  exact only_refl _ _
theorem Blk.set6 {w : World} {b : Nat} {t : TypeId} {a0 a1 a2 a3 a4 a5 : Value} (h : Blk w b t #[a0, a1, a2, a3, a4, a5]) (v0 v1 v2 v3 v4 v5 : Value) : Blk (Proofs.YtapiehddcdnadaaGreatDoor.set6 w b v0 v1 v2 v3 v4 v5) b t #[v0, v1, v2, v3, v4, v5] := (((((h.put 0 v0).put 1 v1).put 2 v2).put 3 v3).put 4 v4).put 5 v5
def stateV (q : QS) (A : Option Addr) (n c : Nat) : Value := .agg #[.int .i64 q.win, .bool q.closed, .string (strOfNums q.rn), .string (strOfNums q.rb), .int .u64 q.seen, .slice A n c]
def StatePost (w : World) (q : QS) (e : Ending) (w' : World) : Prop := ∃ A n c bs s, e = .returned (stateV q A n c) ∧ Told q.l s ∧ Its w' bs A n c s ∧ Below w.heap.size w w'
set_option maxRecDepth 100000 in
set_option maxHeartbeats 4000000 in
theorem state_call {W w : World} {g gn gb gt : Nat} {q : QS} (h : Qt W g gn gb gt q w) :
    Calls Tryz.prog 16 #[.pointer (some ⟨g, 0, none⟩)] w (StatePost w q) := by
  have HR1 : Hid (∀ W : World, Sk W gn q.b q.rn → Calls Tryz.prog 48 #[.pointer (some ⟨gn, 0, none⟩)] W fun e w' => e = .returned (.string (strOfNums q.rn)) ∧ W = w') := Lib.hid (fun W hW => Registers_any gn q.b q.rn W hW)
  have HR2 : Hid (∀ W : World, Sk W gb q.b q.rb → Calls Tryz.prog 48 #[.pointer (some ⟨gb, 0, none⟩)] W fun e w' => e = .returned (.string (strOfNums q.rb)) ∧ W = w') := Lib.hid (fun W hW => Registers_any gb q.b q.rb W hW)
  have HP : Hid (∀ e w', StatePost w q e w' ↔ ∃ A n c bs s, e = .returned (.agg #[.int .i64 q.win, .bool q.closed, .string (strOfNums q.rn), .string (strOfNums q.rb), .int .u64 q.seen, .slice A n c]) ∧ Told q.l s ∧ Its w' bs A n c s ∧ Below w.heap.size w w') := Lib.hid (fun e w' => Iff.rfl)
  generalize StatePost w q = PP at *
  generalize strOfNums q.rn = s1 at *
  generalize strOfNums q.rb = s2 at *
  have HW : Hid (W.heap.size ≤ w.heap.size) := Lib.hid h.below.size
  have HQ : Hid (Qt W g gn gb gt q w) := Lib.hid h
  clear h
  go_enter Tryz.func16, Tryz.ntmps16
  go_upto_region 1 with fail
  have B := Blk.new w 59 #[.int .i64 0, .bool false, .string ⟨#[]⟩, .string ⟨#[]⟩, .int .u64 0, .slice none 0 0]
  have A := HQ.out.step (balloc (Below.refl _ w) (.cells #[.int .i64 0, .bool false, .string ⟨#[]⟩, .string ⟨#[]⟩, .int .u64 0, .slice none 0 0] 59))
  have bb := balloc (Below.refl w.heap.size w) (.cells #[.int .i64 0, .bool false, .string ⟨#[]⟩, .string ⟨#[]⟩, .int .u64 0, .slice none 0 0] 59)
  clear HQ
  generalize (w.alloc (.cells #[.int .i64 0, .bool false, .string ⟨#[]⟩, .string ⟨#[]⟩, .int .u64 0, .slice none 0 0] 59)) = w1 at *
  replace B := B.drew
  replace A := A.drew
  replace bb := bdrew bb
  go_region_held3 (fun w' => w'.cell? ⟨g, 0, none⟩ = some (.int .i64 q.win) ∧ w'.cell? ⟨g, 1, none⟩ = some (.pointer (some ⟨gn, 0, none⟩)) ∧ w'.cell? ⟨g, 2, none⟩ = some (.pointer (some ⟨gb, 0, none⟩)) ∧ w'.cell? ⟨g, 3, none⟩ = some (.bool q.closed) ∧ w'.cell? ⟨g, 6, none⟩ = some (.pointer (some ⟨gt, 0, none⟩))) (first | (with_reducible exact ⟨A.c0, A.c1, A.c2, A.c3, A.c6⟩) | exact ⟨A3.c0, A3.c1, A3.c2, A3.c3, A3.c6⟩)
    (first
      | (go_at_call 48; ((with_reducible refine (HR1.out _ A.now).mono ?_); rintro eA wA ⟨rfl, rfl⟩))
      | (go_at_call 48; ((with_reducible refine (HR2.out _ A.bef).mono ?_); rintro eA wA ⟨rfl, rfl⟩))
      | (go_at_call 49; ((with_reducible refine (tm_seen A.tm).mono ?_); rintro eA wA ⟨rfl, rfl⟩))
      | (go_at_call 50; ((with_reducible refine (tm_items A.tm).mono ?_); rintro eA wA ⟨RA, Rn, Rc, Rs, rfl, RT, RI, _, Rb⟩; have A2 := A.step Rb; have B2 := Blk.step Rb B; have bb2 := bstep Rb bb; clear A B bb; have A := A2; have B := B2; have bb := bb2; clear A2 B2 bb2 Rb; have kl := B.lt; have kf := B.frozen; have k0 := B.cell; have A3 := A.other B (by decide) (by decide) (by decide) (by decide) HW.out (set6_grown wA w.heap.size (.int .i64 q.win) (.bool q.closed) (.string s1) (.string s2) (.int .u64 q.seen) (.slice RA Rn Rc)))))
  have B6 := B.set6 (.int .i64 q.win) (.bool q.closed) (.string s1) (.string s2) (.int .u64 q.seen) (.slice RA Rn Rc)
  have G6 := set6_grown wA w.heap.size (.int .i64 q.win) (.bool q.closed) (.string s1) (.string s2) (.int .u64 q.seen) (.slice RA Rn Rc)
  have I6 : Its (set6 wA w.heap.size (.int .i64 q.win) (.bool q.closed) (.string s1) (.string s2) (.int .u64 q.seen) (.slice RA Rn Rc)) _ RA Rn Rc Rs := ⟨RI.own.kept G6 (.inr (fun e => RI.far B (by decide) e.symm))⟩
  have b6 := bgrown bb G6 (fun k hk => by injection hk with hk; omega)
  change Exit.then _ _ _ _ (set6 wA w.heap.size (.int .i64 q.win) (.bool q.closed) (.string s1) (.string s2) (.int .u64 q.seen) (.slice RA Rn Rc))
  clear A A3 B k0 kf kl G6 RI bb
  generalize (set6 wA w.heap.size (.int .i64 q.win) (.bool q.closed) (.string s1) (.string s2) (.int .u64 q.seen) (.slice RA Rn Rc)) = w9 at *
  have CP := B6.cell
  go_wp2_with fail
  refine bodyPost_ret (v := .agg #[.int .i64 q.win, .bool q.closed, .string s1, .string s2, .int .u64 q.seen, .slice RA Rn Rc]) (by simp [results, Tryz.results16, go_sem, CP]) rfl ?_
  exact (HP.out _ _).2 ⟨RA, Rn, Rc, _, Rs, rfl, RT, I6, b6⟩
end Go.Proofs.YtapiehddcdnadaaGreatDoor
namespace Go.Proofs.YtapiehddcdnadaaGreatDoor
open Go.RowKit
set_option linter.unusedVariables false
set_option linter.unusedSimpArgs false

/-- A state's value. -/
def stV (win : Int) (closed : Bool) (s1 s2 : ByteArray) (seen : Int) (A : Option Addr) (n c : Nat) : Value := .agg #[.int .i64 win, .bool closed, .string s1, .string s2, .int .u64 seen, .slice A n c]
theorem stateV_eq (q : QS) (A : Option Addr) (n c : Nat) : stateV q A n c = stV q.win q.closed (strOfNums q.rn) (strOfNums q.rb) q.seen A n c := rfl
set_option maxRecDepth 100000 in
set_option maxHeartbeats 4000000 in
theorem same_st (win : Int) (closed : Bool) (s1 s2 : ByteArray) (seen : Int) (A1 A2 : Option Addr) (n c1 c2 : Nat) (l : List It) (w : World) (R1 : ItRow w A1 n l) (R2 : ItRow w A2 n l) (hn16 : n ≤ 16) :
    Calls Tryz.prog 19 #[stV win closed s1 s2 seen A1 n c1, stV win closed s1 s2 seen A2 n c2] w fun e w' => e = .returned (.bool true) ∧ Below w.heap.size w w' := by
  have hd2 : ((n : Int) != (n : Int)) = false := by simp
  unfold stV
  go_enter Tryz.func19, Tryz.ntmps19
  go_wp2_with fail
  have B1 := (Blk.new w 59 #[.int .i64 win, .bool closed, .string s1, .string s2, .int .u64 seen, .slice A1 n c1]).alloc (.cells #[.int .i64 win, .bool closed, .string s1, .string s2, .int .u64 seen, .slice A2 n c2] 64)
  have B2 := Blk.newAt (w := w.alloc (.cells #[.int .i64 win, .bool closed, .string s1, .string s2, .int .u64 seen, .slice A1 n c1] 59)) (g := w.heap.size + 1) (t := 64) (cs := #[.int .i64 win, .bool closed, .string s1, .string s2, .int .u64 seen, .slice A2 n c2]) (by simp)
  have bb := balloc (balloc (Below.refl w.heap.size w) (.cells #[.int .i64 win, .bool closed, .string s1, .string s2, .int .u64 seen, .slice A1 n c1] 59)) (.cells #[.int .i64 win, .bool closed, .string s1, .string s2, .int .u64 seen, .slice A2 n c2] 64)
  generalize ((w.alloc (.cells #[.int .i64 win, .bool closed, .string s1, .string s2, .int .u64 seen, .slice A1 n c1] 59)).alloc (.cells #[.int .i64 win, .bool closed, .string s1, .string s2, .int .u64 seen, .slice A2 n c2] 64)) = w1 at *
  go_loopw [5] (fun i wr => ∃ q : Nat, q ≤ n ∧ i = .int .i64 q ∧ Blk wr w.heap.size 59 #[.int .i64 win, .bool closed, .string s1, .string s2, .int .u64 seen, .slice A1 n c1] ∧ Blk wr (w.heap.size + 1) 64 #[.int .i64 win, .bool closed, .string s1, .string s2, .int .u64 seen, .slice A2 n c2] ∧ Below w.heap.size w wr) (fun i _ => n - (intOf i).toNat)
  case atStart => exact ⟨0, Nat.zero_le _, rfl, B1, B2, bb⟩
  case round =>
    clear B1 B2 bb
    obtain ⟨q, hq, rfl, B1, B2, hb⟩ := hrel
    have k1 := B1.cell
    have k2 := B2.cell
    have l1 := B1.lt
    have l2 := B2.lt
    by_cases hq2 : q < n
    · obtain ⟨r1, o1, rfl, hr1, hc1⟩ := R1.at_ (by omega)
      obtain ⟨r2, o2, rfl, hr2, hc2⟩ := R2.at_ (by omega)
      obtain ⟨x0, x1, x2⟩ := hc1 q hq2
      obtain ⟨y0, y1, y2⟩ := hc2 q hq2
      have e0 := (hb.cell (p := ⟨r1, o1 + q * 3, none⟩) hr1).trans x0
      have e1 := (hb.cell (p := ⟨r1, o1 + q * 3 + 1, none⟩) hr1).trans x1
      have e2 := (hb.cell (p := ⟨r1, o1 + q * 3 + 2, none⟩) hr1).trans x2
      have f0 := (hb.cell (p := ⟨r2, o2 + q * 3, none⟩) hr2).trans y0
      have f1 := (hb.cell (p := ⟨r2, o2 + q * 3 + 1, none⟩) hr2).trans y1
      have f2 := (hb.cell (p := ⟨r2, o2 + q * 3 + 2, none⟩) hr2).trans y2
      clear hc1 hc2 x0 x1 x2 y0 y1 y2 R1 R2
      generalize l.getD q default = X at *
      have z1 : (q : Int) < n := by omega
      have HB1 := Lib.hid B1
      have HB2 := Lib.hid B2
      have HB := Lib.hid hb
      clear B1 B2 hb
      go_upto_region 6 with fail
      go_quiet (fail)
      go_wp2_with fail
      exact ⟨⟨q + 1, by omega, by go_num, HB1.out.drewN nq, HB2.out.drewN nq, bdrewN HB.out nq⟩, by simp [intOf]; omega⟩
    · have z1 : ¬ (q : Int) < n := by omega
      go_wp2_with fail
      go_ret
      exact ⟨rfl, hb⟩
end Go.Proofs.YtapiehddcdnadaaGreatDoor

/- New of a quota. -/
import Derived.Test.YtapiehddcdnadaaDoorQuQ
namespace Go.Proofs.YtapiehddcdnadaaDoor
open Go.RowKit
set_option linter.unusedVariables false
set_option linter.unusedSimpArgs false

structure PolN.Ok (p : PolN) : Prop where
  sk : 4 ≤ p.sketch ∧ p.sketch ≤ 10
  tp : 1 ≤ p.top ∧ p.top ≤ 16
  lo : 0 ≤ p.low ∧ p.low ≤ p.high
  hi : p.high ≤ 1000000
theorem num_ok {p : PolN} (h : (List.range 10).all (numOk p) = true) (k : Nat) (hk : k < 10) : leastL.getD k 0 ≤ p.list.getD k 0 ∧ p.list.getD k 0 ≤ (mostL p.high).getD k 0 := by
  rw [List.all_eq_true] at h
  have h2 := h k (List.mem_range.2 hk)
  unfold numOk at h2
  simp only [Bool.and_eq_true, decide_eq_true_eq] at h2
  exact h2
theorem right_ok {p : PolN} {xs : List Int} (h : rightP p xs = true) : p.Ok := by
  unfold rightP at h
  simp only [Bool.and_eq_true] at h
  have h1 := num_ok h.1.1.1
  have h2 := h1 1 (by omega)
  have h3 := h1 2 (by omega)
  have h4 := h1 3 (by omega)
  have h5 := h1 4 (by omega)
  simp [leastL, mostL, PolN.list] at h2 h3 h4 h5
  exact ⟨h5, h4, h2, h3.2⟩
def newQ (p : PolN) (window : Int) : QS := ⟨window, false, min p.low p.high, p.high, p.sketch.toNat, zerosN p.sketch.toNat, zerosN p.sketch.toNat, p.top.toNat, 0, []⟩
def NewPost (W : World) (q : QS) (e : Ending) (w' : World) : Prop := ∃ g, e = .returned (.tuple #[.pointer (some ⟨g, 0, none⟩), .int .i64 0]) ∧ QQ W g q w'

set_option maxRecDepth 100000 in
set_option maxHeartbeats 4000000 in
theorem new_no_call (p : PolN) (a : Option Addr) (n c : Nat) (xs : List Int) (window : Int) (w : World) (hx : Ints .i64 w a n xs) (hn : n ≤ 9223372036854775806) (hr : rightP p xs = false ∨ window < 0) :
    Calls Tryd.prog 9 #[polV p a n c, .int .i64 window] w fun e w' => e = .returned (.tuple #[.pointer none, .int .i64 1]) ∧ Below w.heap.size w w' := by
  have HR := Lib.hid (fun W hW => right_call p a n c xs W hW hn)
  have HX := Lib.hid (fun o => hx.step (balloc (Below.refl _ w) o))
  generalize rightP p xs = R at *
  unfold polV at *
  clear hx
  cases R
  · clear hr
    go_enter Tryd.func9, Tryd.ntmps9
    go_wp2_with fail
    refine (HR.out _ (HX.out _)).mono ?_
    rintro e w1 ⟨rfl, b1⟩
    go_wp2_with fail
    go_ret2
    exact ⟨rfl, bstep b1 (balloc (Below.refl _ _) _)⟩
  · have hlt : window < 0 := by simpa using hr
    clear hr
    go_enter Tryd.func9, Tryd.ntmps9
    go_wp2_with fail
    refine (HR.out _ (HX.out _)).mono ?_
    rintro e w1 ⟨rfl, b1⟩
    go_wp2_with fail
    go_ret2
    exact ⟨rfl, bstep b1 (balloc (Below.refl _ _) _)⟩

set_option maxRecDepth 100000 in
set_option maxHeartbeats 4000000 in
theorem new_call (W : World) (p : PolN) (a : Option Addr) (n c : Nat) (xs : List Int) (window : Int) (w : World) (hW : Below W.heap.size W w) (hx : Ints .i64 w a n xs) (hn : n ≤ 9223372036854775806) (hr : rightP p xs = true) (h0 : 0 ≤ window) (h1 : window ≤ 9223372036854775807) :
    Calls Tryd.prog 9 #[polV p a n c, .int .i64 window] w (NewPost W (newQ p window)) := by
  have HR := Lib.hid (fun W hW => right_call p a n c xs W hW hn)
  have HX := Lib.hid (fun o => hx.step (balloc (Below.refl _ w) o))
  have ok := right_ok hr
  rw [hr] at HR
  unfold polV at *
  clear hx hr
  have HWs := Lib.hid hW
  clear hW
  obtain ⟨slots, low, high, top, sketch, fine, idle, wd, late, future⟩ := p
  obtain ⟨o1, o2, o3, o4⟩ := ok
  simp only at o1 o2 o3 o4 HR
  obtain ⟨b, rfl⟩ : ∃ b : Nat, sketch = b := ⟨sketch.toNat, by omega⟩
  obtain ⟨rm, rfl⟩ : ∃ b : Nat, top = b := ⟨top.toNat, by omega⟩
  have hbc : Hid (b = 4 ∨ b = 5 ∨ b = 6 ∨ b = 7 ∨ b = 8 ∨ b = 9 ∨ b = 10) := Lib.hid (by omega)
  have HQ : Hid (newQ ⟨slots, low, high, (rm : Int), (b : Int), fine, idle, wd, late, future⟩ window = ⟨window, false, min low high, high, b, zerosN b, zerosN b, rm, 0, []⟩) := Lib.hid rfl
  rw [HQ.out]
  clear HQ
  go_enter Tryd.func9, Tryd.ntmps9
  go_wp2_with fail
  refine (HR.out _ (HX.out _)).mono ?_
  rintro e w1 ⟨rfl, b1⟩
  have B0 := Blk.step b1 (Blk.new w 24 #[.int .i64 slots, .int .i64 low, .int .i64 high, .int .i64 rm, .int .i64 b, .int .i64 fine, .int .i64 idle, .int .i64 wd, .int .i64 late, .int .i64 future, .slice a n c])
  have k1 : _ = some (Value.int .i64 low) := B0.cellAt 1 rfl
  have k2 : _ = some (Value.int .i64 high) := B0.cellAt 2 rfl
  have hb1 := Lib.hid (bstep b1 (balloc (Below.refl w.heap.size w) _))
  have kl := B0.lt
  have HB0 := Lib.hid B0
  clear b1 HR HX B0
  go_wp2_with fail
  refine (gnew_any low high w1).mono ?_
  rintro e w2 ⟨rfl, b2⟩
  have HB1 := Lib.hid (Blk.step b2 HB0.out)
  have hb2 := Lib.hid (bstep b2 hb1.out)
  clear k1 k2 kl HB0 hb1 b2
  have hlo2 : Hid (0 ≤ min low high) := Lib.hid (by omega)
  generalize min low high = lo2 at *
  have k4 : _ = some (Value.int .i64 b) := HB1.out.cellAt 4 rfl
  have kl := HB1.out.lt
  go_upto_region 4 with fail
  have BQ := Blk.new w2 64 #[.int .i64 window, .pointer none, .pointer none, .bool false, .int .u64 lo2, .int .u64 high, .pointer none]
  have HB2 := Lib.hid (HB1.out.alloc (.cells #[.int .i64 window, .pointer none, .pointer none, .bool false, .int .u64 lo2, .int .u64 high, .pointer none] 64))
  have hW3 : Hid (Below W.heap.size W (w2.alloc (.cells #[.int .i64 window, .pointer none, .pointer none, .bool false, .int .u64 lo2, .int .u64 high, .pointer none] 64))) := Lib.hid (HWs.out.trans ((balloc hb2.out _).mono HWs.out.size))
  have hg0 : Hid (W.heap.size ≤ w2.heap.size) := Lib.hid (Nat.le_trans HWs.out.size hb2.out.size)
  generalize hw3 : (w2.alloc (.cells #[.int .i64 window, .pointer none, .pointer none, .bool false, .int .u64 lo2, .int .u64 high, .pointer none] 64)) = w3 at *
  clear hw3 k4 kl HB1 hb2
  generalize w2.heap.size = g at *
  have k4 : _ = some (Value.int .i64 b) := HB2.out.cellAt 4 rfl
  have kl := HB2.out.lt
  have HQ3 := Lib.hid BQ
  clear BQ
  go_wp2_with fail
  refine (New_yes b w3 hbc.out).mono ?_
  rintro e w4 ⟨rfl, S1, b4⟩
  have BQ4 := Blk.step b4 HQ3.out
  have gl := BQ4.lt
  have gf := BQ4.frozen
  have gc1 : _ = some (Value.pointer none) := BQ4.cellAt 1 rfl
  have HB4 := Lib.hid ((Blk.step b4 HB2.out).far (p := ⟨g, 1, none⟩) (by intro e; have := BQ4.ne_ (Blk.step b4 HB2.out) (by decide); exact this e.symm) (.pointer (some ⟨w3.heap.size, 0, none⟩)))
  have hgn : Hid (g ≠ w3.heap.size) := Lib.hid (by have := HQ3.out.lt; omega)
  have hgn0 : Hid (W.heap.size ≤ w3.heap.size) := Lib.hid hW3.out.size
  have HS1 := Lib.hid (S1.grown (only_set w4 g 1 (.pointer (some ⟨w3.heap.size, 0, none⟩))) (by intro e; injection e with e; exact hgn.out e.symm))
  have HQ4 := Lib.hid (BQ4.put 1 (.pointer (some ⟨w3.heap.size, 0, none⟩)))
  have hW4 := Lib.hid (bset (hW3.out.trans (b4.mono hW3.out.size)) (p := ⟨g, 1, none⟩) hg0.out (.pointer (some ⟨w3.heap.size, 0, none⟩)))
  clear b4 S1 BQ4 k4 kl HB2 HQ3 hW3
  generalize w3.heap.size = gn at *
  go_upto_region 5 with fail
  clear gl gf gc1
  generalize (w4.setCell ⟨g, 1, none⟩ (.pointer (some ⟨gn, 0, none⟩))) = w5 at *
  have k4 : _ = some (Value.int .i64 b) := HB4.out.cellAt 4 rfl
  have kl := HB4.out.lt
  go_wp2_with fail
  refine (New_yes b w5 hbc.out).mono ?_
  rintro e w6 ⟨rfl, S2, b6⟩
  have BQ6 := Blk.step b6 HQ4.out
  have gl := BQ6.lt
  have gf := BQ6.frozen
  have gc1 : _ = some (Value.pointer none) := BQ6.cellAt 2 rfl
  have HB6 := Lib.hid ((Blk.step b6 HB4.out).far (p := ⟨g, 2, none⟩) (by intro e; have := BQ6.ne_ (Blk.step b6 HB4.out) (by decide); exact this e.symm) (.pointer (some ⟨w5.heap.size, 0, none⟩)))
  have hgb : Hid (g ≠ w5.heap.size) := Lib.hid (by have := HQ4.out.lt; omega)
  have hgb0 : Hid (W.heap.size ≤ w5.heap.size) := Lib.hid hW4.out.size
  have hnb : Hid (gn ≠ w5.heap.size) := Lib.hid (by have := HS1.out.lt; omega)
  have HS2 := Lib.hid (S2.grown (only_set w6 g 2 (.pointer (some ⟨w5.heap.size, 0, none⟩))) (by intro e; injection e with e; exact hgb.out e.symm))
  have HS1b := Lib.hid ((Sk.step b6 HS1.out).grown (only_set w6 g 2 (.pointer (some ⟨w5.heap.size, 0, none⟩))) (by intro e; injection e with e; exact hgn.out e.symm))
  have HQ6 := Lib.hid (BQ6.put 2 (.pointer (some ⟨w5.heap.size, 0, none⟩)))
  have hW6 := Lib.hid (bset (hW4.out.trans (b6.mono hW4.out.size)) (p := ⟨g, 2, none⟩) hg0.out (.pointer (some ⟨w5.heap.size, 0, none⟩)))
  clear b6 S2 BQ6 k4 kl HB4 HQ4 hW4 HS1
  generalize w5.heap.size = gb at *
  go_upto_region 6 with fail
  clear gl gf gc1
  generalize (w6.setCell ⟨g, 2, none⟩ (.pointer (some ⟨gb, 0, none⟩))) = w7 at *
  have k3 : _ = some (Value.int .i64 rm) := HB6.out.cellAt 3 rfl
  have kl := HB6.out.lt
  go_wp2_with fail
  refine (tm_new (W := W) (base := W.heap.size) rm (by omega) (by omega) hW6.out (Nat.le_refl _)).mono ?_
  rintro e w8 ⟨rfl, T, b8⟩
  have BQ8 := Blk.step b8 HQ6.out
  have gl := BQ8.lt
  have gf := BQ8.frozen
  have gc1 : _ = some (Value.pointer none) := BQ8.cellAt 6 rfl
  have hgt : g ≠ w7.heap.size := by have := HQ6.out.lt; omega
  have HS1c := Lib.hid ((Sk.step b8 HS1b.out).grown (only_set w8 g 6 (.pointer (some ⟨w7.heap.size, 0, none⟩))) (by intro e; injection e with e; exact hgn.out e.symm))
  have HS2c := Lib.hid ((Sk.step b8 HS2.out).grown (only_set w8 g 6 (.pointer (some ⟨w7.heap.size, 0, none⟩))) (by intro e; injection e with e; exact hgb.out e.symm))
  have HT := Lib.hid (T.set (i := 6) BQ8 hgt (by decide) hg0.out (.pointer (some ⟨w7.heap.size, 0, none⟩)))
  have HQ8 := Lib.hid (BQ8.put 6 (.pointer (some ⟨w7.heap.size, 0, none⟩)))
  clear b8 T BQ8 k3 kl HB6 HQ6 hW6 HS1b HS2 hgt
  go_upto_region 7 with fail
  clear gl gf gc1
  generalize (w8.setCell ⟨g, 6, none⟩ (.pointer (some ⟨w7.heap.size, 0, none⟩))) = w9 at *
  go_wp2_with fail
  go_ret2
  exact ⟨g, rfl, gn, gb, _, HQ8.out, HS1c.out, HS2c.out, hnb.out, HT.out, hg0.out, hgn0.out, hgb0.out, ⟨h0, h1⟩, hlo2.out⟩
end Go.Proofs.YtapiehddcdnadaaDoor

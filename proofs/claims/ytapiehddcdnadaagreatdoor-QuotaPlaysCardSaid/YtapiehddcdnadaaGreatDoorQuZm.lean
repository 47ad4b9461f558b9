/- Roll of the document's quota. -/
import Derived.Test.YtapiehddcdnadaaGreatDoorQuZk
import Derived.Deep.CutBlock
import Derived.Deep.CutRange
namespace Go.Proofs.YtapiehddcdnadaaGreatDoor
open Go.RowKit
set_option linter.unusedVariables false
set_option linter.unusedSimpArgs false

set_option maxRecDepth 100000 in
set_option maxHeartbeats 4000000 in
theorem rroll_no {W w0 w : World} {g gn gb gt yn yb : Nat} {q : QS} (p : PolN) (a : Option Addr) (n c : Nat) (xs : List Int) (window : Int) (h : Rw W w0 g gn gb gt yn yb q.b q.b q w) (hx : Ints .i64 w a n xs) (hn : n ≤ 9223372036854775807) (hr : rightP p xs = false ∨ window ≤ q.win) :
    Calls Tryz.prog 12 #[.pointer (some ⟨g, 0, none⟩), .int .i64 window, polV p a n c] w fun e w' => e = .returned (.int .i64 0) ∧ Below w.heap.size w w' := by
  have HR := Lib.hid (fun W hW => rightR_call p a n c xs W hW hn)
  have HX := Lib.hid (fun o => hx.step (balloc (Below.refl _ w) o))
  generalize rightP p xs = R at *
  unfold polV at *
  clear hx
  have A := Lib.hid (h.step (balloc (Below.refl _ w) (.cells #[.int .i64 p.slots, .int .i64 p.low, .int .i64 p.high, .int .i64 p.top, .int .i64 p.sketch, .int .i64 p.fine, .int .i64 p.idle, .int .i64 p.window, .int .i64 p.late, .int .i64 p.future, .slice a n c] 38)))
  clear h
  cases R
  · clear hr
    go_enter Tryz.func12, Tryz.ntmps12
    go_wp2_with fail
    refine (HR.out _ (HX.out _)).mono ?_
    rintro e w1 ⟨rfl, b1⟩
    go_wp2_with fail
    go_ret
    exact ⟨rfl, bstep b1 (balloc (Below.refl _ _) _)⟩
  · have hlt : window ≤ q.win := by simpa using hr
    clear hr
    go_enter Tryz.func12, Tryz.ntmps12
    go_wp2_with fail
    refine (HR.out _ (HX.out _)).mono ?_
    rintro e w1 ⟨rfl, b1⟩
    have A1 := A.out.step b1
    have k0 := A1.c0
    have kl := A1.blk.lt
    clear A1
    go_wp2_with fail
    go_ret
    exact ⟨rfl, bstep b1 (balloc (Below.refl _ _) _)⟩
set_option maxRecDepth 100000 in
set_option maxHeartbeats 8000000 in
theorem rroll_next {W w0 w : World} {g gn gb gt yn yb : Nat} {q : QS} (p : PolN) (a : Option Addr) (n c : Nat) (xs : List Int) (window : Int) (h : Rw W w0 g gn gb gt yn yb q.b q.b q w) (hx : Ints .i64 w a n xs) (hn : n ≤ 9223372036854775807) (hr : rightP p xs = true) (hw : window = q.win + 1) (hw2 : window ≤ 9223372036854775807) :
    Calls Tryz.prog 12 #[.pointer (some ⟨g, 0, none⟩), .int .i64 window, polV p a n c] w fun e w' => e = .returned (.int .i64 1) ∧ RZ W w0 g (endQ (nextQ q window) p) w' := by
  have ok := right_ok hr
  have HR := Lib.hid (fun W hW => rightR_call p a n c xs W hW hn)
  have HX := Lib.hid (fun o => hx.step (balloc (Below.refl _ w) o))
  rw [hr] at HR
  unfold polV at *
  clear hx hr
  have A := Lib.hid (h.step (balloc (Below.refl _ w) (.cells #[.int .i64 p.slots, .int .i64 p.low, .int .i64 p.high, .int .i64 p.top, .int .i64 p.sketch, .int .i64 p.fine, .int .i64 p.idle, .int .i64 p.window, .int .i64 p.late, .int .i64 p.future, .slice a n c] 38)))
  have hwin := h.win0
  have hbc := Lib.hid h.now.bits_cases
  have HE : Hid (endQ (nextQ q window) p = endQ (nextQ q window) p) := Lib.hid rfl
  clear h
  generalize hQ : endQ (nextQ q window) p = Q at HE ⊢
  replace HE : Hid (Q = endQ (nextQ q window) p) := Lib.hid hQ.symm
  clear hQ
  obtain ⟨bq, hbq⟩ : ∃ bq, bq = q.b := ⟨_, rfl⟩
  rw [← hbq] at A hbc
  replace hbq := Lib.hid hbq
  have hd : (window == q.win + 1) = true := by simp; omega
  have hgt : ¬ window ≤ q.win := by omega
  have hwi := Lib.hid hw
  have hwr : IntKind.i64.wrap (q.win + 1) = q.win + 1 := by rw [IntKind.wrap_i64]; omega
  clear hw
  go_enter Tryz.func12, Tryz.ntmps12
  go_wp2_with fail
  refine (HR.out _ (HX.out _)).mono ?_
  rintro e w1 ⟨rfl, b1⟩
  have A1 := Lib.hid (A.out.step b1)
  have HB := Lib.hid (Blk.step b1 (Blk.new w 38 #[.int .i64 p.slots, .int .i64 p.low, .int .i64 p.high, .int .i64 p.top, .int .i64 p.sketch, .int .i64 p.fine, .int .i64 p.idle, .int .i64 p.window, .int .i64 p.late, .int .i64 p.future, .slice a n c]))
  have k0 := A1.out.c0
  have kl := A1.out.blk.lt
  clear A HX HR b1
  go_upto_region 6 with fail
  clear k0 kl
  go_cut [8] from 9 (fun x wx => x = .int .i64 1 ∧ Rw W w0 g gn gb gt yn yb bq bq { q with closed := q.closed && decide (q.low < estI bq q.rn) } wx ∧ Blk wx w.heap.size 38 #[.int .i64 p.slots, .int .i64 p.low, .int .i64 p.high, .int .i64 p.top, .int .i64 p.sketch, .int .i64 p.fine, .int .i64 p.idle, .int .i64 p.window, .int .i64 p.late, .int .i64 p.future, .slice a n c])
  case first =>
    have A0 := A1.out.drew
    have D0 := HB.out.drew
    have c1 := A1.out.c1
    have c3 := A1.out.c3
    have c4 := A1.out.c4
    have c5 := A1.out.c5
    have kl := A1.out.blk.lt
    have kf := A1.out.blk.frozen
    clear A1 HB
    go_region_with (first
      | (go_at_call 41; ((with_reducible refine (REstimate_any gn yn bq q.rn _ A0.now).mono ?_); rintro eB wB ⟨rfl, bB⟩; have A2 := A0.step bB; have D2 := Blk.step bB D0; clear bB; have d1 := A2.c1; have d3 := A2.c3; have d4 := A2.c4; have d5 := A2.c5; have dl := A2.blk.lt; have df := A2.blk.frozen))
      | (go_at_call 40; ((with_reducible refine (rgturn_any q.closed q.low q.high (estI bq q.rn) _).mono ?_); rintro eC wC ⟨rfl, bC⟩; have A3 := A2.step bC; have D3 := Blk.step bC D2; clear bC; have m3 := A3.c3; have m4 := A3.c4; have m5 := A3.c5; have ml := A3.blk.lt; have mf := A3.blk.frozen)))
    all_goals
      have A4 := A3.gate' (q.closed && decide (q.low < estI bq q.rn)) q.low q.high A3.low0
      have D4 := ((D3.far (p := ⟨g, 3, none⟩) (by exact fun e => (A3.blk.ne_ D3 (by decide)) e.symm) (.bool (q.closed && decide (q.low < estI bq q.rn)))).far (p := ⟨g, 4, none⟩) (by exact fun e => (A3.blk.ne_ D3 (by decide)) e.symm) (.int .u64 q.low)).far (p := ⟨g, 5, none⟩) (by exact fun e => (A3.blk.ne_ D3 (by decide)) e.symm) (.int .u64 q.high)
      clear c1 c3 c4 c5 kl kf d1 d3 d4 d5 dl df m3 m4 m5 ml mf A0 A2 A3 D0 D2 D3
      go_wp2_with fail
      go_meet
      exact ⟨rfl, A4, D4⟩
  case rest =>
  clear A1 HB
  obtain ⟨rfl, A1, HB⟩ := hcut
  obtain ⟨q1, hq1⟩ : ∃ q1, q1 = ({ q with closed := q.closed && decide (q.low < estI bq q.rn) } : QS) := ⟨_, rfl⟩
  rw [← hq1] at A1
  have HQ1 := Lib.hid (hq1.trans (by rw [hbq.out]) : q1 = ({ q with closed := q.closed && decide (q.low < estI q.b q.rn) } : QS))
  clear hq1
  have c1 := A1.c1
  have c2 := A1.c2
  have kl := A1.blk.lt
  have kf := A1.blk.frozen
  have A := A1.store (i := 2) (v := .pointer (some ⟨gn, 0, none⟩)) (q' := { q1 with rb := q1.rn }) (gn' := gn) (gb' := gn) (gt' := gt) rfl A1.now A1.now A1.tm A1.yn0 A1.yn0 A1.win0 A1.low0
  replace HB := HB.far (p := ⟨g, 2, none⟩) (fun e => (A1.blk.ne_ HB (by decide)) e.symm) (.pointer (some ⟨gn, 0, none⟩))
  clear A1
  go_upto_region 11 with fail
  clear c1 c2 kl kf
  generalize (wc.setCell ⟨g, 2, none⟩ (.pointer (some ⟨gn, 0, none⟩))) = w4 at *
  obtain ⟨q2, hq2⟩ : ∃ q2, q2 = ({ q1 with rb := q1.rn } : QS) := ⟨_, rfl⟩
  rw [← hq2] at A
  have HQ2 := Lib.hid hq2
  clear hq2
  obtain ⟨slots, low, high, top, sketch, fine, idle, wd, late, future⟩ := p
  simp only at HB
  obtain ⟨o1, o2, o3, o4⟩ := ok
  simp only at o1 o2 o3 o4
  obtain ⟨sb, rfl⟩ : ∃ b : Nat, sketch = b := ⟨sketch.toNat, by omega⟩
  obtain ⟨rm, rfl⟩ : ∃ b : Nat, top = b := ⟨top.toNat, by omega⟩
  have c2 := A.c2
  have kl := A.blk.lt
  go_wp2_with fail
  refine (RBits_any gn yn bq q2.rb _ A.bef).mono ?_
  rintro e w5 ⟨rfl, b5⟩
  have A5 := A.step b5
  have B5 := Blk.step b5 HB
  clear A HB b5 c2 kl
  go_wp2_with fail
  refine (RNew_yes bq w5 hbc.out).mono ?_
  rintro e w6 ⟨gz, yz, rfl, z1, z2, S6, b6⟩
  have A6 := A5.step b6
  have B6 := Blk.step b6 B5
  have hYY : Hid (yz ≠ yn) := Lib.hid (by have := A5.bef.lt; omega)
  have hy0 : W.heap.size ≤ yz := by have := A5.below.size; omega
  clear A5 B5 b6 z1 z2
  have c1 := A6.c1
  have kl := A6.blk.lt
  have kf := A6.blk.frozen
  have A7 := A6.store (i := 1) (v := .pointer (some ⟨gz, 0, none⟩)) (q' := { q2 with rn := zerosN bq }) (gn' := gz) (gb' := gn) (gt' := gt) rfl S6 A6.bef A6.tm hy0 A6.yb0 A6.win0 A6.low0
  have B7 := B6.far (p := ⟨g, 1, none⟩) (fun e => (A6.blk.ne_ B6 (by decide)) e.symm) (.pointer (some ⟨gz, 0, none⟩))
  clear A6 B6 S6 hy0
  go_upto_region 12 with fail
  clear c1 kl kf
  generalize (w6.setCell ⟨g, 1, none⟩ (.pointer (some ⟨gz, 0, none⟩))) = w7 at *
  obtain ⟨q3, hq3⟩ : ∃ q3, q3 = ({ q2 with rn := zerosN bq } : QS) := ⟨_, rfl⟩
  rw [← hq3] at A7
  have HQ3 := Lib.hid hq3
  clear hq3
  have c0 := A7.c0
  have kl := A7.blk.lt
  have kf := A7.blk.frozen
  have A8 := A7.win' window (by omega)
  have B8 := B7.far (p := ⟨g, 0, none⟩) (fun e => (A7.blk.ne_ B7 (by decide)) e.symm) (.int .i64 window)
  clear A7 B7
  go_upto_region 13 with fail
  clear c0 kl kf
  generalize (w7.setCell ⟨g, 0, none⟩ (.int .i64 window)) = w8 at *
  obtain ⟨q4, hq4⟩ : ∃ q4, q4 = ({ q3 with win := window } : QS) := ⟨_, rfl⟩
  rw [← hq4] at A8
  have HQ4 := Lib.hid hq4
  clear hq4
  go_cut [8] from 9 (fun x wx => x = .int .i64 1 ∧ Rw W w0 g gz gn gt yz yn bq bq { q4 with closed := q4.closed, low := min low high, high := high } wx ∧ Blk wx w.heap.size 38 #[.int .i64 slots, .int .i64 low, .int .i64 high, .int .i64 rm, .int .i64 sb, .int .i64 fine, .int .i64 idle, .int .i64 wd, .int .i64 late, .int .i64 future, .slice a n c])
  case first =>
    have c3 := A8.c3
    have c4 := A8.c4
    have c5 := A8.c5
    have kl := A8.blk.lt
    have kf := A8.blk.frozen
    have p1 : _ = some (Value.int .i64 low) := B8.cellAt 1 rfl
    have p2 : _ = some (Value.int .i64 high) := B8.cellAt 2 rfl
    have pl := B8.lt
    have A0 := A8.drew
    have D0 := B8.drew
    have hmn : Hid (0 ≤ min low high) := Lib.hid (by omega)
    have z1 : IntKind.u64.wrap low = low := by simp [IntKind.wrap, IntKind.bits, IntKind.signed]; omega
    have z2 : IntKind.u64.wrap high = high := by simp [IntKind.wrap, IntKind.bits, IntKind.signed]; omega
    clear A8 B8
    go_region_with (first
      | (go_at_call 42; ((with_reducible refine (rgset_any q4.closed q4.low q4.high low high _).mono ?_); rintro eC wC ⟨rfl, bC⟩; have A3 := A0.step bC; have D3 := Blk.step bC D0; clear bC; have m3 := A3.c3; have m4 := A3.c4; have m5 := A3.c5; have ml := A3.blk.lt; have mf := A3.blk.frozen)))
    all_goals
      have A4 := A3.gate' q4.closed (min low high) high hmn.out
      have D4 := ((D3.far (p := ⟨g, 3, none⟩) (by exact fun e => (A3.blk.ne_ D3 (by decide)) e.symm) (.bool q4.closed)).far (p := ⟨g, 4, none⟩) (by exact fun e => (A3.blk.ne_ D3 (by decide)) e.symm) (.int .u64 (min low high))).far (p := ⟨g, 5, none⟩) (by exact fun e => (A3.blk.ne_ D3 (by decide)) e.symm) (.int .u64 high)
      clear c3 c4 c5 kl kf m3 m4 m5 ml mf A0 A3 D0 D3 p1 p2 pl z1 z2
      go_wp2_with fail
      go_meet
      exact ⟨rfl, A4, D4⟩
  case rest =>
  clear A8 B8
  obtain ⟨rfl, A7, B7⟩ := hcut
  obtain ⟨q5, hq5⟩ : ∃ q5, q5 = ({ q4 with closed := q4.closed, low := min low high, high := high } : QS) := ⟨_, rfl⟩
  rw [← hq5] at A7
  have HQ5 := Lib.hid hq5
  clear hq5
  go_upto_region 14 with fail
  have c1 := A7.c1
  have kl := A7.blk.lt
  have p4 : _ = some (Value.int .i64 sb) := B7.cellAt 4 rfl
  have pl := B7.lt
  have A := A7.drew
  have B := B7.drew
  clear A7 B7
  have hsc : Hid (sb = 4 ∨ sb = 5 ∨ sb = 6 ∨ sb = 7 ∨ sb = 8 ∨ sb = 9 ∨ sb = 10) := Lib.hid (by omega)
  by_cases hsk : bq = sb
  · have hne : ((bq : Int) != (sb : Int)) = false := by rw [bne_eq_false_iff_eq]; omega
    have hsk2 := Lib.hid hsk
    clear hsk
    go_region_held3 (fun w' => w'.cell? ⟨g, 1, none⟩ = some (.pointer (some ⟨gz, 0, none⟩)) ∧ w'.cell? ⟨w.heap.size, 4, none⟩ = some (.int .i64 sb)) (exact ⟨A.c1, B.cellAt 4 rfl⟩)
      (first
        | (go_at_call 13; ((with_reducible refine (RBits_any gz yz bq q5.rn _ A.now).mono ?_); rintro eC wC ⟨rfl, bC⟩; replace A := A.step bC; replace B := Blk.step bC B; clear bC)))
    clear c1 kl p4 pl
    have p3 : _ = some (Value.int .i64 rm) := B.cellAt 3 rfl
    have pl := B.lt
    go_wp2_with fail
    refine (rm_new (W := W) (base := W.heap.size) rm (by omega) (by omega) A.below (Nat.le_refl _)).mono ?_
    rintro e w9 ⟨rfl, T9, b9⟩
    have A9 := A.step b9
    have gl := A9.blk.lt
    have gf := A9.blk.frozen
    have g6 := A9.c6
    have A10 := A9.store (i := 6) (v := .pointer (some ⟨wC.heap.size, 0, none⟩)) (q' := { q5 with room := rm, seen := 0, l := [] }) (gn' := gz) (gb' := gn) (gt' := wC.heap.size) rfl A9.now A9.bef T9 A9.yn0 A9.yb0 A9.win0 A9.low0
    have hfin : Hid (Q = { q5 with room := rm, seen := 0, l := [] }) := Lib.hid (by
      rw [HE.out, endQ_eq]
      · rw [HQ5.out, HQ4.out, HQ3.out, HQ2.out, HQ1.out, hbq.out]; rfl
      · have h5 := hsk2.out
        rw [hbq.out] at h5
        exact h5)
    have hQb : Hid (Q.b = bq) := Lib.hid (by rw [hfin.out, HQ5.out, HQ4.out, HQ3.out, HQ2.out, HQ1.out]; exact hbq.out.symm)
    clear A B T9 b9 A9 p3 pl
    go_wp2_with fail
    go_ret
    exact ⟨rfl, _, _, _, _, _, by rw [hQb.out, hfin.out]; exact A10, hYY.out⟩
  · have hne : ((bq : Int) != (sb : Int)) = true := by rw [bne_iff_ne]; omega
    have hsk2 := Lib.hid hsk
    clear hsk
    go_region_held3 (fun w' => w'.cell? ⟨g, 1, none⟩ = some (.pointer (some ⟨gz, 0, none⟩)) ∧ w'.cell? ⟨w.heap.size, 4, none⟩ = some (.int .i64 sb)) (exact ⟨A.c1, B.cellAt 4 rfl⟩)
      (first
        | (go_at_call 13; ((with_reducible refine (RBits_any gz yz bq q5.rn _ A.now).mono ?_); rintro eC wC ⟨rfl, bC⟩; replace A := A.step bC; replace B := Blk.step bC B; clear bC)))
    clear c1 kl p4 pl
    have p4 : _ = some (Value.int .i64 sb) := B.cellAt 4 rfl
    have pl := B.lt
    go_wp2_with fail
    refine (RNew_yes sb _ hsc.out).mono ?_
    rintro e w9 ⟨gu, yu, rfl, z1, z2, S9, b9⟩
    have A9 := A.step b9
    have B9 := Blk.step b9 B
    have hu0 : W.heap.size ≤ yu := by have := A.below.size; omega
    have gl := A9.blk.lt
    have gf := A9.blk.frozen
    have g1 := A9.c1
    have A10 := A9.store (i := 1) (v := .pointer (some ⟨gu, 0, none⟩)) (q' := { q5 with rn := zerosN sb }) (gn' := gu) (gb' := gn) (gt' := gt) rfl S9 A9.bef A9.tm hu0 A9.yb0 A9.win0 A9.low0
    have B10 := B9.far (p := ⟨g, 1, none⟩) (fun e => (A9.blk.ne_ B9 (by decide)) e.symm) (.pointer (some ⟨gu, 0, none⟩))
    clear A B p4 pl A9 B9 S9 b9 z1 z2
    go_upto_region 16 with fail
    clear gl gf g1
    generalize (w9.setCell ⟨g, 1, none⟩ (.pointer (some ⟨gu, 0, none⟩))) = w10 at *
    have p4 : _ = some (Value.int .i64 sb) := B10.cellAt 4 rfl
    have pl := B10.lt
    go_wp2_with fail
    refine (RNew_yes sb _ hsc.out).mono ?_
    rintro e w11 ⟨gv, yv, rfl, z1, z2, S11, b11⟩
    have A11 := A10.step b11
    have B11 := Blk.step b11 B10
    have hv0 : W.heap.size ≤ yv := by have := A10.below.size; omega
    have huv : Hid (yu ≠ yv) := Lib.hid (by have := A10.now.lt; omega)
    have gl := A11.blk.lt
    have gf := A11.blk.frozen
    have g2 := A11.c2
    have A12 := A11.store (i := 2) (v := .pointer (some ⟨gv, 0, none⟩)) (q' := { q5 with rn := zerosN sb, rb := zerosN sb }) (gn' := gu) (gb' := gv) (gt' := gt) rfl A11.now S11 A11.tm A11.yn0 hv0 A11.win0 A11.low0
    have B12 := B11.far (p := ⟨g, 2, none⟩) (fun e => (A11.blk.ne_ B11 (by decide)) e.symm) (.pointer (some ⟨gv, 0, none⟩))
    clear A10 B10 p4 pl A11 B11 S11 b11 z1 z2
    go_upto_region 17 with fail
    clear gl gf g2
    generalize (w11.setCell ⟨g, 2, none⟩ (.pointer (some ⟨gv, 0, none⟩))) = w12 at *
    have p3 : _ = some (Value.int .i64 rm) := B12.cellAt 3 rfl
    have pl := B12.lt
    go_wp2_with fail
    refine (rm_new (W := W) (base := W.heap.size) rm (by omega) (by omega) A12.below (Nat.le_refl _)).mono ?_
    rintro e w13 ⟨rfl, T13, b13⟩
    have A13 := A12.step b13
    have gl := A13.blk.lt
    have gf := A13.blk.frozen
    have g6 := A13.c6
    have A14 := A13.store (i := 6) (v := .pointer (some ⟨w12.heap.size, 0, none⟩)) (q' := { q5 with b := sb, rn := zerosN sb, rb := zerosN sb, room := rm, seen := 0, l := [] }) (gn' := gu) (gb' := gv) (gt' := w12.heap.size) rfl A13.now A13.bef T13 A13.yn0 A13.yb0 A13.win0 A13.low0
    have hfin : Hid (Q = { q5 with b := sb, rn := zerosN sb, rb := zerosN sb, room := rm, seen := 0, l := [] }) := Lib.hid (by
      rw [HE.out, endQ_ne]
      · rw [HQ5.out, HQ4.out, HQ3.out, HQ2.out, HQ1.out]; rfl
      · have h5 := hsk2.out
        rw [hbq.out] at h5
        exact h5)
    have hQb : Hid (Q.b = sb) := Lib.hid (by rw [hfin.out])
    clear A12 B12 T13 b13 A13 p3 pl
    go_wp2_with fail
    go_ret
    exact ⟨rfl, _, _, _, _, _, by rw [hQb.out, hfin.out]; exact A14, huv.out⟩
set_option maxRecDepth 100000 in
set_option maxHeartbeats 8000000 in
theorem rroll_later {W w0 w : World} {g gn gb gt yn yb : Nat} {q : QS} (p : PolN) (a : Option Addr) (n c : Nat) (xs : List Int) (window : Int) (h : Rw W w0 g gn gb gt yn yb q.b q.b q w) (hx : Ints .i64 w a n xs) (hn : n ≤ 9223372036854775807) (hr : rightP p xs = true) (hw : q.win + 1 < window) (hw2 : window ≤ 9223372036854775807) :
    Calls Tryz.prog 12 #[.pointer (some ⟨g, 0, none⟩), .int .i64 window, polV p a n c] w fun e w' => e = .returned (.int .i64 2) ∧ RZ W w0 g (endQ (laterQ q window) p) w' := by
  have ok := right_ok hr
  have HR := Lib.hid (fun W hW => rightR_call p a n c xs W hW hn)
  have HX := Lib.hid (fun o => hx.step (balloc (Below.refl _ w) o))
  rw [hr] at HR
  unfold polV at *
  clear hx hr
  have A := Lib.hid (h.step (balloc (Below.refl _ w) (.cells #[.int .i64 p.slots, .int .i64 p.low, .int .i64 p.high, .int .i64 p.top, .int .i64 p.sketch, .int .i64 p.fine, .int .i64 p.idle, .int .i64 p.window, .int .i64 p.late, .int .i64 p.future, .slice a n c] 38)))
  have hwin := h.win0
  have hbc := Lib.hid h.now.bits_cases
  have HE : Hid (endQ (laterQ q window) p = endQ (laterQ q window) p) := Lib.hid rfl
  clear h
  generalize hQ : endQ (laterQ q window) p = Q at HE ⊢
  replace HE : Hid (Q = endQ (laterQ q window) p) := Lib.hid hQ.symm
  clear hQ
  obtain ⟨bq, hbq⟩ : ∃ bq, bq = q.b := ⟨_, rfl⟩
  rw [← hbq] at A hbc
  replace hbq := Lib.hid hbq
  have hd : (window == q.win + 1) = false := by simp; omega
  have hgt : ¬ window ≤ q.win := by omega
  have hwi := Lib.hid hw
  have hwr : IntKind.i64.wrap (q.win + 1) = q.win + 1 := by rw [IntKind.wrap_i64]; omega
  clear hw
  go_enter Tryz.func12, Tryz.ntmps12
  go_wp2_with fail
  refine (HR.out _ (HX.out _)).mono ?_
  rintro e w1 ⟨rfl, b1⟩
  have A1 := Lib.hid (A.out.step b1)
  have HB := Lib.hid (Blk.step b1 (Blk.new w 38 #[.int .i64 p.slots, .int .i64 p.low, .int .i64 p.high, .int .i64 p.top, .int .i64 p.sketch, .int .i64 p.fine, .int .i64 p.idle, .int .i64 p.window, .int .i64 p.late, .int .i64 p.future, .slice a n c]))
  have k0 := A1.out.c0
  have kl := A1.out.blk.lt
  clear A HX HR b1
  have c3 := A1.out.c3
  have c4 := A1.out.c4
  have c5 := A1.out.c5
  have kf := A1.out.blk.frozen
  go_wp2_with fail
  refine (rgturn_any q.closed q.low q.high 0 _).mono ?_
  rintro e w2 ⟨rfl, b2⟩
  have A2 := A1.out.step b2
  have D2 := Blk.step b2 HB.out
  clear k0 kl c3 c4 c5 kf A1 HB b2
  have m3 := A2.c3
  have m4 := A2.c4
  have m5 := A2.c5
  have ml := A2.blk.lt
  have mf := A2.blk.frozen
  have A3 := A2.gate' (q.closed && decide (q.low < 0)) q.low q.high A2.low0
  have D3 := ((D2.far (p := ⟨g, 3, none⟩) (by exact fun e => (A2.blk.ne_ D2 (by decide)) e.symm) (.bool (q.closed && decide (q.low < 0)))).far (p := ⟨g, 4, none⟩) (by exact fun e => (A2.blk.ne_ D2 (by decide)) e.symm) (.int .u64 q.low)).far (p := ⟨g, 5, none⟩) (by exact fun e => (A2.blk.ne_ D2 (by decide)) e.symm) (.int .u64 q.high)
  have HA3 := Lib.hid A3
  have HD3 := Lib.hid D3
  clear A2 D2 A3 D3
  go_upto_region 10 with fail
  clear m3 m4 m5 ml mf
  generalize (((w2.setCell ⟨g, 3, none⟩ (.bool (q.closed && decide (q.low < 0)))).setCell ⟨g, 4, none⟩ (.int .u64 q.low)).setCell ⟨g, 5, none⟩ (.int .u64 q.high)) = w3 at *
  obtain ⟨q1, hq1⟩ : ∃ q1, q1 = ({ q with closed := q.closed && decide (q.low < 0) } : QS) := ⟨_, rfl⟩
  rw [← hq1] at HA3
  have HQ1 := Lib.hid hq1
  clear hq1
  have c1 := HA3.out.c1
  have kl := HA3.out.blk.lt
  go_wp2_with fail
  refine (RBits_any gn yn bq q1.rn _ HA3.out.now).mono ?_
  rintro e w4 ⟨rfl, b4⟩
  have HA4 := Lib.hid (HA3.out.step b4)
  have HD4 := Lib.hid (Blk.step b4 HD3.out)
  clear HA3 HD3 b4 c1 kl
  go_wp2_with fail
  refine (RNew_yes bq w4 hbc.out).mono ?_
  rintro e w5 ⟨gx, yx, rfl, z1, z2, S5, b5⟩
  have A5 := HA4.out.step b5
  have D5 := Blk.step b5 HD4.out
  have hx0 : W.heap.size ≤ yx := by have := HA4.out.below.size; omega
  clear HA4 HD4 b5 z1 z2
  have c2 := A5.c2
  have kl := A5.blk.lt
  have kf := A5.blk.frozen
  have A := A5.store (i := 2) (v := .pointer (some ⟨gx, 0, none⟩)) (q' := { q1 with rb := zerosN bq }) (gn' := gn) (gb' := gx) (gt' := gt) rfl A5.now S5 A5.tm A5.yn0 hx0 A5.win0 A5.low0
  have HB := D5.far (p := ⟨g, 2, none⟩) (fun e => (A5.blk.ne_ D5 (by decide)) e.symm) (.pointer (some ⟨gx, 0, none⟩))
  clear A5 D5 S5 hx0
  go_upto_region 11 with fail
  clear c2 kl kf
  generalize (w5.setCell ⟨g, 2, none⟩ (.pointer (some ⟨gx, 0, none⟩))) = w4 at *
  obtain ⟨q2, hq2⟩ : ∃ q2, q2 = ({ q1 with rb := zerosN bq } : QS) := ⟨_, rfl⟩
  rw [← hq2] at A
  have HQ2 := Lib.hid hq2
  clear hq2
  obtain ⟨slots, low, high, top, sketch, fine, idle, wd, late, future⟩ := p
  simp only at HB
  obtain ⟨o1, o2, o3, o4⟩ := ok
  simp only at o1 o2 o3 o4
  obtain ⟨sb, rfl⟩ : ∃ b : Nat, sketch = b := ⟨sketch.toNat, by omega⟩
  obtain ⟨rm, rfl⟩ : ∃ b : Nat, top = b := ⟨top.toNat, by omega⟩
  have c2 := A.c2
  have kl := A.blk.lt
  go_wp2_with fail
  refine (RBits_any gx yx bq q2.rb _ A.bef).mono ?_
  rintro e w5 ⟨rfl, b5⟩
  have A5 := A.step b5
  have B5 := Blk.step b5 HB
  clear A HB b5 c2 kl
  go_wp2_with fail
  refine (RNew_yes bq w5 hbc.out).mono ?_
  rintro e w6 ⟨gz, yz, rfl, z1, z2, S6, b6⟩
  have A6 := A5.step b6
  have B6 := Blk.step b6 B5
  have hYY : Hid (yz ≠ yx) := Lib.hid (by have := A5.bef.lt; omega)
  have hy0 : W.heap.size ≤ yz := by have := A5.below.size; omega
  clear A5 B5 b6 z1 z2
  have c1 := A6.c1
  have kl := A6.blk.lt
  have kf := A6.blk.frozen
  have A7 := A6.store (i := 1) (v := .pointer (some ⟨gz, 0, none⟩)) (q' := { q2 with rn := zerosN bq }) (gn' := gz) (gb' := gx) (gt' := gt) rfl S6 A6.bef A6.tm hy0 A6.yb0 A6.win0 A6.low0
  have B7 := B6.far (p := ⟨g, 1, none⟩) (fun e => (A6.blk.ne_ B6 (by decide)) e.symm) (.pointer (some ⟨gz, 0, none⟩))
  clear A6 B6 S6 hy0
  go_upto_region 12 with fail
  clear c1 kl kf
  generalize (w6.setCell ⟨g, 1, none⟩ (.pointer (some ⟨gz, 0, none⟩))) = w7 at *
  obtain ⟨q3, hq3⟩ : ∃ q3, q3 = ({ q2 with rn := zerosN bq } : QS) := ⟨_, rfl⟩
  rw [← hq3] at A7
  have HQ3 := Lib.hid hq3
  clear hq3
  have c0 := A7.c0
  have kl := A7.blk.lt
  have kf := A7.blk.frozen
  have A8 := A7.win' window (by omega)
  have B8 := B7.far (p := ⟨g, 0, none⟩) (fun e => (A7.blk.ne_ B7 (by decide)) e.symm) (.int .i64 window)
  clear A7 B7
  go_upto_region 13 with fail
  clear c0 kl kf
  generalize (w7.setCell ⟨g, 0, none⟩ (.int .i64 window)) = w8 at *
  obtain ⟨q4, hq4⟩ : ∃ q4, q4 = ({ q3 with win := window } : QS) := ⟨_, rfl⟩
  rw [← hq4] at A8
  have HQ4 := Lib.hid hq4
  clear hq4
  go_cut [8] from 9 (fun x wx => x = .int .i64 2 ∧ Rw W w0 g gz gx gt yz yx bq bq { q4 with closed := q4.closed, low := min low high, high := high } wx ∧ Blk wx w.heap.size 38 #[.int .i64 slots, .int .i64 low, .int .i64 high, .int .i64 rm, .int .i64 sb, .int .i64 fine, .int .i64 idle, .int .i64 wd, .int .i64 late, .int .i64 future, .slice a n c])
  case first =>
    have c3 := A8.c3
    have c4 := A8.c4
    have c5 := A8.c5
    have kl := A8.blk.lt
    have kf := A8.blk.frozen
    have p1 : _ = some (Value.int .i64 low) := B8.cellAt 1 rfl
    have p2 : _ = some (Value.int .i64 high) := B8.cellAt 2 rfl
    have pl := B8.lt
    have A0 := A8.drew
    have D0 := B8.drew
    have hmn : Hid (0 ≤ min low high) := Lib.hid (by omega)
    have z1 : IntKind.u64.wrap low = low := by simp [IntKind.wrap, IntKind.bits, IntKind.signed]; omega
    have z2 : IntKind.u64.wrap high = high := by simp [IntKind.wrap, IntKind.bits, IntKind.signed]; omega
    clear A8 B8
    go_region_with (first
      | (go_at_call 42; ((with_reducible refine (rgset_any q4.closed q4.low q4.high low high _).mono ?_); rintro eC wC ⟨rfl, bC⟩; have A3 := A0.step bC; have D3 := Blk.step bC D0; clear bC; have m3 := A3.c3; have m4 := A3.c4; have m5 := A3.c5; have ml := A3.blk.lt; have mf := A3.blk.frozen)))
    all_goals
      have A4 := A3.gate' q4.closed (min low high) high hmn.out
      have D4 := ((D3.far (p := ⟨g, 3, none⟩) (by exact fun e => (A3.blk.ne_ D3 (by decide)) e.symm) (.bool q4.closed)).far (p := ⟨g, 4, none⟩) (by exact fun e => (A3.blk.ne_ D3 (by decide)) e.symm) (.int .u64 (min low high))).far (p := ⟨g, 5, none⟩) (by exact fun e => (A3.blk.ne_ D3 (by decide)) e.symm) (.int .u64 high)
      clear c3 c4 c5 kl kf m3 m4 m5 ml mf A0 A3 D0 D3 p1 p2 pl z1 z2
      go_wp2_with fail
      go_meet
      exact ⟨rfl, A4, D4⟩
  case rest =>
  clear A8 B8
  obtain ⟨rfl, A7, B7⟩ := hcut
  obtain ⟨q5, hq5⟩ : ∃ q5, q5 = ({ q4 with closed := q4.closed, low := min low high, high := high } : QS) := ⟨_, rfl⟩
  rw [← hq5] at A7
  have HQ5 := Lib.hid hq5
  clear hq5
  go_upto_region 14 with fail
  have c1 := A7.c1
  have kl := A7.blk.lt
  have p4 : _ = some (Value.int .i64 sb) := B7.cellAt 4 rfl
  have pl := B7.lt
  have A := A7.drew
  have B := B7.drew
  clear A7 B7
  have hsc : Hid (sb = 4 ∨ sb = 5 ∨ sb = 6 ∨ sb = 7 ∨ sb = 8 ∨ sb = 9 ∨ sb = 10) := Lib.hid (by omega)
  by_cases hsk : bq = sb
  · have hne : ((bq : Int) != (sb : Int)) = false := by rw [bne_eq_false_iff_eq]; omega
    have hsk2 := Lib.hid hsk
    clear hsk
    go_region_held3 (fun w' => w'.cell? ⟨g, 1, none⟩ = some (.pointer (some ⟨gz, 0, none⟩)) ∧ w'.cell? ⟨w.heap.size, 4, none⟩ = some (.int .i64 sb)) (exact ⟨A.c1, B.cellAt 4 rfl⟩)
      (first
        | (go_at_call 13; ((with_reducible refine (RBits_any gz yz bq q5.rn _ A.now).mono ?_); rintro eC wC ⟨rfl, bC⟩; replace A := A.step bC; replace B := Blk.step bC B; clear bC)))
    clear c1 kl p4 pl
    have p3 : _ = some (Value.int .i64 rm) := B.cellAt 3 rfl
    have pl := B.lt
    go_wp2_with fail
    refine (rm_new (W := W) (base := W.heap.size) rm (by omega) (by omega) A.below (Nat.le_refl _)).mono ?_
    rintro e w9 ⟨rfl, T9, b9⟩
    have A9 := A.step b9
    have gl := A9.blk.lt
    have gf := A9.blk.frozen
    have g6 := A9.c6
    have A10 := A9.store (i := 6) (v := .pointer (some ⟨wC.heap.size, 0, none⟩)) (q' := { q5 with room := rm, seen := 0, l := [] }) (gn' := gz) (gb' := gx) (gt' := wC.heap.size) rfl A9.now A9.bef T9 A9.yn0 A9.yb0 A9.win0 A9.low0
    have hfin : Hid (Q = { q5 with room := rm, seen := 0, l := [] }) := Lib.hid (by
      rw [HE.out, endQ_eq]
      · rw [HQ5.out, HQ4.out, HQ3.out, HQ2.out, HQ1.out, hbq.out]; rfl
      · have h5 := hsk2.out
        rw [hbq.out] at h5
        exact h5)
    have hQb : Hid (Q.b = bq) := Lib.hid (by rw [hfin.out, HQ5.out, HQ4.out, HQ3.out, HQ2.out, HQ1.out]; exact hbq.out.symm)
    clear A B T9 b9 A9 p3 pl
    go_wp2_with fail
    go_ret
    exact ⟨rfl, _, _, _, _, _, by rw [hQb.out, hfin.out]; exact A10, hYY.out⟩
  · have hne : ((bq : Int) != (sb : Int)) = true := by rw [bne_iff_ne]; omega
    have hsk2 := Lib.hid hsk
    clear hsk
    go_region_held3 (fun w' => w'.cell? ⟨g, 1, none⟩ = some (.pointer (some ⟨gz, 0, none⟩)) ∧ w'.cell? ⟨w.heap.size, 4, none⟩ = some (.int .i64 sb)) (exact ⟨A.c1, B.cellAt 4 rfl⟩)
      (first
        | (go_at_call 13; ((with_reducible refine (RBits_any gz yz bq q5.rn _ A.now).mono ?_); rintro eC wC ⟨rfl, bC⟩; replace A := A.step bC; replace B := Blk.step bC B; clear bC)))
    clear c1 kl p4 pl
    have p4 : _ = some (Value.int .i64 sb) := B.cellAt 4 rfl
    have pl := B.lt
    go_wp2_with fail
    refine (RNew_yes sb _ hsc.out).mono ?_
    rintro e w9 ⟨gu, yu, rfl, z1, z2, S9, b9⟩
    have A9 := A.step b9
    have B9 := Blk.step b9 B
    have hu0 : W.heap.size ≤ yu := by have := A.below.size; omega
    have gl := A9.blk.lt
    have gf := A9.blk.frozen
    have g1 := A9.c1
    have A10 := A9.store (i := 1) (v := .pointer (some ⟨gu, 0, none⟩)) (q' := { q5 with rn := zerosN sb }) (gn' := gu) (gb' := gx) (gt' := gt) rfl S9 A9.bef A9.tm hu0 A9.yb0 A9.win0 A9.low0
    have B10 := B9.far (p := ⟨g, 1, none⟩) (fun e => (A9.blk.ne_ B9 (by decide)) e.symm) (.pointer (some ⟨gu, 0, none⟩))
    clear A B p4 pl A9 B9 S9 b9 z1 z2
    go_upto_region 16 with fail
    clear gl gf g1
    generalize (w9.setCell ⟨g, 1, none⟩ (.pointer (some ⟨gu, 0, none⟩))) = w10 at *
    have p4 : _ = some (Value.int .i64 sb) := B10.cellAt 4 rfl
    have pl := B10.lt
    go_wp2_with fail
    refine (RNew_yes sb _ hsc.out).mono ?_
    rintro e w11 ⟨gv, yv, rfl, z1, z2, S11, b11⟩
    have A11 := A10.step b11
    have B11 := Blk.step b11 B10
    have hv0 : W.heap.size ≤ yv := by have := A10.below.size; omega
    have huv : Hid (yu ≠ yv) := Lib.hid (by have := A10.now.lt; omega)
    have gl := A11.blk.lt
    have gf := A11.blk.frozen
    have g2 := A11.c2
    have A12 := A11.store (i := 2) (v := .pointer (some ⟨gv, 0, none⟩)) (q' := { q5 with rn := zerosN sb, rb := zerosN sb }) (gn' := gu) (gb' := gv) (gt' := gt) rfl A11.now S11 A11.tm A11.yn0 hv0 A11.win0 A11.low0
    have B12 := B11.far (p := ⟨g, 2, none⟩) (fun e => (A11.blk.ne_ B11 (by decide)) e.symm) (.pointer (some ⟨gv, 0, none⟩))
    clear A10 B10 p4 pl A11 B11 S11 b11 z1 z2
    go_upto_region 17 with fail
    clear gl gf g2
    generalize (w11.setCell ⟨g, 2, none⟩ (.pointer (some ⟨gv, 0, none⟩))) = w12 at *
    have p3 : _ = some (Value.int .i64 rm) := B12.cellAt 3 rfl
    have pl := B12.lt
    go_wp2_with fail
    refine (rm_new (W := W) (base := W.heap.size) rm (by omega) (by omega) A12.below (Nat.le_refl _)).mono ?_
    rintro e w13 ⟨rfl, T13, b13⟩
    have A13 := A12.step b13
    have gl := A13.blk.lt
    have gf := A13.blk.frozen
    have g6 := A13.c6
    have A14 := A13.store (i := 6) (v := .pointer (some ⟨w12.heap.size, 0, none⟩)) (q' := { q5 with b := sb, rn := zerosN sb, rb := zerosN sb, room := rm, seen := 0, l := [] }) (gn' := gu) (gb' := gv) (gt' := w12.heap.size) rfl A13.now A13.bef T13 A13.yn0 A13.yb0 A13.win0 A13.low0
    have hfin : Hid (Q = { q5 with b := sb, rn := zerosN sb, rb := zerosN sb, room := rm, seen := 0, l := [] }) := Lib.hid (by
      rw [HE.out, endQ_ne]
      · rw [HQ5.out, HQ4.out, HQ3.out, HQ2.out, HQ1.out]; rfl
      · have h5 := hsk2.out
        rw [hbq.out] at h5
        exact h5)
    have hQb : Hid (Q.b = sb) := Lib.hid (by rw [hfin.out])
    clear A12 B12 T13 b13 A13 p3 pl
    go_wp2_with fail
    go_ret
    exact ⟨rfl, _, _, _, _, _, by rw [hQb.out, hfin.out]; exact A14, huv.out⟩
end Go.Proofs.YtapiehddcdnadaaGreatDoor

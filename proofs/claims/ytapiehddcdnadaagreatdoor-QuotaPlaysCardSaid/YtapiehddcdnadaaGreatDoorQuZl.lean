/- Roll of a quota, and what is not the quota's left alone. -/
import Derived.Test.YtapiehddcdnadaaGreatDoorM15
namespace Go.Proofs.YtapiehddcdnadaaGreatDoor
open Go.RowKit
set_option linter.unusedVariables false
set_option linter.unusedSimpArgs false

set_option maxRecDepth 100000 in
set_option maxHeartbeats 4000000 in
theorem roll_next_far {W w0 w : World} {g gn gb gt : Nat} {q : QS} (p : PolN) (a : Option Addr) (n c : Nat) (xs : List Int) (window : Int) (h : Qf W w0 g gn gb gt q w) (hx : Ints .i64 w a n xs) (hn : n ≤ 9223372036854775807) (hr : rightP p xs = true) (hw : window = q.win + 1) (hw2 : window ≤ 9223372036854775807) :
    Calls Tryz.prog 11 #[.pointer (some ⟨g, 0, none⟩), .int .i64 window, polV p a n c] w fun e w' => e = .returned (.int .i64 1) ∧ QF W w0 g (endQ (nextQ q window) p) w' := by
  have ok := right_ok hr
  have HR := Lib.hid (fun W hW => right_call p a n c xs W hW hn)
  have HX := Lib.hid (fun o => hx.step (balloc (Below.refl _ w) o))
  rw [hr] at HR
  unfold polV at *
  clear hx hr
  have A := Lib.hid (h.step (balloc (Below.refl _ w) (.cells #[.int .i64 p.slots, .int .i64 p.low, .int .i64 p.high, .int .i64 p.top, .int .i64 p.sketch, .int .i64 p.fine, .int .i64 p.idle, .int .i64 p.window, .int .i64 p.late, .int .i64 p.future, .slice a n c] 24)))
  have hwin := h.win0
  have HE : Hid (endQ (nextQ q window) p = endQ (nextQ q window) p) := Lib.hid rfl
  have hge : Hid (W.heap.size ≤ w.heap.size) := Lib.hid (Nat.le_trans h.g0 (by have := h.blk.lt; omega))
  clear h
  generalize hQ : endQ (nextQ q window) p = Q at HE ⊢
  replace HE : Hid (Q = endQ (nextQ q window) p) := Lib.hid hQ.symm
  clear hQ
  have hd : (window - q.win == 1) = true := by simp; omega
  have hgt : ¬ window ≤ q.win := by omega
  have hwi := Lib.hid hw
  clear hw
  go_enter Tryz.func11, Tryz.ntmps11
  go_wp2_with fail
  refine (HR.out _ (HX.out _)).mono ?_
  rintro e w1 ⟨rfl, b1⟩
  have A1 := Lib.hid (A.out.step b1)
  have HB := Lib.hid (Blk.step b1 (Blk.new w 24 #[.int .i64 p.slots, .int .i64 p.low, .int .i64 p.high, .int .i64 p.top, .int .i64 p.sketch, .int .i64 p.fine, .int .i64 p.idle, .int .i64 p.window, .int .i64 p.late, .int .i64 p.future, .slice a n c]))
  have k0 := A1.out.c0
  have kl := A1.out.blk.lt
  clear A HX HR b1
  go_upto_region 9 with fail
  clear k0 kl
  go_cut [7] from 8 (fun x wx => x = .int .i64 1 ∧ Qf W w0 g gn gb gt { q with closed := q.closed && decide (q.low < estI q.b q.rn) } wx ∧ Blk wx w.heap.size 24 #[.int .i64 p.slots, .int .i64 p.low, .int .i64 p.high, .int .i64 p.top, .int .i64 p.sketch, .int .i64 p.fine, .int .i64 p.idle, .int .i64 p.window, .int .i64 p.late, .int .i64 p.future, .slice a n c])
  case first =>
    have A0 := A1.out.drew
    have D0 := HB.out.drew
    have c1 := A1.out.c1
    have c3 := A1.out.c3
    have c4 := A1.out.c4
    have c5 := A1.out.c5
    have kl := A1.out.blk.lt
    have kf := A1.out.blk.frozen
    clear A1 HB
    go_region_with (first
      | (go_at_call 36; ((with_reducible refine (Estimate_any gn q.b q.rn _ A0.now).mono ?_); rintro eB wB ⟨rfl, bB⟩; have A2 := A0.step bB; have D2 := Blk.step bB D0; clear bB; have d1 := A2.c1; have d3 := A2.c3; have d4 := A2.c4; have d5 := A2.c5; have dl := A2.blk.lt; have df := A2.blk.frozen))
      | (go_at_call 35; ((with_reducible refine (gturn_any q.closed q.low q.high (estI q.b q.rn) _).mono ?_); rintro eC wC ⟨rfl, bC⟩; have A3 := A2.step bC; have D3 := Blk.step bC D2; clear bC; have m3 := A3.c3; have m4 := A3.c4; have m5 := A3.c5; have ml := A3.blk.lt; have mf := A3.blk.frozen)))
    all_goals
      have A4 := A3.gate' (q.closed && decide (q.low < estI q.b q.rn)) q.low q.high A3.low0
      have D4 := ((D3.far (p := ⟨g, 3, none⟩) (by exact fun e => (A3.blk.ne_ D3 (by decide)) e.symm) (.bool (q.closed && decide (q.low < estI q.b q.rn)))).far (p := ⟨g, 4, none⟩) (by exact fun e => (A3.blk.ne_ D3 (by decide)) e.symm) (.int .u64 q.low)).far (p := ⟨g, 5, none⟩) (by exact fun e => (A3.blk.ne_ D3 (by decide)) e.symm) (.int .u64 q.high)
      clear c1 c3 c4 c5 kl kf d1 d3 d4 d5 dl df m3 m4 m5 ml mf A0 A2 A3 D0 D2 D3
      go_wp2_with fail
      go_meet
      exact ⟨rfl, A4, D4⟩
  case rest =>
  clear A1 HB
  obtain ⟨rfl, A1, HB⟩ := hcut
  obtain ⟨q1, hq1⟩ : ∃ q1, q1 = ({ q with closed := q.closed && decide (q.low < estI q.b q.rn) } : QS) := ⟨_, rfl⟩
  rw [← hq1] at A1
  have HQ1 := Lib.hid hq1
  clear hq1
  go_upto_region 10 with fail
  have c1 := A1.c1
  have c2 := A1.c2
  have kl := A1.blk.lt
  have kf := A1.blk.frozen
  have A2 := Lib.hid A1.swap.drew
  have D2 := Lib.hid ((HB.far (p := ⟨g, 1, none⟩) (fun e => (A1.blk.ne_ HB (by decide)) e.symm) (.pointer (some ⟨gb, 0, none⟩))).far (p := ⟨g, 2, none⟩) (fun e => (A1.blk.ne_ HB (by decide)) e.symm) (.pointer (some ⟨gn, 0, none⟩))).drew
  clear A1 HB
  go_region_with fail
  all_goals
    clear c1 c2 kl kf
    have A := A2.out
    have HB := D2.out
    clear A2 D2
    generalize (((wc.setCell ⟨g, 1, none⟩ (.pointer (some ⟨gb, 0, none⟩))).setCell ⟨g, 2, none⟩ (.pointer (some ⟨gn, 0, none⟩))).drew) = w4 at *
    obtain ⟨q2, hq2⟩ : ∃ q2, q2 = ({ q1 with rn := q1.rb, rb := q1.rn } : QS) := ⟨_, rfl⟩
    rw [← hq2] at A
    have HQ2 := Lib.hid hq2
    clear hq2
    obtain ⟨slots, low, high, top, sketch, fine, idle, wd, late, future⟩ := p
    simp only at HB
    obtain ⟨o1, o2, o3, o4⟩ := ok
    simp only at o1 o2 o3 o4
    obtain ⟨sb, rfl⟩ : ∃ b : Nat, sketch = b := ⟨sketch.toNat, by omega⟩
    obtain ⟨rm, rfl⟩ : ∃ b : Nat, top = b := ⟨top.toNat, by omega⟩
    have c1 := A.c1
    have kl := A.blk.lt
    go_wp2_with fail
    refine (Clear_any gb q2.b q2.rn _ A.now).mono ?_
    rintro e w5 ⟨rfl, S5, G5⟩
    have A5 := A.now' S5 G5
    have B5 := HB.grown G5 (by intro e; injection e with e; exact A.now.blk.ne_ HB (by decide) e.symm)
    clear A HB S5 G5 c1 kl
    obtain ⟨q3, hq3⟩ : ∃ q3, q3 = ({ q2 with rn := List.replicate (2 ^ q2.b) 0 } : QS) := ⟨_, rfl⟩
    rw [← hq3] at A5
    have HQ3 := Lib.hid hq3
    clear hq3
    have c0 := A5.c0
    have kl := A5.blk.lt
    have kf := A5.blk.frozen
    have A6 := A5.win' window (by omega)
    have B6 := B5.far (p := ⟨g, 0, none⟩) (fun e => (A5.blk.ne_ B5 (by decide)) e.symm) (.int .i64 window)
    clear A5 B5
    go_upto_region 13 with fail
    clear c0 kl kf
    generalize (w5.setCell ⟨g, 0, none⟩ (.int .i64 window)) = w6 at *
    obtain ⟨q4, hq4⟩ : ∃ q4, q4 = ({ q3 with win := window } : QS) := ⟨_, rfl⟩
    rw [← hq4] at A6
    have HQ4 := Lib.hid hq4
    clear hq4
    go_cut [7] from 8 (fun x wx => x = .int .i64 1 ∧ Qf W w0 g gb gn gt { q4 with closed := q4.closed, low := min low high, high := high } wx ∧ Blk wx w.heap.size 24 #[.int .i64 slots, .int .i64 low, .int .i64 high, .int .i64 rm, .int .i64 sb, .int .i64 fine, .int .i64 idle, .int .i64 wd, .int .i64 late, .int .i64 future, .slice a n c])
    case first =>
      have c3 := A6.c3
      have c4 := A6.c4
      have c5 := A6.c5
      have kl := A6.blk.lt
      have kf := A6.blk.frozen
      have p1 : _ = some (Value.int .i64 low) := B6.cellAt 1 rfl
      have p2 : _ = some (Value.int .i64 high) := B6.cellAt 2 rfl
      have pl := B6.lt
      have A0 := A6.drew
      have D0 := B6.drew
      have hmn : Hid (0 ≤ min low high) := Lib.hid (by omega)
      have z1 : IntKind.u64.wrap low = low := by simp [IntKind.wrap, IntKind.bits, IntKind.signed]; omega
      have z2 : IntKind.u64.wrap high = high := by simp [IntKind.wrap, IntKind.bits, IntKind.signed]; omega
      clear A6 B6
      go_region_with (first
        | (go_at_call 38; ((with_reducible refine (gset_any q4.closed q4.low q4.high low high _).mono ?_); rintro eC wC ⟨rfl, bC⟩; have A3 := A0.step bC; have D3 := Blk.step bC D0; clear bC; have m3 := A3.c3; have m4 := A3.c4; have m5 := A3.c5; have ml := A3.blk.lt; have mf := A3.blk.frozen)))
      all_goals
        have A4 := A3.gate' q4.closed (min low high) high hmn.out
        have D4 := ((D3.far (p := ⟨g, 3, none⟩) (by exact fun e => (A3.blk.ne_ D3 (by decide)) e.symm) (.bool q4.closed)).far (p := ⟨g, 4, none⟩) (by exact fun e => (A3.blk.ne_ D3 (by decide)) e.symm) (.int .u64 (min low high))).far (p := ⟨g, 5, none⟩) (by exact fun e => (A3.blk.ne_ D3 (by decide)) e.symm) (.int .u64 high)
        clear c3 c4 c5 kl kf m3 m4 m5 ml mf A0 A3 D0 D3 p1 p2 pl z1 z2
        go_wp2_with fail
        go_meet
        exact ⟨rfl, A4, D4⟩
    case rest =>
    clear A6 B6
    obtain ⟨rfl, A7, B7⟩ := hcut
    obtain ⟨q5, hq5⟩ : ∃ q5, q5 = ({ q4 with closed := q4.closed, low := min low high, high := high } : QS) := ⟨_, rfl⟩
    rw [← hq5] at A7
    have HQ5 := Lib.hid hq5
    clear hq5
    go_upto_region 14 with fail
    have c1 := A7.c1
    have kl := A7.blk.lt
    have p4 : _ = some (Value.int .i64 sb) := B7.cellAt 4 rfl
    have pl := B7.lt
    have A8 := A7.drew
    have B8 := B7.drew
    have HA7 := Lib.hid A7
    clear A7 B7
    have d1 := A8.c1
    have d4 : _ = some (Value.int .i64 sb) := B8.cellAt 4 rfl
    have hbc : Hid (sb = 4 ∨ sb = 5 ∨ sb = 6 ∨ sb = 7 ∨ sb = 8 ∨ sb = 9 ∨ sb = 10) := Lib.hid (by omega)
    by_cases hsk : q5.b = sb
    · have hne : ((q5.b : Int) != (sb : Int)) = false := by rw [bne_eq_false_iff_eq]; omega
      have hsk2 := Lib.hid hsk
      clear hsk
      go_region_held3 (fun w' => w'.cell? ⟨g, 1, none⟩ = some (.pointer (some ⟨gb, 0, none⟩)) ∧ w'.cell? ⟨w.heap.size, 4, none⟩ = some (.int .i64 sb)) (exact ⟨d1, d4⟩)
        (first
          | (go_at_call 39; ((with_reducible refine (Bits_any gb q5.b q5.rn _ A8.now).mono ?_); rintro eC wC ⟨rfl, rfl⟩)))
      clear d1 d4 c1 kl p4 pl HA7
      generalize wc.drew = w8 at *
      have p3 : _ = some (Value.int .i64 rm) := B8.cellAt 3 rfl
      have pl := B8.lt
      go_wp2_with fail
      refine (tm_new (W := W) (base := W.heap.size) rm (by omega) (by omega) A8.below (Nat.le_refl _)).mono ?_
      rintro e w9 ⟨rfl, T9, b9⟩
      have A9 := A8.retop b9 T9
      have B9 := Blk.step b9 A8.blk
      have gl := B9.lt
      have gf := B9.frozen
      have g6 : _ = some (Value.pointer (some ⟨gt, 0, none⟩)) := B9.cellAt 6 rfl
      have hfin : Hid (Q = { q5 with room := rm, seen := 0, l := [] }) := Lib.hid (by
        rw [HE.out, endQ_eq]
        · rw [HQ5.out, HQ4.out, HQ3.out, HQ2.out]; rw [HQ1.out]; rfl
        · have h5 := hsk2.out
          rw [HQ5.out, HQ4.out, HQ3.out, HQ2.out] at h5; rw [HQ1.out] at h5
          exact h5)
      clear A8 B8 T9 b9 B9 p3 pl
      go_wp2_with fail
      go_ret
      exact ⟨rfl, _, _, _, by rw [hfin.out]; exact A9⟩
    · have hne : ((q5.b : Int) != (sb : Int)) = true := by rw [bne_iff_ne]; omega
      have hsk2 := Lib.hid hsk
      clear hsk
      go_region_held3 (fun w' => w'.cell? ⟨g, 1, none⟩ = some (.pointer (some ⟨gb, 0, none⟩)) ∧ w'.cell? ⟨w.heap.size, 4, none⟩ = some (.int .i64 sb)) (exact ⟨d1, d4⟩)
        (first
          | (go_at_call 39; ((with_reducible refine (Bits_any gb q5.b q5.rn _ A8.now).mono ?_); rintro eC wC ⟨rfl, rfl⟩)))
      clear d1 d4 c1 kl p4 pl HA7
      generalize wc.drew = w8 at *
      have p4 : _ = some (Value.int .i64 sb) := B8.cellAt 4 rfl
      have pl := B8.lt
      have hgb : Hid (g ≠ w.heap.size) := Lib.hid (A8.blk.ne_ B8 (by decide))
      go_wp2_with fail
      refine (New_yes sb w8 hbc.out).mono ?_
      rintro e w9 ⟨rfl, S9, b9⟩
      have C9 := Blk.step b9 A8.blk
      have B9 := (Blk.step b9 B8).far (p := ⟨g, 1, none⟩) (fun e => hgb.out e.symm) (.pointer (some ⟨w8.heap.size, 0, none⟩))
      have C9b := C9.put 1 (.pointer (some ⟨w8.heap.size, 0, none⟩))
      have gl := C9.lt
      have gf := C9.frozen
      have g6 : _ = some (Value.pointer (some ⟨gb, 0, none⟩)) := C9.cellAt 1 rfl
      clear p4 pl B8
      go_upto_region 16 with fail
      clear gl gf g6 C9
      generalize hw10 : (w9.setCell ⟨g, 1, none⟩ (.pointer (some ⟨w8.heap.size, 0, none⟩))) = w10 at *
      have HW10 := Lib.hid hw10.symm
      clear hw10
      have p4 : _ = some (Value.int .i64 sb) := B9.cellAt 4 rfl
      have pl := B9.lt
      go_wp2_with fail
      refine (New_yes sb w10 hbc.out).mono ?_
      rintro e w11 ⟨rfl, S11, b11⟩
      have A11 := A8.renew b9 S9 HW10.out b11 S11
      have C11 := Blk.step b11 C9b
      have B11 := (Blk.step b11 B9).far (p := ⟨g, 2, none⟩) (fun e => hgb.out e.symm) (.pointer (some ⟨w10.heap.size, 0, none⟩))
      have gl := C11.lt
      have gf := C11.frozen
      have g6 : _ = some (Value.pointer (some ⟨gn, 0, none⟩)) := C11.cellAt 2 rfl
      clear p4 pl B9 A8 b9 S9 HW10 b11 S11 C9b
      generalize w8.heap.size = gp8 at *
      generalize w10.heap.size = gp10 at *
      go_upto_region 17 with fail
      clear gl gf g6 C11
      generalize (w11.setCell ⟨g, 2, none⟩ (.pointer (some ⟨gp10, 0, none⟩))) = w12 at *
      have p3 : _ = some (Value.int .i64 rm) := B11.cellAt 3 rfl
      have pl := B11.lt
      go_wp2_with fail
      refine (tm_new (W := W) (base := W.heap.size) rm (by omega) (by omega) A11.below (Nat.le_refl _)).mono ?_
      rintro e w13 ⟨rfl, T13, b13⟩
      have A13 := A11.retop b13 T13
      have C13 := Blk.step b13 A11.blk
      have gl := C13.lt
      have gf := C13.frozen
      have g6 : _ = some (Value.pointer (some ⟨gt, 0, none⟩)) := C13.cellAt 6 rfl
      have hfin : Hid (Q = { q5 with b := sb, rn := List.replicate (2 ^ sb) 0, rb := List.replicate (2 ^ sb) 0, room := rm, seen := 0, l := [] }) := Lib.hid (by
        rw [HE.out, endQ_ne]
        · rw [HQ5.out, HQ4.out, HQ3.out, HQ2.out]; rw [HQ1.out]; rfl
        · have h5 := hsk2.out
          rw [HQ5.out, HQ4.out, HQ3.out, HQ2.out] at h5; rw [HQ1.out] at h5
          exact h5)
      clear A11 B11 T13 b13 C13 p3 pl
      go_wp2_with fail
      go_ret
      exact ⟨rfl, _, _, _, by rw [hfin.out]; exact A13⟩
set_option maxRecDepth 100000 in
set_option maxHeartbeats 4000000 in
theorem roll_later_far {W w0 w : World} {g gn gb gt : Nat} {q : QS} (p : PolN) (a : Option Addr) (n c : Nat) (xs : List Int) (window : Int) (h : Qf W w0 g gn gb gt q w) (hx : Ints .i64 w a n xs) (hn : n ≤ 9223372036854775807) (hr : rightP p xs = true) (hw : q.win + 1 < window) (hw2 : window ≤ 9223372036854775807) :
    Calls Tryz.prog 11 #[.pointer (some ⟨g, 0, none⟩), .int .i64 window, polV p a n c] w fun e w' => e = .returned (.int .i64 2) ∧ QF W w0 g (endQ (laterQ q window) p) w' := by
  have ok := right_ok hr
  have HR := Lib.hid (fun W hW => right_call p a n c xs W hW hn)
  have HX := Lib.hid (fun o => hx.step (balloc (Below.refl _ w) o))
  rw [hr] at HR
  unfold polV at *
  clear hx hr
  have A := Lib.hid (h.step (balloc (Below.refl _ w) (.cells #[.int .i64 p.slots, .int .i64 p.low, .int .i64 p.high, .int .i64 p.top, .int .i64 p.sketch, .int .i64 p.fine, .int .i64 p.idle, .int .i64 p.window, .int .i64 p.late, .int .i64 p.future, .slice a n c] 24)))
  have hwin := h.win0
  have HE : Hid (endQ (laterQ q window) p = endQ (laterQ q window) p) := Lib.hid rfl
  have hge : Hid (W.heap.size ≤ w.heap.size) := Lib.hid (Nat.le_trans h.g0 (by have := h.blk.lt; omega))
  clear h
  generalize hQ : endQ (laterQ q window) p = Q at HE ⊢
  replace HE : Hid (Q = endQ (laterQ q window) p) := Lib.hid hQ.symm
  clear hQ
  have hd : (window - q.win == 1) = false := by simp; omega
  have hgt : ¬ window ≤ q.win := by omega
  have hwi := Lib.hid hw
  clear hw
  go_enter Tryz.func11, Tryz.ntmps11
  go_wp2_with fail
  refine (HR.out _ (HX.out _)).mono ?_
  rintro e w1 ⟨rfl, b1⟩
  have A1 := Lib.hid (A.out.step b1)
  have HB := Lib.hid (Blk.step b1 (Blk.new w 24 #[.int .i64 p.slots, .int .i64 p.low, .int .i64 p.high, .int .i64 p.top, .int .i64 p.sketch, .int .i64 p.fine, .int .i64 p.idle, .int .i64 p.window, .int .i64 p.late, .int .i64 p.future, .slice a n c]))
  have k0 := A1.out.c0
  have kl := A1.out.blk.lt
  clear A HX HR b1
  have c3 := A1.out.c3
  have c4 := A1.out.c4
  have c5 := A1.out.c5
  have kf := A1.out.blk.frozen
  go_wp2_with fail
  refine (gturn_any q.closed q.low q.high 0 _).mono ?_
  rintro e w2 ⟨rfl, b2⟩
  have A2 := A1.out.step b2
  have D2 := Blk.step b2 HB.out
  clear k0 kl c3 c4 c5 kf A1 HB b2
  have m3 := A2.c3
  have m4 := A2.c4
  have m5 := A2.c5
  have ml := A2.blk.lt
  have mf := A2.blk.frozen
  have A3 := A2.gate' (q.closed && decide (q.low < 0)) q.low q.high A2.low0
  have D3 := ((D2.far (p := ⟨g, 3, none⟩) (by exact fun e => (A2.blk.ne_ D2 (by decide)) e.symm) (.bool (q.closed && decide (q.low < 0)))).far (p := ⟨g, 4, none⟩) (by exact fun e => (A2.blk.ne_ D2 (by decide)) e.symm) (.int .u64 q.low)).far (p := ⟨g, 5, none⟩) (by exact fun e => (A2.blk.ne_ D2 (by decide)) e.symm) (.int .u64 q.high)
  have HA3 := Lib.hid A3
  have HD3 := Lib.hid D3
  clear A2 D2 A3 D3
  go_upto_region 4 with fail
  clear m3 m4 m5 ml mf
  generalize (((w2.setCell ⟨g, 3, none⟩ (.bool (q.closed && decide (q.low < 0)))).setCell ⟨g, 4, none⟩ (.int .u64 q.low)).setCell ⟨g, 5, none⟩ (.int .u64 q.high)) = w3 at *
  obtain ⟨q1, hq1⟩ : ∃ q1, q1 = ({ q with closed := q.closed && decide (q.low < 0) } : QS) := ⟨_, rfl⟩
  rw [← hq1] at HA3
  have HQ1 := Lib.hid hq1
  clear hq1
  have c2 := HA3.out.c2
  have kl := HA3.out.blk.lt
  go_wp2_with fail
  refine (Clear_any gb q1.b q1.rb _ HA3.out.bef).mono ?_
  rintro e w4 ⟨rfl, S4, G4⟩
  have A := HA3.out.bef' S4 G4
  have HB := HD3.out.grown G4 (by intro e; injection e with e; exact HA3.out.bef.blk.ne_ HD3.out (by decide) e.symm)
  clear c2 kl S4 G4 HA3 HD3
  obtain ⟨q2, hq2⟩ : ∃ q2, q2 = ({ q1 with rb := List.replicate (2 ^ q1.b) 0 } : QS) := ⟨_, rfl⟩
  rw [← hq2] at A
  have HQ2 := Lib.hid hq2
  clear hq2
  obtain ⟨slots, low, high, top, sketch, fine, idle, wd, late, future⟩ := p
  simp only at HB
  obtain ⟨o1, o2, o3, o4⟩ := ok
  simp only at o1 o2 o3 o4
  obtain ⟨sb, rfl⟩ : ∃ b : Nat, sketch = b := ⟨sketch.toNat, by omega⟩
  obtain ⟨rm, rfl⟩ : ∃ b : Nat, top = b := ⟨top.toNat, by omega⟩
  have c1 := A.c1
  have kl := A.blk.lt
  go_wp2_with fail
  refine (Clear_any gn q2.b q2.rn _ A.now).mono ?_
  rintro e w5 ⟨rfl, S5, G5⟩
  have A5 := A.now' S5 G5
  have B5 := HB.grown G5 (by intro e; injection e with e; exact A.now.blk.ne_ HB (by decide) e.symm)
  clear A HB S5 G5 c1 kl
  obtain ⟨q3, hq3⟩ : ∃ q3, q3 = ({ q2 with rn := List.replicate (2 ^ q2.b) 0 } : QS) := ⟨_, rfl⟩
  rw [← hq3] at A5
  have HQ3 := Lib.hid hq3
  clear hq3
  have c0 := A5.c0
  have kl := A5.blk.lt
  have kf := A5.blk.frozen
  have A6 := A5.win' window (by omega)
  have B6 := B5.far (p := ⟨g, 0, none⟩) (fun e => (A5.blk.ne_ B5 (by decide)) e.symm) (.int .i64 window)
  clear A5 B5
  go_upto_region 13 with fail
  clear c0 kl kf
  generalize (w5.setCell ⟨g, 0, none⟩ (.int .i64 window)) = w6 at *
  obtain ⟨q4, hq4⟩ : ∃ q4, q4 = ({ q3 with win := window } : QS) := ⟨_, rfl⟩
  rw [← hq4] at A6
  have HQ4 := Lib.hid hq4
  clear hq4
  go_cut [7] from 8 (fun x wx => x = .int .i64 2 ∧ Qf W w0 g gn gb gt { q4 with closed := q4.closed, low := min low high, high := high } wx ∧ Blk wx w.heap.size 24 #[.int .i64 slots, .int .i64 low, .int .i64 high, .int .i64 rm, .int .i64 sb, .int .i64 fine, .int .i64 idle, .int .i64 wd, .int .i64 late, .int .i64 future, .slice a n c])
  case first =>
    have c3 := A6.c3
    have c4 := A6.c4
    have c5 := A6.c5
    have kl := A6.blk.lt
    have kf := A6.blk.frozen
    have p1 : _ = some (Value.int .i64 low) := B6.cellAt 1 rfl
    have p2 : _ = some (Value.int .i64 high) := B6.cellAt 2 rfl
    have pl := B6.lt
    have A0 := A6.drew
    have D0 := B6.drew
    have hmn : Hid (0 ≤ min low high) := Lib.hid (by omega)
    have z1 : IntKind.u64.wrap low = low := by simp [IntKind.wrap, IntKind.bits, IntKind.signed]; omega
    have z2 : IntKind.u64.wrap high = high := by simp [IntKind.wrap, IntKind.bits, IntKind.signed]; omega
    clear A6 B6
    go_region_with (first
      | (go_at_call 38; ((with_reducible refine (gset_any q4.closed q4.low q4.high low high _).mono ?_); rintro eC wC ⟨rfl, bC⟩; have A3 := A0.step bC; have D3 := Blk.step bC D0; clear bC; have m3 := A3.c3; have m4 := A3.c4; have m5 := A3.c5; have ml := A3.blk.lt; have mf := A3.blk.frozen)))
    all_goals
      have A4 := A3.gate' q4.closed (min low high) high hmn.out
      have D4 := ((D3.far (p := ⟨g, 3, none⟩) (by exact fun e => (A3.blk.ne_ D3 (by decide)) e.symm) (.bool q4.closed)).far (p := ⟨g, 4, none⟩) (by exact fun e => (A3.blk.ne_ D3 (by decide)) e.symm) (.int .u64 (min low high))).far (p := ⟨g, 5, none⟩) (by exact fun e => (A3.blk.ne_ D3 (by decide)) e.symm) (.int .u64 high)
      clear c3 c4 c5 kl kf m3 m4 m5 ml mf A0 A3 D0 D3 p1 p2 pl z1 z2
      go_wp2_with fail
      go_meet
      exact ⟨rfl, A4, D4⟩
  case rest =>
  clear A6 B6
  obtain ⟨rfl, A7, B7⟩ := hcut
  obtain ⟨q5, hq5⟩ : ∃ q5, q5 = ({ q4 with closed := q4.closed, low := min low high, high := high } : QS) := ⟨_, rfl⟩
  rw [← hq5] at A7
  have HQ5 := Lib.hid hq5
  clear hq5
  go_upto_region 14 with fail
  have c1 := A7.c1
  have kl := A7.blk.lt
  have p4 : _ = some (Value.int .i64 sb) := B7.cellAt 4 rfl
  have pl := B7.lt
  have A8 := A7.drew
  have B8 := B7.drew
  have HA7 := Lib.hid A7
  clear A7 B7
  have d1 := A8.c1
  have d4 : _ = some (Value.int .i64 sb) := B8.cellAt 4 rfl
  have hbc : Hid (sb = 4 ∨ sb = 5 ∨ sb = 6 ∨ sb = 7 ∨ sb = 8 ∨ sb = 9 ∨ sb = 10) := Lib.hid (by omega)
  by_cases hsk : q5.b = sb
  · have hne : ((q5.b : Int) != (sb : Int)) = false := by rw [bne_eq_false_iff_eq]; omega
    have hsk2 := Lib.hid hsk
    clear hsk
    go_region_held3 (fun w' => w'.cell? ⟨g, 1, none⟩ = some (.pointer (some ⟨gn, 0, none⟩)) ∧ w'.cell? ⟨w.heap.size, 4, none⟩ = some (.int .i64 sb)) (exact ⟨d1, d4⟩)
      (first
        | (go_at_call 39; ((with_reducible refine (Bits_any gn q5.b q5.rn _ A8.now).mono ?_); rintro eC wC ⟨rfl, rfl⟩)))
    clear d1 d4 c1 kl p4 pl HA7
    generalize wc.drew = w8 at *
    have p3 : _ = some (Value.int .i64 rm) := B8.cellAt 3 rfl
    have pl := B8.lt
    go_wp2_with fail
    refine (tm_new (W := W) (base := W.heap.size) rm (by omega) (by omega) A8.below (Nat.le_refl _)).mono ?_
    rintro e w9 ⟨rfl, T9, b9⟩
    have A9 := A8.retop b9 T9
    have B9 := Blk.step b9 A8.blk
    have gl := B9.lt
    have gf := B9.frozen
    have g6 : _ = some (Value.pointer (some ⟨gt, 0, none⟩)) := B9.cellAt 6 rfl
    have hfin : Hid (Q = { q5 with room := rm, seen := 0, l := [] }) := Lib.hid (by
      rw [HE.out, endQ_eq]
      · rw [HQ5.out, HQ4.out, HQ3.out, HQ2.out]; rw [HQ1.out]; rfl
      · have h5 := hsk2.out
        rw [HQ5.out, HQ4.out, HQ3.out, HQ2.out] at h5; rw [HQ1.out] at h5
        exact h5)
    clear A8 B8 T9 b9 B9 p3 pl
    go_wp2_with fail
    go_ret
    exact ⟨rfl, _, _, _, by rw [hfin.out]; exact A9⟩
  · have hne : ((q5.b : Int) != (sb : Int)) = true := by rw [bne_iff_ne]; omega
    have hsk2 := Lib.hid hsk
    clear hsk
    go_region_held3 (fun w' => w'.cell? ⟨g, 1, none⟩ = some (.pointer (some ⟨gn, 0, none⟩)) ∧ w'.cell? ⟨w.heap.size, 4, none⟩ = some (.int .i64 sb)) (exact ⟨d1, d4⟩)
      (first
        | (go_at_call 39; ((with_reducible refine (Bits_any gn q5.b q5.rn _ A8.now).mono ?_); rintro eC wC ⟨rfl, rfl⟩)))
    clear d1 d4 c1 kl p4 pl HA7
    generalize wc.drew = w8 at *
    have p4 : _ = some (Value.int .i64 sb) := B8.cellAt 4 rfl
    have pl := B8.lt
    have hgb : Hid (g ≠ w.heap.size) := Lib.hid (A8.blk.ne_ B8 (by decide))
    go_wp2_with fail
    refine (New_yes sb w8 hbc.out).mono ?_
    rintro e w9 ⟨rfl, S9, b9⟩
    have C9 := Blk.step b9 A8.blk
    have B9 := (Blk.step b9 B8).far (p := ⟨g, 1, none⟩) (fun e => hgb.out e.symm) (.pointer (some ⟨w8.heap.size, 0, none⟩))
    have C9b := C9.put 1 (.pointer (some ⟨w8.heap.size, 0, none⟩))
    have gl := C9.lt
    have gf := C9.frozen
    have g6 : _ = some (Value.pointer (some ⟨gn, 0, none⟩)) := C9.cellAt 1 rfl
    clear p4 pl B8
    go_upto_region 16 with fail
    clear gl gf g6 C9
    generalize hw10 : (w9.setCell ⟨g, 1, none⟩ (.pointer (some ⟨w8.heap.size, 0, none⟩))) = w10 at *
    have HW10 := Lib.hid hw10.symm
    clear hw10
    have p4 : _ = some (Value.int .i64 sb) := B9.cellAt 4 rfl
    have pl := B9.lt
    go_wp2_with fail
    refine (New_yes sb w10 hbc.out).mono ?_
    rintro e w11 ⟨rfl, S11, b11⟩
    have A11 := A8.renew b9 S9 HW10.out b11 S11
    have C11 := Blk.step b11 C9b
    have B11 := (Blk.step b11 B9).far (p := ⟨g, 2, none⟩) (fun e => hgb.out e.symm) (.pointer (some ⟨w10.heap.size, 0, none⟩))
    have gl := C11.lt
    have gf := C11.frozen
    have g6 : _ = some (Value.pointer (some ⟨gb, 0, none⟩)) := C11.cellAt 2 rfl
    clear p4 pl B9 A8 b9 S9 HW10 b11 S11 C9b
    generalize w8.heap.size = gp8 at *
    generalize w10.heap.size = gp10 at *
    go_upto_region 17 with fail
    clear gl gf g6 C11
    generalize (w11.setCell ⟨g, 2, none⟩ (.pointer (some ⟨gp10, 0, none⟩))) = w12 at *
    have p3 : _ = some (Value.int .i64 rm) := B11.cellAt 3 rfl
    have pl := B11.lt
    go_wp2_with fail
    refine (tm_new (W := W) (base := W.heap.size) rm (by omega) (by omega) A11.below (Nat.le_refl _)).mono ?_
    rintro e w13 ⟨rfl, T13, b13⟩
    have A13 := A11.retop b13 T13
    have C13 := Blk.step b13 A11.blk
    have gl := C13.lt
    have gf := C13.frozen
    have g6 : _ = some (Value.pointer (some ⟨gt, 0, none⟩)) := C13.cellAt 6 rfl
    have hfin : Hid (Q = { q5 with b := sb, rn := List.replicate (2 ^ sb) 0, rb := List.replicate (2 ^ sb) 0, room := rm, seen := 0, l := [] }) := Lib.hid (by
      rw [HE.out, endQ_ne]
      · rw [HQ5.out, HQ4.out, HQ3.out, HQ2.out]; rw [HQ1.out]; rfl
      · have h5 := hsk2.out
        rw [HQ5.out, HQ4.out, HQ3.out, HQ2.out] at h5; rw [HQ1.out] at h5
        exact h5)
    clear A11 B11 T13 b13 C13 p3 pl
    go_wp2_with fail
    go_ret
    exact ⟨rfl, _, _, _, by rw [hfin.out]; exact A13⟩
end Go.Proofs.YtapiehddcdnadaaGreatDoor

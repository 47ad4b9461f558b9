/- The document's Right. -/
import Derived.Test.YtapiehddcdnadaaGreatDoorQuP
import Derived.Deep.QuietTactic
import Derived.BigQuiet
import Derived.Deep.CutBlock
import Derived.Deep.CutRange
namespace Go.Proofs.YtapiehddcdnadaaGreatDoor
open Go.RowKit
set_option linter.unusedVariables false
set_option linter.unusedSimpArgs false

def inI (n l h : Int) : Bool := decide (l ≤ n) && decide (n ≤ h)
theorem in_call (n l h : Int) (w : World) : Calls Tryz.prog 43 #[.int .i64 n, .int .i64 l, .int .i64 h] w fun e w' => e = .returned (.bool (inI n l h)) ∧ w = w' := by
  have HR : Hid (inI n l h = (decide (l ≤ n) && decide (n ≤ h))) := Lib.hid rfl
  generalize inI n l h = R at *
  by_cases h1 : l ≤ n
  · by_cases h2 : n ≤ h
    · go_enter Tryz.func43, Tryz.ntmps43
      go_wp2_with fail
      go_ret
      exact ⟨ret_bool (by rw [HR.out]; simp [h1, h2]), rfl⟩
    · go_enter Tryz.func43, Tryz.ntmps43
      go_wp2_with fail
      go_ret
      exact ⟨ret_bool (by rw [HR.out]; simp [h1, h2]; try omega), rfl⟩
  · go_enter Tryz.func43, Tryz.ntmps43
    go_wp2_with fail
    go_ret
    exact ⟨ret_bool (by rw [HR.out]; simp [h1]; try omega), rfl⟩
set_option maxRecDepth 100000 in
set_option maxHeartbeats 1000000 in
theorem numbers_call (p : PolN) (a : Option Addr) (n c : Nat) (w : World) : Calls Tryz.prog 44 #[polV p a n c] w fun e w' => e = .returned (.slice (some ⟨w.heap.size + 1, 0, none⟩) 10 10) ∧ Blk w' (w.heap.size + 1) 2 (p.list.map (Value.int .i64)).toArray ∧ Below w.heap.size w w' := by
  unfold polV
  go_enter Tryz.func44, Tryz.ntmps44
  go_wp2_with fail
  go_ret
  exact ⟨rfl, Blk.newAt (by simp), balloc (balloc (Below.refl _ _) _) _⟩
def tierR (xs : List Int) (k : Nat) : Bool := inI (xs.getD k 0) 1 1000000000 && (decide (k = 0) || (decide (xs.getD (k - 1) 0 < xs.getD k 0) && decide ((xs.getD k 0).tmod (xs.getD (k - 1) 0) = 0)))
theorem tierR_eq (xs : List Int) (k : Nat) : tierR xs k = tierOk xs k := by
  unfold tierR tierOk inI
  rfl
def numsR (p : PolN) : Bool := inI p.slots 1 256 && inI p.high 0 1000000 && inI p.low 0 p.high && inI p.top 1 16 && inI p.sketch 4 10 && inI p.fine 0 4 && inI p.idle 1 100 && inI p.window 1 1000000000 && inI p.late 0 1000000000 && inI p.future 0 1000000000
theorem numsR_eq (p : PolN) : (List.range 10).all (numOk p) = numsR p := by
  have e : List.range 10 = [0, 1, 2, 3, 4, 5, 6, 7, 8, 9] := rfl
  rw [e]
  unfold numsR inI
  simp only [List.all_cons, List.all_nil, Bool.and_true, numOk, leastL, mostL, PolN.list, List.getD_eq_getElem?_getD, List.getElem?_cons_zero, List.getElem?_cons_succ, Option.getD_some]
  rw [Bool.eq_iff_iff]
  simp only [Bool.and_eq_true, decide_eq_true_eq]
  omega
theorem in_quiet {n l h : Int} {b : Bool} {w : World} {k : Nat} (hb : inI n l h = b) : Calls Tryz.prog 43 #[.int .i64 n, .int .i64 l, .int .i64 h] (w.drewN k) fun e w'' => e = .returned (.bool b) ∧ ∃ m, w'' = w.drewN m :=
  Calls.quiet_of_same ((in_call n l h _).mono (fun e w' h => ⟨by rw [← hb]; exact h.1, h.2.symm⟩))
set_option maxRecDepth 100000 in
set_option maxHeartbeats 8000000 in
theorem rightR_call (p : PolN) (a : Option Addr) (n c : Nat) (xs : List Int) (w : World) (hx : Ints .i64 w a n xs) (hn : n ≤ 9223372036854775807) : Calls Tryz.prog 14 #[polV p a n c] w fun e w' => e = .returned (.bool (rightP p xs)) ∧ Below w.heap.size w w' := by
  have hlen := hx.len
  have HR : Hid (rightP p xs = (numsR p && (List.range n).all (tierOk xs) && decide (1 ≤ n) && decide (n ≤ 3))) := Lib.hid (by unfold rightP; rw [hlen, numsR_eq])
  have HNM := Lib.hid (fun W => numbers_call p a n c W)
  generalize rightP p xs = R at *
  unfold polV at *
  go_enter Tryz.func14, Tryz.ntmps14
  go_wp2_with fail
  have B0 := Blk.new w 38 #[.int .i64 p.slots, .int .i64 p.low, .int .i64 p.high, .int .i64 p.top, .int .i64 p.sketch, .int .i64 p.fine, .int .i64 p.idle, .int .i64 p.window, .int .i64 p.late, .int .i64 p.future, .slice a n c]
  have b0 := balloc (Below.refl w.heap.size w) (.cells #[.int .i64 p.slots, .int .i64 p.low, .int .i64 p.high, .int .i64 p.top, .int .i64 p.sketch, .int .i64 p.fine, .int .i64 p.idle, .int .i64 p.window, .int .i64 p.late, .int .i64 p.future, .slice a n c] 38)
  generalize (w.alloc (.cells #[.int .i64 p.slots, .int .i64 p.low, .int .i64 p.high, .int .i64 p.top, .int .i64 p.sketch, .int .i64 p.fine, .int .i64 p.idle, .int .i64 p.window, .int .i64 p.late, .int .i64 p.future, .slice a n c] 38)) = w1 at *
  go_loopw [3] (fun i wr => ∃ k : Nat, k ≤ n ∧ i = .int .i64 k ∧ Blk wr w.heap.size 38 #[.int .i64 p.slots, .int .i64 p.low, .int .i64 p.high, .int .i64 p.top, .int .i64 p.sketch, .int .i64 p.fine, .int .i64 p.idle, .int .i64 p.window, .int .i64 p.late, .int .i64 p.future, .slice a n c] ∧ Below w.heap.size w wr ∧ Hid (∀ j, j < k → tierOk xs j = true)) (fun i _ => n - (intOf i).toNat)
  case atStart => exact ⟨0, Nat.zero_le _, rfl, B0, b0, Lib.hid (fun j h => by omega)⟩
  case round =>
    clear B0 b0
    obtain ⟨k, hk, rfl, B, b, hok⟩ := hrel
    have k10 : _ = some (Value.slice a n c) := B.cellAt 10 rfl
    have kl := B.lt
    by_cases hlt : k < n
    · have h1 : (k : Int) < n := by omega
      have hx1 := hx.step b
      obtain ⟨bb, off, rfl, hbl, hcell⟩ := hx1.at_ (by omega)
      have x0 := hcell k hlt
      have hT : Hid (tierOk xs k = tierR xs k) := Lib.hid (tierR_eq xs k).symm
      have hfalse : Hid (tierOk xs k = false → R = false) := Lib.hid (fun h => by
        rw [HR.out, all_range_false hlt h, Bool.and_false]; rfl)
      have hnext : Hid (tierOk xs k = true → ∀ j, j < k + 1 → tierOk xs j = true) := Lib.hid (fun h j hj => by
        rcases Nat.lt_or_ge j k with h2 | h2
        · exact hok.out j h2
        · obtain rfl : j = k := by omega
          exact h)
      have HI := Lib.hid (fun x W => in_call x 1 1000000000 W)
      have HB := Lib.hid (And.intro B b)
      by_cases hin : inI (xs.getD k 0) 1 1000000000 = true
      · by_cases hk0 : k = 0
        · have hf : Hid (tierOk xs k = true) := Lib.hid (by rw [hT.out]; unfold tierR; rw [hin, decide_eq_true hk0]; rfl)
          have hn2 := Lib.hid (hnext.out hf.out)
          have hk0' : decide (0 < k) = false := decide_eq_false (by omega)
          clear hk0 hcell hok hnext hfalse hT hf B b
          generalize xs.getD k 0 = x at *
          have HI2 : Hid (∀ W, Calls Tryz.prog 43 #[.int .i64 x, .int .i64 1, .int .i64 1000000000] W fun e w' => e = .returned (.bool true) ∧ W = w') := Lib.hid (fun W => by rw [← hin]; exact in_call x 1 1000000000 W)
          clear hin HI
          go_upto_region 4 with fail
          go_quiet ((go_at_call 43; exact Calls.quiet_of_same ((HI2.out _).mono (fun e w' h => ⟨h.1, h.2.symm⟩))))
          go_wp2_with fail
          exact ⟨⟨k + 1, by omega, by go_num, HB.out.1.drewN nq, bdrewN HB.out.2 nq, hn2⟩, by simp [intOf]; omega⟩
        · obtain ⟨pk, hp⟩ : ∃ pk, k = pk + 1 := ⟨k - 1, by omega⟩
          have y0 := hcell pk (by omega)
          have hyp := tier_pos (hok.out pk (by omega))
          have hp1 : k - 1 = pk := by omega
          have hT2 : Hid (tierR xs k = (decide (xs.getD pk 0 < xs.getD k 0) && decide ((xs.getD k 0).tmod (xs.getD pk 0) = 0))) := Lib.hid (by unfold tierR; rw [hin, hp1, decide_eq_false hk0]; rfl)
          have hxp : 1 ≤ xs.getD k 0 := by
            unfold inI at hin
            simp only [Bool.and_eq_true, decide_eq_true_eq] at hin
            exact hin.1
          have HI2 : Hid (∀ W, Calls Tryz.prog 43 #[.int .i64 (xs.getD k 0), .int .i64 1, .int .i64 1000000000] W fun e w' => e = .returned (.bool true) ∧ W = w') := Lib.hid (fun W => by rw [← hin]; exact in_call _ 1 1000000000 W)
          generalize xs.getD k 0 = x at *
          generalize xs.getD pk 0 = y at *
          have g4 : (0 : Int) < k := by omega
          have g4' : decide (0 < k) = true := decide_eq_true (by omega)
          have g9 : (k : Int) - 1 = (pk : Int) := by omega
          have g7 : IntKind.i64.wrap (pk : Int) = (pk : Int) := by rw [IntKind.wrap_i64]; omega
          have g8 : (pk : Int) < n := by omega
          have HP := Lib.hid hp
          clear hp hp1 hk0 hcell hok hin HI B b
          by_cases hle : x ≤ y
          · have hf : Hid (R = false) := Lib.hid (hfalse.out (by rw [hT.out, hT2.out, decide_eq_false (by omega)]; rfl))
            clear hfalse hnext hT hT2
            go_upto_region 4 with fail
            go_quiet ((go_at_call 43; exact Calls.quiet_of_same ((HI2.out _).mono (fun e w' h => ⟨h.1, h.2.symm⟩))))
            go_wp2_with fail
            go_ret
            exact ⟨ret_bool hf.out.symm, bdrewN HB.out.2 nq⟩
          · have hmod : x.tmod y = x % y := Int.tmod_eq_emod_of_nonneg (by omega)
            have hdl : decide (y < x) = true := decide_eq_true (by omega)
            have hHT2 : Hid (tierOk xs k = decide (x % y = 0)) := Lib.hid (by rw [hT.out, hT2.out, hdl, hmod]; rfl)
            obtain ⟨r, hr⟩ : ∃ r, x % y = r := ⟨_, rfl⟩
            rw [hr] at hmod hHT2
            have hy0 : ¬ y = 0 := by omega
            by_cases hr0 : r = 0
            · have hn2 := Lib.hid (hnext.out (by rw [hHT2.out, hr0]; rfl))
              have hr1 : (r != 0) = false := by simp [hr0]
              clear hfalse hnext hT hT2 hHT2 hr0
              go_upto_region 4 with fail
              go_quiet ((go_at_call 43; exact Calls.quiet_of_same ((HI2.out _).mono (fun e w' h => ⟨h.1, h.2.symm⟩))))
              go_wp2_with fail
              exact ⟨⟨k + 1, by omega, by go_num, HB.out.1.drewN nq, bdrewN HB.out.2 nq, hn2⟩, by simp [intOf]; omega⟩
            · have hf : Hid (R = false) := Lib.hid (hfalse.out (by rw [hHT2.out]; simp [hr0]))
              have hr1 : (r != 0) = true := by simp [hr0]
              clear hfalse hnext hT hT2 hHT2
              go_upto_region 4 with fail
              go_quiet ((go_at_call 43; exact Calls.quiet_of_same ((HI2.out _).mono (fun e w' h => ⟨h.1, h.2.symm⟩))))
              go_wp2_with fail
              go_ret
              exact ⟨ret_bool hf.out.symm, bdrewN HB.out.2 nq⟩
      · have hin2 : inI (xs.getD k 0) 1 1000000000 = false := by simpa using hin
        have hf : Hid (R = false) := Lib.hid (hfalse.out (by rw [hT.out]; unfold tierR; rw [hin2]; rfl))
        clear hin hcell hok hnext hfalse hT B b
        generalize xs.getD k 0 = x at *
        have HI2 : Hid (∀ W, Calls Tryz.prog 43 #[.int .i64 x, .int .i64 1, .int .i64 1000000000] W fun e w' => e = .returned (.bool false) ∧ W = w') := Lib.hid (fun W => by rw [← hin2]; exact in_call x 1 1000000000 W)
        clear hin2 HI
        go_upto_region 4 with fail
        go_quiet ((go_at_call 43; exact Calls.quiet_of_same ((HI2.out _).mono (fun e w' h => ⟨h.1, h.2.symm⟩))))
        go_wp2_with fail
        go_ret
        exact ⟨ret_bool hf.out.symm, bdrewN HB.out.2 nq⟩
    · obtain rfl : k = n := by omega
      have hall : Hid ((List.range k).all (tierOk xs) = true) := Lib.hid (all_range_true hok.out)
      have hd1 : ¬ (k : Int) < k := by omega
      have C0 := B.cell
      clear hok
      go_wp2_with fail
      refine (HNM.out wr).mono ?_
      rintro e w5 ⟨rfl, B5, b5⟩
      have hL : Hid (R = (numsR p && (decide (1 ≤ k) && decide (k ≤ 3)))) := Lib.hid (by rw [HR.out, hall.out]; cases numsR p <;> simp)
      have B6 := Blk.step b5 B
      have k10' : _ = some (Value.slice a k c) := B6.cellAt 10 rfl
      have kl' := B6.lt
      clear C0 k10 kl
      have b9 := bstep b5 b
      obtain ⟨gN, hgN⟩ : ∃ gN, wr.heap.size + 1 = gN := ⟨_, rfl⟩
      rw [hgN] at B5 ⊢
      have N0 : _ = some (Value.int .i64 p.slots) := B5.cellAt 0 rfl
      have N1 : _ = some (Value.int .i64 p.low) := B5.cellAt 1 rfl
      have N2 : _ = some (Value.int .i64 p.high) := B5.cellAt 2 rfl
      have N3 : _ = some (Value.int .i64 p.top) := B5.cellAt 3 rfl
      have N4 : _ = some (Value.int .i64 p.sketch) := B5.cellAt 4 rfl
      have N5 : _ = some (Value.int .i64 p.fine) := B5.cellAt 5 rfl
      have N6 : _ = some (Value.int .i64 p.idle) := B5.cellAt 6 rfl
      have N7 : _ = some (Value.int .i64 p.window) := B5.cellAt 7 rfl
      have N8 : _ = some (Value.int .i64 p.late) := B5.cellAt 8 rfl
      have N9 : _ = some (Value.int .i64 p.future) := B5.cellAt 9 rfl
      have NL := B5.lt
      clear hgN B5 B6 b5 B b hx HNM
      go_upto_region 7 with fail
      dsimp only [List.append]
      refine wp_region_quiet_lit (by kernel_rfl) (by kernel_rfl) ?_
      rcases (show k = 0 ∨ 3 < k ∨ (1 ≤ k ∧ k ≤ 3) by omega) with h0 | h0 | ⟨h0, h3⟩
      · have h1 : ¬ (1 : Int) ≤ k := by omega
        have h2 : decide (1 ≤ k) = false := decide_eq_false (by omega)
        have h2b : decide (0 < k) = false := decide_eq_false (by omega)
        have h2c : decide ((1 : Int) ≤ k) = false := decide_eq_false (by omega)
        have hRR : Hid (R = false) := Lib.hid (by rw [hL.out, h2]; simp)
        clear h0 hL HR
        repeat (go_big_quiet_step (fail))
        refine wpQuiet_nil ?_
        intro _ hw'
        obtain ⟨nq, hw''⟩ := hw'
        subst hw''
        go_wp2_with fail
        go_ret
        exact ⟨ret_bool (by rw [hRR.out]; try simp), bdrewN b9 nq⟩
      · have h1 : (1 : Int) ≤ k := by omega
        have h1' : 1 ≤ k := by omega
        have h2 : ¬ (k : Int) ≤ 3 := by omega
        have h2' : decide (k ≤ 3) = false := decide_eq_false (by omega)
        have h2c : decide ((k : Int) ≤ 3) = false := decide_eq_false (by omega)
        have hRR : Hid (R = false) := Lib.hid (by rw [hL.out, h2']; simp)
        clear h0 hL HR
        repeat (go_big_quiet_step (fail))
        refine wpQuiet_nil ?_
        intro _ hw'
        obtain ⟨nq, hw''⟩ := hw'
        subst hw''
        go_wp2_with fail
        go_ret
        exact ⟨ret_bool (by rw [hRR.out]; try simp), bdrewN b9 nq⟩
      · have h1 : (1 : Int) ≤ k := by omega
        have h2 : (k : Int) ≤ 3 := by omega
        have h1c : decide ((1 : Int) ≤ k) = true := decide_eq_true (by omega)
        have h2c : decide ((k : Int) ≤ 3) = true := decide_eq_true (by omega)
        have hRR : Hid (R = numsR p) := Lib.hid (by rw [hL.out, decide_eq_true h0, decide_eq_true h3]; simp)
        unfold numsR at hRR
        clear hL HR
        repeat (go_big_quiet_step ((go_at_call 43; exact in_quiet rfl)))
        cases hv0 : inI p.slots 1 256
        · rw [hv0] at hRR
          repeat (go_big_quiet_step (fail))
          refine wpQuiet_nil ?_
          intro _ hw'
          obtain ⟨nq, hw''⟩ := hw'
          subst hw''
          go_wp2_with fail
          go_ret
          exact ⟨ret_bool (by rw [hRR.out]; try simp), bdrewN b9 nq⟩
        rw [hv0] at hRR
        repeat (go_big_quiet_step ((go_at_call 43; exact in_quiet rfl)))
        cases hv1 : inI p.high 0 1000000
        · rw [hv1] at hRR
          repeat (go_big_quiet_step (fail))
          refine wpQuiet_nil ?_
          intro _ hw'
          obtain ⟨nq, hw''⟩ := hw'
          subst hw''
          go_wp2_with fail
          go_ret
          exact ⟨ret_bool (by rw [hRR.out]; try simp), bdrewN b9 nq⟩
        rw [hv1] at hRR
        repeat (go_big_quiet_step ((go_at_call 43; exact in_quiet rfl)))
        cases hv2 : inI p.low 0 p.high
        · rw [hv2] at hRR
          repeat (go_big_quiet_step (fail))
          refine wpQuiet_nil ?_
          intro _ hw'
          obtain ⟨nq, hw''⟩ := hw'
          subst hw''
          go_wp2_with fail
          go_ret
          exact ⟨ret_bool (by rw [hRR.out]; try simp), bdrewN b9 nq⟩
        rw [hv2] at hRR
        repeat (go_big_quiet_step ((go_at_call 43; exact in_quiet rfl)))
        cases hv3 : inI p.top 1 16
        · rw [hv3] at hRR
          repeat (go_big_quiet_step (fail))
          refine wpQuiet_nil ?_
          intro _ hw'
          obtain ⟨nq, hw''⟩ := hw'
          subst hw''
          go_wp2_with fail
          go_ret
          exact ⟨ret_bool (by rw [hRR.out]; try simp), bdrewN b9 nq⟩
        rw [hv3] at hRR
        repeat (go_big_quiet_step ((go_at_call 43; exact in_quiet rfl)))
        cases hv4 : inI p.sketch 4 10
        · rw [hv4] at hRR
          repeat (go_big_quiet_step (fail))
          refine wpQuiet_nil ?_
          intro _ hw'
          obtain ⟨nq, hw''⟩ := hw'
          subst hw''
          go_wp2_with fail
          go_ret
          exact ⟨ret_bool (by rw [hRR.out]; try simp), bdrewN b9 nq⟩
        rw [hv4] at hRR
        repeat (go_big_quiet_step ((go_at_call 43; exact in_quiet rfl)))
        cases hv5 : inI p.fine 0 4
        · rw [hv5] at hRR
          repeat (go_big_quiet_step (fail))
          refine wpQuiet_nil ?_
          intro _ hw'
          obtain ⟨nq, hw''⟩ := hw'
          subst hw''
          go_wp2_with fail
          go_ret
          exact ⟨ret_bool (by rw [hRR.out]; try simp), bdrewN b9 nq⟩
        rw [hv5] at hRR
        repeat (go_big_quiet_step ((go_at_call 43; exact in_quiet rfl)))
        cases hv6 : inI p.idle 1 100
        · rw [hv6] at hRR
          repeat (go_big_quiet_step (fail))
          refine wpQuiet_nil ?_
          intro _ hw'
          obtain ⟨nq, hw''⟩ := hw'
          subst hw''
          go_wp2_with fail
          go_ret
          exact ⟨ret_bool (by rw [hRR.out]; try simp), bdrewN b9 nq⟩
        rw [hv6] at hRR
        repeat (go_big_quiet_step ((go_at_call 43; exact in_quiet rfl)))
        cases hv7 : inI p.window 1 1000000000
        · rw [hv7] at hRR
          repeat (go_big_quiet_step (fail))
          refine wpQuiet_nil ?_
          intro _ hw'
          obtain ⟨nq, hw''⟩ := hw'
          subst hw''
          go_wp2_with fail
          go_ret
          exact ⟨ret_bool (by rw [hRR.out]; try simp), bdrewN b9 nq⟩
        rw [hv7] at hRR
        repeat (go_big_quiet_step ((go_at_call 43; exact in_quiet rfl)))
        cases hv8 : inI p.late 0 1000000000
        · rw [hv8] at hRR
          repeat (go_big_quiet_step (fail))
          refine wpQuiet_nil ?_
          intro _ hw'
          obtain ⟨nq, hw''⟩ := hw'
          subst hw''
          go_wp2_with fail
          go_ret
          exact ⟨ret_bool (by rw [hRR.out]; try simp), bdrewN b9 nq⟩
        rw [hv8] at hRR
        repeat (go_big_quiet_step ((go_at_call 43; exact in_quiet rfl)))
        cases hv9 : inI p.future 0 1000000000
        · rw [hv9] at hRR
          repeat (go_big_quiet_step (fail))
          refine wpQuiet_nil ?_
          intro _ hw'
          obtain ⟨nq, hw''⟩ := hw'
          subst hw''
          go_wp2_with fail
          go_ret
          exact ⟨ret_bool (by rw [hRR.out]; try simp), bdrewN b9 nq⟩
        rw [hv9] at hRR
        repeat (go_big_quiet_step (fail))
        refine wpQuiet_nil ?_
        intro _ hw'
        obtain ⟨nq, hw''⟩ := hw'
        subst hw''
        go_wp2_with fail
        go_ret
        exact ⟨ret_bool (by rw [hRR.out]; try simp), bdrewN b9 nq⟩
end Go.Proofs.YtapiehddcdnadaaGreatDoor

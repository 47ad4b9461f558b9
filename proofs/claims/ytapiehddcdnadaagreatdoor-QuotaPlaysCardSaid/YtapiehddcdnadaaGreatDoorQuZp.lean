/- Of a state: the document's. -/
import Derived.Test.YtapiehddcdnadaaGreatDoorQuZo
import Derived.Test.YtapiehddcdnadaaGreatDoorQuZk
import Derived.BigQuiet
namespace Go.Proofs.YtapiehddcdnadaaGreatDoor
open Go.RowKit
set_option linter.unusedVariables false
set_option linter.unusedSimpArgs false

/-- Bits of the document's sketch only draws. -/
theorem rbits_draws (g h b : Nat) (r : List Int) (w : World) (R : Rf w g h b r) :
    Calls Tryz.prog 13 #[.pointer (some ⟨g, 0, none⟩)] w fun e w' => e = .returned (.int .i64 b) ∧ ∃ m, w' = w.drewN m := by
  have c0 := R.cell0
  have hg := R.lt
  have hlo := R.lo
  have hhi := R.hi
  have hm : 2 ^ b ≤ 1024 := by have := Nat.pow_le_pow_right (n := 2) (by omega) hhi; simpa using this
  have HP := Lib.hid (fun (k : Nat) (hk : k < b) => Nat.pow_lt_pow_right (a := 2) (by omega) hk)
  obtain ⟨m, hm0⟩ : ∃ m, 2 ^ b = m := ⟨_, rfl⟩
  rw [hm0] at hm HP c0
  have HM := Lib.hid hm0
  clear hm0
  go_enter Tryz.func13, Tryz.ntmps13
  go_wp2_with fail
  go_loopw [3] (fun i wr => ∃ k : Nat, k ≤ b ∧ i = .int .i64 k ∧ Hid (∃ m, wr = w.drewN m)) (fun i _ => b - (intOf i).toNat)
  case atStart => exact ⟨0, Nat.zero_le _, rfl, Lib.hid ⟨0, (World.drewN_zero w).symm⟩⟩
  case round =>
    obtain ⟨k, hk, rfl, hB⟩ := hrel
    have c1 : wr.cell? ⟨g, 0, none⟩ = some (.slice (some ⟨h, 0, none⟩) m m) := by obtain ⟨m, rfl⟩ := hB.out; exact c0
    have hgr : g < wr.heap.size := by obtain ⟨m, rfl⟩ := hB.out; exact hg.1
    have hsk := shlk k (by omega)
    have hsk2 := shlkw k (by omega)
    by_cases hkb : k < b
    · have hp := HP.out k hkb
      obtain ⟨p, hp0⟩ : ∃ p, 2 ^ k = p := ⟨_, rfl⟩
      rw [hp0] at hp hsk hsk2
      clear hp0
      have hp2 : (p : Int) < (m : Int) := by omega
      go_wp2_with fail
      go_quiet (fail)
      go_wp2_with fail
      go_roundw
      case rel => exact ⟨k + 1, by omega, by go_num, Lib.hid (more_draws hB.out _)⟩
      case measure => simp [intOf]; omega
    · obtain rfl : k = b := by omega
      rw [HM.out] at hsk hsk2
      have hp2 : ¬ (m : Int) < (m : Int) := by omega
      go_wp2_with fail
      go_quiet (fail)
      go_wp2_with fail
      go_ret
      exact ⟨rfl, more_draws hB.out _⟩
theorem rbits_quiet {g h b : Nat} {r : List Int} {w : World} {n : Nat} (R : Hid (Rf w g h b r)) : Calls Tryz.prog 13 #[.pointer (some ⟨g, 0, none⟩)] (w.drewN n) fun e w'' => e = .returned (.int .i64 b) ∧ ∃ m, w'' = w.drewN m := Calls.quiet_of (rbits_draws g h b r _ (R.out.drewN n))
theorem rof_uni (s : ByteArray) (w : World) (hs : s.size ≤ 9223372036854775807) : Calls Tryz.prog 51 #[.string s] w fun e w' => ∃ v : Option Addr, e = .returned (.pointer v) ∧ Below w.heap.size w w' ∧ ((v = none ∧ ¬ OkS s) ∨ ∃ g y b, v = some ⟨g, 0, none⟩ ∧ OkS s ∧ s.size = 2 ^ b ∧ w.heap.size ≤ y ∧ Rf w' g y b (bI s)) := by
  refine (ROf_any s w hs).mono ?_
  rintro e w' ⟨hb, ⟨hok, g, y, b, rfl, hg, hy, R⟩ | ⟨hno, rfl⟩⟩
  · exact ⟨_, rfl, hb, .inr ⟨g, y, b, rfl, hok, by rw [← bI_len, R.len], hy, R⟩⟩
  · exact ⟨_, rfl, hb, .inl ⟨rfl, hno⟩⟩
theorem rtop_uni (W : World) (room seen : Nat) (A : Option Addr) (n c : Nat) (l : List It) (w : World) (hW : Below W.heap.size W w) (hrm : 1 ≤ room ∧ room ≤ 16) (R : ItRow w A n l) (hnc : n ≤ c) (hn : n ≤ 4398046511103) (hs : seen < 18446744073709551616) (hbd : Bd l) :
    Calls Tryz.prog 52 #[.int .i64 room, .int .u64 seen, .slice A n c] w fun e w' => ∃ (v : Option Addr) (k : Int), e = .returned (.tuple #[.pointer v, .int .i64 k]) ∧ Below w.heap.size w w' ∧ (k = 0 ∨ k = 2) ∧ (k = 0 ↔ RightP room seen l) ∧ (k = 0 → v = some ⟨w.heap.size, 0, none⟩ ∧ RM W W.heap.size w.heap.size room seen l w') := by
  refine (rof_call W.heap.size room seen A n c l w hW.size hrm R hnc hn hs hbd).mono ?_
  rintro e w' ⟨⟨hR, A', n', c', rfl, T⟩ | ⟨hno, rfl⟩, hb⟩
  · exact ⟨_, 0, rfl, hb, .inl rfl, ⟨fun _ => hR, fun _ => rfl⟩, fun _ => ⟨rfl, A', n', c', T, ⟨hR.sum, right_nodup hR, hR.len, hR.sn⟩, hW.trans (hb.mono hW.size), Nat.le_refl _⟩⟩
  · exact ⟨_, 2, rfl, hb, .inr rfl, ⟨fun h => (by omega), fun h => absurd h hno⟩, fun h => (by omega)⟩
/-- Five cells are set. -/
theorem rq_set5 {W w0 w : World} {g gn0 gb0 gt0 yn0 yb0 bn bb gn gb gt yn yb : Nat} {q q' : QS} (h : Rw W w0 g gn0 gb0 gt0 yn0 yb0 bn bb q w) (e2 : q'.low = q.low) (e3 : q'.high = q.high) (N : Rf w gn yn q'.b q'.rn) (B : Rf w gb yb q'.b q'.rb) (T : RM W W.heap.size gt q'.room q'.seen q'.l w)
    (y0 : W.heap.size ≤ yn) (y1 : W.heap.size ≤ yb) (x0 : 0 ≤ q'.win ∧ q'.win ≤ 9223372036854775807) (l0 : 0 ≤ q'.low) :
    Rw W w0 g gn gb gt yn yb q'.b q'.b q' (((((w.setCell ⟨g, 0, none⟩ (.int .i64 q'.win)).setCell ⟨g, 3, none⟩ (.bool q'.closed)).setCell ⟨g, 1, none⟩ (.pointer (some ⟨gn, 0, none⟩))).setCell ⟨g, 2, none⟩ (.pointer (some ⟨gb, 0, none⟩))).setCell ⟨g, 6, none⟩ (.pointer (some ⟨gt, 0, none⟩))) := by
  have hG : w.grownBy (((((w.setCell ⟨g, 0, none⟩ (.int .i64 q'.win)).setCell ⟨g, 3, none⟩ (.bool q'.closed)).setCell ⟨g, 1, none⟩ (.pointer (some ⟨gn, 0, none⟩))).setCell ⟨g, 2, none⟩ (.pointer (some ⟨gb, 0, none⟩))).setCell ⟨g, 6, none⟩ (.pointer (some ⟨gt, 0, none⟩))) (some g) := by
    refine only_setCell ?_ (.inl rfl) _
    refine only_setCell ?_ (.inl rfl) _
    refine only_setCell ?_ (.inl rfl) _
    refine only_setCell ?_ (.inl rfl) _
    refine only_setCell ?_ (.inl rfl) _
    exact only_refl _ _
  have hb := ((((h.blk.put 0 (.int .i64 q'.win)).put 3 (.bool q'.closed)).put 1 (.pointer (some ⟨gn, 0, none⟩))).put 2 (.pointer (some ⟨gb, 0, none⟩))).put 6 (.pointer (some ⟨gt, 0, none⟩))
  have hc : ((((((quCells q gn0 gb0 gt0).setIfInBounds 0 (.int .i64 q'.win)).setIfInBounds 3 (.bool q'.closed)).setIfInBounds 1 (.pointer (some ⟨gn, 0, none⟩))).setIfInBounds 2 (.pointer (some ⟨gb, 0, none⟩))).setIfInBounds 6 (.pointer (some ⟨gt, 0, none⟩))) = quCells q' gn gb gt := by
    unfold quCells
    rw [e2, e3]
    rfl
  rw [hc] at hb
  have k1 := N.blk.ne_ h.blk (by decide)
  have k2 := N.row.ne_ h.blk (by decide)
  have k3 := B.blk.ne_ h.blk (by decide)
  have k4 := B.row.ne_ h.blk (by decide)
  exact ⟨hb, N.grown hG (by intro e; injection e with e; exact k1 e) (by intro e; injection e with e; exact k2 e), B.grown hG (by intro e; injection e with e; exact k3 e) (by intro e; injection e with e; exact k4 e), T.grown h.blk (by decide) (by decide) h.g0 hG, h.g0, y0, y1, x0, l0, h.far.grown h.blk (.inl rfl) hG⟩
set_option maxRecDepth 100000 in
set_option maxHeartbeats 1000000 in
theorem rof_bad (p : PolN) (a : Option Addr) (n c : Nat) (xs : List Int) (win : Int) (closed : Bool) (s1 s2 : ByteArray) (seen : Int) (A : Option Addr) (m d : Nat) (w : World) (hx : Ints .i64 w a n xs) (hn : n ≤ 9223372036854775807) (hr : rightP p xs = false) :
    Calls Tryz.prog 17 #[polV p a n c, stV win closed s1 s2 seen A m d] w fun e w' => e = .returned (.tuple #[.pointer none, .int .i64 1]) ∧ Below w.heap.size w w' := by
  have HX := Lib.hid (fun o o' => (hx.step (balloc (Below.refl _ w) o)).step (balloc (Below.refl _ _) o'))
  have HN := Lib.hid (fun wd W hW => rqnew_no p a n c xs wd W hW hn (.inl hr))
  unfold polV at *
  unfold stV
  clear hx hr
  go_enter Tryz.func17, Tryz.ntmps17
  go_wp2_with fail
  all_goals
    refine (HN.out _ _ (HX.out _ _)).mono ?_
    rintro e w1 ⟨rfl, b1⟩
    go_wp2_with fail
    (first | go_ret2 | skip)
    exact ⟨rfl, bstep b1 (balloc (balloc (Below.refl _ _) _) _)⟩

/-- What the document's Of answers where the policy is right. -/
def ROfQPost (W : World) (p : PolN) (win : Int) (closed : Bool) (s1 s2 : ByteArray) (seen : Nat) (l : List It) (w : World) (e : Ending) (w' : World) : Prop := Below w.heap.size w w' ∧ ((OkQ p win s1 s2 seen l ∧ ∃ g, e = .returned (.tuple #[.pointer (some ⟨g, 0, none⟩), .int .i64 0]) ∧ RZ W w' g (ofQ p win closed s1 s2 seen l) w') ∨ (¬ OkQ p win s1 s2 seen l ∧ e = .returned (.tuple #[.pointer none, .int .i64 2])))
set_option maxRecDepth 100000 in
set_option maxHeartbeats 8000000 in
theorem rof_q (W : World) (p : PolN) (a : Option Addr) (n c : Nat) (xs : List Int) (win : Int) (closed : Bool) (s1 s2 : ByteArray) (seen : Nat) (A : Option Addr) (m d : Nat) (l : List It) (w : World) (hW : Below W.heap.size W w) (hx : Ints .i64 w a n xs) (hn : n ≤ 9223372036854775807) (hr : rightP p xs = true)
    (hwin : win ≤ 9223372036854775807) (h1 : s1.size ≤ 9223372036854775807) (h2 : s2.size ≤ 9223372036854775807) (hs : seen < 18446744073709551616) (R : ItRow w A m l) (hmd : m ≤ d) (hm : m ≤ 4398046511103) (hbd : Bd l) :
    Calls Tryz.prog 17 #[polV p a n c, stV win closed s1 s2 seen A m d] w (ROfQPost W p win closed s1 s2 seen l w) := by
  have ok := right_ok hr
  have HN := Lib.hid (fun W' W hW hX => rqnew_yes W' p a n c xs 0 W hW hX hn hr (by omega) (by omega))
  obtain ⟨slots, low, high, top, sketch, fine, idle, wd, late, future⟩ := p
  obtain ⟨o1, o2, o3, o4⟩ := ok
  simp only at o1 o2 o3 o4
  obtain ⟨b, rfl⟩ : ∃ b : Nat, sketch = b := ⟨sketch.toNat, by omega⟩
  obtain ⟨rm, rfl⟩ : ∃ b : Nat, top = b := ⟨top.toNat, by omega⟩
  have HNQ : Hid (∀ wn, newQ ⟨slots, low, high, (rm : Int), (b : Int), fine, idle, wd, late, future⟩ wn = ⟨wn, false, min low high, high, b, zerosN b, zerosN b, rm, 0, []⟩) := Lib.hid (fun _ => rfl)
  have HOQ : Hid (OkQ ⟨slots, low, high, (rm : Int), (b : Int), fine, idle, wd, late, future⟩ win s1 s2 seen l ↔ (0 ≤ win ∧ OkB s1 b ∧ OkB s2 b ∧ RightP rm seen l)) := Lib.hid ⟨fun h => ⟨h.win, h.now, h.bef, h.top⟩, fun h => ⟨h.1, h.2.1, h.2.2.1, h.2.2.2⟩⟩
  have HP : Hid (∀ e w', ROfQPost W ⟨slots, low, high, (rm : Int), (b : Int), fine, idle, wd, late, future⟩ win closed s1 s2 seen l w e w' ↔ (Below w.heap.size w w' ∧ ((OkQ ⟨slots, low, high, (rm : Int), (b : Int), fine, idle, wd, late, future⟩ win s1 s2 seen l ∧ ∃ g, e = .returned (.tuple #[.pointer (some ⟨g, 0, none⟩), .int .i64 0]) ∧ RZ W w' g ⟨win, closed, min low high, high, b, bI s1, bI s2, rm, seen, l⟩ w') ∨ (¬ OkQ ⟨slots, low, high, (rm : Int), (b : Int), fine, idle, wd, late, future⟩ win s1 s2 seen l ∧ e = .returned (.tuple #[.pointer none, .int .i64 2]))))) := Lib.hid (fun _ _ => Iff.rfl)
  generalize ROfQPost W ⟨slots, low, high, (rm : Int), (b : Int), fine, idle, wd, late, future⟩ win closed s1 s2 seen l w = PP at *
  generalize OkQ ⟨slots, low, high, (rm : Int), (b : Int), fine, idle, wd, late, future⟩ win s1 s2 seen l = OKQ at *
  have HX := Lib.hid (fun o o' => (hx.step (balloc (Below.refl _ w) o)).step (balloc (Below.refl _ _) o'))
  have HW := Lib.hid hW
  have HR := Lib.hid R
  have HBD := Lib.hid hbd
  unfold polV at *
  unfold stV
  clear hx hr hW R hbd
  go_enter Tryz.func17, Tryz.ntmps17
  go_wp2_with fail
  have B1 := (Blk.new w 38 #[.int .i64 slots, .int .i64 low, .int .i64 high, .int .i64 rm, .int .i64 b, .int .i64 fine, .int .i64 idle, .int .i64 wd, .int .i64 late, .int .i64 future, .slice a n c]).alloc (.cells #[.int .i64 win, .bool closed, .string s1, .string s2, .int .u64 seen, .slice A m d] 64)
  have B2 := Blk.newAt (w := w.alloc (.cells #[.int .i64 slots, .int .i64 low, .int .i64 high, .int .i64 rm, .int .i64 b, .int .i64 fine, .int .i64 idle, .int .i64 wd, .int .i64 late, .int .i64 future, .slice a n c] 38)) (g := w.heap.size + 1) (t := 64) (cs := #[.int .i64 win, .bool closed, .string s1, .string s2, .int .u64 seen, .slice A m d]) (by simp)
  have bb := balloc (balloc (Below.refl w.heap.size w) (.cells #[.int .i64 slots, .int .i64 low, .int .i64 high, .int .i64 rm, .int .i64 b, .int .i64 fine, .int .i64 idle, .int .i64 wd, .int .i64 late, .int .i64 future, .slice a n c] 38)) (.cells #[.int .i64 win, .bool closed, .string s1, .string s2, .int .u64 seen, .slice A m d] 64)
  refine (HN.out W _ (HW.out.trans (bb.mono HW.out.size)) (HX.out _ _)).mono ?_
  rintro e w1 ⟨g, rfl, ⟨gn0, gb0, gt0, yn0, yb0, Q1, _⟩, b1, hgw⟩
  have HGW : Hid (w.heap.size ≤ g) := Lib.hid (Nat.le_trans bb.size hgw)
  have b01 := Lib.hid (bstep b1 bb)
  have P1 := Lib.hid (Blk.step b1 B1)
  have S1 := Lib.hid (Blk.step b1 B2)
  rw [HNQ.out] at Q1
  have HQ1 := Lib.hid Q1
  clear B1 B2 bb b1 Q1 HX HN HNQ hgw
  have k2 : _ = some (Value.string s1) := S1.out.cellAt 2 rfl
  have kl := S1.out.lt
  go_wp2_with fail
  refine (rof_uni s1 w1 h1).mono ?_
  rintro e w2 ⟨v1, rfl, b2, j1⟩
  have b02 := Lib.hid (bstep b2 b01.out)
  have P2 := Lib.hid (Blk.step b2 P1.out)
  have S2 := Lib.hid (Blk.step b2 S1.out)
  have HQ2 := Lib.hid (HQ1.out.step b2)
  have hJ1 : Hid ((v1 = none ∧ ¬ OkS s1) ∨ ∃ g y b, v1 = some ⟨g, 0, none⟩ ∧ OkS s1 ∧ s1.size = 2 ^ b ∧ w.heap.size ≤ y ∧ y < w2.heap.size ∧ Rf w2 g y b (bI s1)) := Lib.hid (by
    rcases j1 with h | ⟨g, y, b, x1, x2, x3, x4, x5⟩
    · exact .inl h
    · exact .inr ⟨g, y, b, x1, x2, x3, by have := b01.out.size; omega, x5.lt.2, x5⟩)
  clear b2 b01 P1 S1 HQ1 k2 kl j1
  have k3 : _ = some (Value.string s2) := S2.out.cellAt 3 rfl
  have kl := S2.out.lt
  go_wp2_with fail
  refine (rof_uni s2 w2 h2).mono ?_
  rintro e w3 ⟨v2, rfl, b3, j2⟩
  have b03 := Lib.hid (bstep b3 b02.out)
  have P3 := Lib.hid (Blk.step b3 P2.out)
  have S3 := Lib.hid (Blk.step b3 S2.out)
  have HQ3 := Lib.hid (HQ2.out.step b3)
  have hJ2 : Hid ((v2 = none ∧ ¬ OkS s2) ∨ ∃ g y b, v2 = some ⟨g, 0, none⟩ ∧ OkS s2 ∧ s2.size = 2 ^ b ∧ w2.heap.size ≤ y ∧ Rf w3 g y b (bI s2)) := Lib.hid j2
  have hJ1' : Hid ((v1 = none ∧ ¬ OkS s1) ∨ ∃ g y b, v1 = some ⟨g, 0, none⟩ ∧ OkS s1 ∧ s1.size = 2 ^ b ∧ w.heap.size ≤ y ∧ y < w2.heap.size ∧ Rf w3 g y b (bI s1)) := Lib.hid (by
    rcases hJ1.out with h | ⟨g, y, b, x1, x2, x3, x4, x6, x5⟩
    · exact .inl h
    · exact .inr ⟨g, y, b, x1, x2, x3, x4, x6, Rf.step b3 x5⟩)
  have hs23 := Lib.hid b3.size
  have hw2 := Lib.hid b02.out.size
  clear b3 P2 S2 HQ2 k3 kl j2 hJ1
  have k3 : _ = some (Value.int .i64 rm) := P3.out.cellAt 3 rfl
  have k4 : _ = some (Value.int .u64 seen) := S3.out.cellAt 4 rfl
  have k5 : _ = some (Value.slice A m d) := S3.out.cellAt 5 rfl
  have kl := P3.out.lt
  have kl2 := S3.out.lt
  go_wp2_with fail
  refine (rtop_uni W rm seen A m d l w3 (HW.out.trans (b03.out.mono HW.out.size)) (by omega) (HR.out.step b03.out) hmd hm hs HBD.out).mono ?_
  rintro e w4 ⟨v3, f3, rfl, b4, c3, i3, j3⟩
  have b04 := Lib.hid (bstep b4 b03.out)
  have P4 := Lib.hid (Blk.step b4 P3.out)
  have S4 := Lib.hid (Blk.step b4 S3.out)
  have HQ4 := Lib.hid (HQ3.out.step b4)
  have hI3 := Lib.hid i3
  have hJ3 := Lib.hid j3
  have HB4 := Lib.hid b4
  clear b4 P3 S3 HQ3 k3 k4 k5 kl kl2 i3 j3
  have k0 : _ = some (Value.int .i64 win) := S4.out.cellAt 0 rfl
  have kl := S4.out.lt
  have p4 : _ = some (Value.int .i64 b) := P4.out.cellAt 4 rfl
  have pl := P4.out.lt
  rcases (show win < 0 ∨ 0 ≤ win by omega) with hw0 | hw0
  · have hno : Hid (¬ OKQ) := Lib.hid (fun h => by have := (HOQ.out.1 h).1; omega)
    have hw1 : decide (win < 0) = true := decide_eq_true hw0
    go_upto_region 7 with fail
    go_quiet (fail)
    go_wp2_with fail
    (first | go_ret2 | skip)
    exact (HP.out _ _).2 ⟨bdrewN b04.out nq, .inr ⟨hno.out, rfl⟩⟩
  have hw0' : ¬ win < 0 := by omega
  have hw1 : decide (win < 0) = false := decide_eq_false hw0'
  rcases hJ1'.out with ⟨rfl, hn1⟩ | ⟨g1, z1, b1, rfl, hk1, hz1, x1, x2, X1⟩
  · have hno : Hid (¬ OKQ) := Lib.hid (fun h => hn1 (HOQ.out.1 h).2.1.1)
    clear hn1
    go_upto_region 7 with fail
    go_quiet (fail)
    go_wp2_with fail
    (first | go_ret2 | skip)
    exact (HP.out _ _).2 ⟨bdrewN b04.out nq, .inr ⟨hno.out, rfl⟩⟩
  rcases hJ2.out with ⟨rfl, hn2⟩ | ⟨g2, z2, b2, rfl, hk2, hz2, y1, Y1⟩
  · have hno : Hid (¬ OKQ) := Lib.hid (fun h => hn2 (HOQ.out.1 h).2.2.1.1)
    have HZ := Lib.hid hz1
    have HK := Lib.hid hk1
    have HX := Lib.hid X1
    clear hn2 hz1 hk1 X1
    go_upto_region 7 with fail
    go_quiet (fail)
    go_wp2_with fail
    (first | go_ret2 | skip)
    exact (HP.out _ _).2 ⟨bdrewN b04.out nq, .inr ⟨hno.out, rfl⟩⟩
  have HZ1 := Lib.hid hz1
  have HK1 := Lib.hid hk1
  have HX1 := Lib.hid (Rf.step HB4.out X1)
  have HZ2 := Lib.hid hz2
  have HK2 := Lib.hid hk2
  have HY1 := Lib.hid (Rf.step HB4.out Y1)
  clear hz1 hk1 X1 hz2 hk2 Y1
  have hx0 := Lib.hid x1
  have hx2 := Lib.hid x2
  have hy0 := Lib.hid y1
  clear x1 x2 y1
  rcases c3 with rfl | rfl
  rotate_left
  · have hno : Hid (¬ OKQ) := Lib.hid (fun h => by have := hI3.out.2 (HOQ.out.1 h).2.2.2; omega)
    go_upto_region 7 with fail
    go_quiet (fail)
    go_wp2_with fail
    (first | go_ret2 | skip)
    exact (HP.out _ _).2 ⟨bdrewN b04.out nq, .inr ⟨hno.out, rfl⟩⟩
  by_cases hb1 : b1 = b
  rotate_left
  · have hno : Hid (¬ OKQ) := Lib.hid (fun h => hb1 (pow_eq (HZ1.out.symm.trans (HOQ.out.1 h).2.1.2)))
    have hne : ((b1 : Int) != (b : Int)) = true := by rw [bne_iff_ne]; omega
    clear hb1
    go_upto_region 7 with fail
    go_quiet ((go_at_call 13; exact rbits_quiet (by assumption)))
    go_wp2_with fail
    (first | go_ret2 | skip)
    exact (HP.out _ _).2 ⟨bdrewN b04.out nq, .inr ⟨hno.out, rfl⟩⟩
  subst hb1
  have hne1 : ((b1 : Int) != (b1 : Int)) = false := by simp
  by_cases hb2 : b2 = b1
  rotate_left
  · have hno : Hid (¬ OKQ) := Lib.hid (fun h => hb2 (pow_eq (HZ2.out.symm.trans (HOQ.out.1 h).2.2.1.2)))
    have hne : ((b2 : Int) != (b1 : Int)) = true := by rw [bne_iff_ne]; omega
    clear hb2
    go_upto_region 7 with fail
    go_quiet ((go_at_call 13; exact rbits_quiet (by assumption)))
    go_wp2_with fail
    (first | go_ret2 | skip)
    exact (HP.out _ _).2 ⟨bdrewN b04.out nq, .inr ⟨hno.out, rfl⟩⟩
  subst hb2
  have hyes : Hid OKQ := Lib.hid (HOQ.out.2 ⟨hw0, ⟨HK1.out, HZ1.out⟩, ⟨HK2.out, HZ2.out⟩, hI3.out.1 rfl⟩)
  obtain ⟨rfl, T4⟩ := hJ3.out rfl
  have HT4 := Lib.hid T4
  clear T4
  go_upto_region 7 with fail
  go_quiet ((go_at_call 13; exact rbits_quiet (by assumption)))
  have bn := bdrewN (Below.refl w4.heap.size w4) nq
  have hs1 := HW.out.size
  have hs2 := b03.out.size
  have hQ := rq_set5 (q' := ⟨win, closed, min low high, high, b2, bI s1, bI s2, rm, seen, l⟩) (HQ4.out.step bn).at0 rfl rfl (Rf.step bn HX1.out) (Rf.step bn HY1.out) (HT4.out.step bn) (by have := hx0.out; omega) (by have := hy0.out; have := hw2.out; omega) ⟨hw0, hwin⟩ HQ4.out.low0
  have hzz : Hid (z1 ≠ z2) := Lib.hid (by have := hx2.out; have := hy0.out; omega)
  have HF := Lib.hid hQ.at0
  have b05 := Lib.hid (bdrewN b04.out nq)
  have bfin := Lib.hid (bset (bset (bset (bset (bset b05.out (p := ⟨g, 0, none⟩) HGW.out (.int .i64 win)) (p := ⟨g, 3, none⟩) HGW.out (.bool closed)) (p := ⟨g, 1, none⟩) HGW.out (.pointer (some ⟨g1, 0, none⟩))) (p := ⟨g, 2, none⟩) HGW.out (.pointer (some ⟨g2, 0, none⟩))) (p := ⟨g, 6, none⟩) HGW.out (.pointer (some ⟨w3.heap.size, 0, none⟩)))
  have HQ5 := Lib.hid (HQ4.out.step bn)
  have S5 := Lib.hid (Blk.step bn S4.out)
  clear k0 kl p4 pl bn hQ hs1 hs2
  generalize w4.drewN nq = w5 at *
  have k0 : _ = some (Value.int .i64 win) := S5.out.cellAt 0 rfl
  have kl := S5.out.lt
  have q0 := HQ5.out.c0
  have q1 := HQ5.out.c1
  have q2 := HQ5.out.c2
  have q3 := HQ5.out.c3
  have q6 := HQ5.out.c6
  have ql := HQ5.out.blk.lt
  have qf := HQ5.out.blk.frozen
  have hgs : Hid (w.heap.size + 1 ≠ g) := Lib.hid (S5.out.ne_ HQ5.out.blk (by decide))
  have S6 := S5.out.far (p := ⟨g, 0, none⟩) hgs.out (.int .i64 win)
  have k1 : _ = some (Value.bool closed) := S6.cellAt 1 rfl
  clear S6
  go_wp2_with fail
  (first | go_ret2 | skip)
  exact (HP.out _ _).2 ⟨bfin.out, .inl ⟨hyes.out, g, rfl, _, _, _, _, _, HF.out, hzz.out⟩⟩
end Go.Proofs.YtapiehddcdnadaaGreatDoor

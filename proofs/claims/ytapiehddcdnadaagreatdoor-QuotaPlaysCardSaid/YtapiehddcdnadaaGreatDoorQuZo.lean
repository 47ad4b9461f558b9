/- Of a state: the program's. -/
import Derived.Test.YtapiehddcdnadaaGreatDoorM15
import Derived.Test.YtapiehddcdnadaaGreatDoorM14
import Derived.Test.YtapiehddcdnadaaGreatDoorM12
import Derived.Test.YtapiehddcdnadaaGreatDoorM16
import Derived.Test.YtapiehddcdnadaaGreatDoorM5
import Derived.BigQuiet
namespace Go.Proofs.YtapiehddcdnadaaGreatDoor
open Go.RowKit
set_option linter.unusedVariables false
set_option linter.unusedSimpArgs false

theorem pow_eq {a b : Nat} (h : 2 ^ a = 2 ^ b) : a = b := by
  rcases Nat.lt_trichotomy a b with h2 | h2 | h2
  · have := Nat.pow_lt_pow_right (a := 2) (by omega) h2; omega
  · exact h2
  · have := Nat.pow_lt_pow_right (a := 2) (by omega) h2; omega
/-- Registers of the policy's bits. -/
def OkB (s : ByteArray) (sk : Nat) : Prop := OkS s ∧ s.size = 2 ^ sk
set_option maxHeartbeats 1000000 in
theorem sketch_call (s : ByteArray) (pb : Nat) (sk : Nat) (w : World) (hs : s.size ≤ 9223372036854775807) (hc : w.cell? ⟨pb, 4, none⟩ = some (.int .i64 sk)) (hl : pb < w.heap.size) :
    Calls Tryz.prog 45 #[.string s, .pointer (some ⟨pb, 0, none⟩)] w fun e w' => Below w.heap.size w w' ∧ ((OkB s sk ∧ ∃ g, e = .returned (.tuple #[.pointer (some ⟨g, 0, none⟩), .bool true]) ∧ w.heap.size ≤ g ∧ Sk w' g sk (bI s)) ∨ (¬ OkB s sk ∧ ∃ v : Option Addr, e = .returned (.tuple #[.pointer v, .bool false]))) := by
  go_enter Tryz.func45, Tryz.ntmps45
  go_wp2_with fail
  refine (Of_any s w hs).mono ?_
  rintro e w1 ⟨b1, ⟨hok, g, b, rfl, hg, S⟩ | ⟨hno, rfl⟩⟩
  · have hsz : s.size = 2 ^ b := by rw [← bI_len, S.len]
    have c1 := (b1.cell (p := ⟨pb, 4, none⟩) hl).trans hc
    have hl1 : pb < w1.heap.size := Nat.lt_of_lt_of_le hl b1.size
    have HS := Lib.hid S
    have HO := Lib.hid hok
    have HZ := Lib.hid hsz
    clear S hok hsz hc hl
    have HBT : Hid (∀ n, Calls Tryz.prog 39 #[.pointer (some ⟨g, 0, none⟩)] (w1.drewN n) fun e w' => e = .returned (.int .i64 b) ∧ w1.drewN n = w') := Lib.hid (fun n => Bits_any g b _ _ (Sk.step (bdrewN (Below.refl _ _) n) HS.out))
    by_cases hb : b = sk
    · subst hb
      have hbe : ((b : Int) == (b : Int)) = true := by simp
      go_upto_region 2 with fail
      go_quiet ((go_at_call 39; exact Calls.quiet_of_same ((HBT.out _).mono (fun e w' h => ⟨h.1, h.2.symm⟩))))
      go_wp2_with fail
      go_ret2
      exact ⟨bdrewN b1 nq, .inl ⟨⟨HO.out, HZ.out⟩, g, rfl, hg, Sk.step (bdrewN (Below.refl _ _) nq) HS.out⟩⟩
    · have hbe : ((b : Int) == (sk : Int)) = false := by rw [beq_eq_false_iff_ne]; omega
      have hnb : Hid (¬ OkB s sk) := Lib.hid (fun h => hb (pow_eq (HZ.out.symm.trans h.2)))
      clear hb
      go_upto_region 2 with fail
      go_quiet ((go_at_call 39; exact Calls.quiet_of_same ((HBT.out _).mono (fun e w' h => ⟨h.1, h.2.symm⟩))))
      go_wp2_with fail
      go_ret2
      exact ⟨bdrewN b1 nq, .inr ⟨hnb.out, _, rfl⟩⟩
  · have hnb : Hid (¬ OkB s sk) := Lib.hid (fun h => hno h.1)
    clear hno
    go_upto_region 2 with fail
    go_quiet (fail)
    go_wp2_with fail
    go_ret2
    exact ⟨bdrewN b1 nq, .inr ⟨hnb.out, _, rfl⟩⟩

/-- The state is one of this policy's quotas. -/
structure OkQ (p : PolN) (win : Int) (s1 s2 : ByteArray) (seen : Nat) (l : List It) : Prop where
  win : 0 ≤ win
  now : OkB s1 p.sketch.toNat
  bef : OkB s2 p.sketch.toNat
  top : RightP p.top.toNat seen l
def ofQ (p : PolN) (win : Int) (closed : Bool) (s1 s2 : ByteArray) (seen : Nat) (l : List It) : QS := ⟨win, closed, min p.low p.high, p.high, p.sketch.toNat, bI s1, bI s2, p.top.toNat, seen, l⟩
/-- Four cells are set. -/
theorem qt_set4 {W w : World} {g gn0 gb0 gt0 gn gb gt : Nat} {q q' : QS} (hB : Blk w g 84 (quCells q gn0 gb0 gt0)) (e1 : q'.win = q.win) (e2 : q'.low = q.low) (e3 : q'.high = q.high) (N : Sk w gn q'.b q'.rn) (B : Sk w gb q'.b q'.rb) (ne : gn ≠ gb) (T : TM W W.heap.size gt q'.room q'.seen q'.l w) (hgt : g ≠ gt)
    (hg0 : W.heap.size ≤ g) (hgn0 : W.heap.size ≤ gn) (hgb0 : W.heap.size ≤ gb) (w0 : 0 ≤ q'.win ∧ q'.win ≤ 9223372036854775807) (l0 : 0 ≤ q'.low) :
    Qt W g gn gb gt q' ((((w.setCell ⟨g, 3, none⟩ (.bool q'.closed)).setCell ⟨g, 1, none⟩ (.pointer (some ⟨gn, 0, none⟩))).setCell ⟨g, 2, none⟩ (.pointer (some ⟨gb, 0, none⟩))).setCell ⟨g, 6, none⟩ (.pointer (some ⟨gt, 0, none⟩))) := by
  have hG : w.grownBy ((((w.setCell ⟨g, 3, none⟩ (.bool q'.closed)).setCell ⟨g, 1, none⟩ (.pointer (some ⟨gn, 0, none⟩))).setCell ⟨g, 2, none⟩ (.pointer (some ⟨gb, 0, none⟩))).setCell ⟨g, 6, none⟩ (.pointer (some ⟨gt, 0, none⟩))) (some g) := by
    refine only_setCell ?_ (.inl rfl) _
    refine only_setCell ?_ (.inl rfl) _
    refine only_setCell ?_ (.inl rfl) _
    refine only_setCell ?_ (.inl rfl) _
    exact only_refl _ _
  have hb := (((hB.put 3 (.bool q'.closed)).put 1 (.pointer (some ⟨gn, 0, none⟩))).put 2 (.pointer (some ⟨gb, 0, none⟩))).put 6 (.pointer (some ⟨gt, 0, none⟩))
  have hc : (((((quCells q gn0 gb0 gt0).setIfInBounds 3 (.bool q'.closed)).setIfInBounds 1 (.pointer (some ⟨gn, 0, none⟩))).setIfInBounds 2 (.pointer (some ⟨gb, 0, none⟩))).setIfInBounds 6 (.pointer (some ⟨gt, 0, none⟩))) = quCells q' gn gb gt := by
    unfold quCells
    rw [e1, e2, e3]
    rfl
  rw [hc] at hb
  have k1 := N.blk.ne_ hB (by decide)
  have k3 := B.blk.ne_ hB (by decide)
  exact ⟨hb, N.grown hG (by intro e; injection e with e; exact k1 e), B.grown hG (by intro e; injection e with e; exact k3 e), ne, T.grown hB hgt (by decide) hg0 hG, hg0, hgn0, hgb0, w0, l0⟩

set_option maxRecDepth 100000 in
set_option maxHeartbeats 1000000 in
theorem of_bad (p : PolN) (a : Option Addr) (n c : Nat) (xs : List Int) (win : Int) (closed : Bool) (s1 s2 : ByteArray) (seen : Int) (A : Option Addr) (m d : Nat) (w : World) (hx : Ints .i64 w a n xs) (hn : n ≤ 9223372036854775807) (hr : rightP p xs = false) :
    Calls Tryz.prog 15 #[polV p a n c, stV win closed s1 s2 seen A m d] w fun e w' => e = .returned (.tuple #[.pointer none, .int .i64 1]) ∧ Below w.heap.size w w' := by
  have HX := Lib.hid (fun o o' => (hx.step (balloc (Below.refl _ w) o)).step (balloc (Below.refl _ _) o'))
  have HN := Lib.hid (fun wd W hW => new_no_call p a n c xs wd W hW hn (.inl hr))
  unfold polV at *
  unfold stV
  clear hx hr
  go_enter Tryz.func15, Tryz.ntmps15
  go_wp2_with fail
  all_goals
    refine (HN.out _ _ (HX.out _ _)).mono ?_
    rintro e w1 ⟨rfl, b1⟩
    go_wp2_with fail
    go_ret2
    exact ⟨rfl, bstep b1 (balloc (balloc (Below.refl _ _) _) _)⟩

/-- What Of answers where the policy is right. -/
def OfQPost (W : World) (p : PolN) (win : Int) (closed : Bool) (s1 s2 : ByteArray) (seen : Nat) (l : List It) (w : World) (e : Ending) (w' : World) : Prop := Below w.heap.size w w' ∧ ((OkQ p win s1 s2 seen l ∧ ∃ g, e = .returned (.tuple #[.pointer (some ⟨g, 0, none⟩), .int .i64 0]) ∧ QQ W g (ofQ p win closed s1 s2 seen l) w') ∨ (¬ OkQ p win s1 s2 seen l ∧ e = .returned (.tuple #[.pointer none, .int .i64 2])))
theorem sketch_uni (s : ByteArray) (pb : Nat) (sk : Nat) (w : World) (hs : s.size ≤ 9223372036854775807) (hc : w.cell? ⟨pb, 4, none⟩ = some (.int .i64 sk)) (hl : pb < w.heap.size) :
    Calls Tryz.prog 45 #[.string s, .pointer (some ⟨pb, 0, none⟩)] w fun e w' => ∃ (v : Option Addr) (k : Bool), e = .returned (.tuple #[.pointer v, .bool k]) ∧ Below w.heap.size w w' ∧ (k = true ↔ OkB s sk) ∧ (k = true → ∃ g, v = some ⟨g, 0, none⟩ ∧ w.heap.size ≤ g ∧ Sk w' g sk (bI s)) := by
  refine (sketch_call s pb sk w hs hc hl).mono ?_
  rintro e w' ⟨hb, ⟨hok, g, rfl, hg, S⟩ | ⟨hno, v, rfl⟩⟩
  · exact ⟨_, true, rfl, hb, ⟨fun _ => hok, fun _ => rfl⟩, fun _ => ⟨g, rfl, hg, S⟩⟩
  · exact ⟨_, false, rfl, hb, ⟨fun h => (by cases h), fun h => absurd h hno⟩, fun h => (by cases h)⟩
theorem of_uni (W : World) (room seen : Nat) (A : Option Addr) (n c : Nat) (l : List It) (w : World) (hW : Below W.heap.size W w) (hrm : 1 ≤ room ∧ room ≤ 16) (R : ItRow w A n l) (hnc : n ≤ c) (hn : n ≤ 4398046511103) (hs : seen < 18446744073709551616) (hbd : Bd l) :
    Calls Tryz.prog 47 #[.int .i64 room, .int .u64 seen, .slice A n c] w fun e w' => ∃ (v : Option Addr) (k : Int), e = .returned (.tuple #[.pointer v, .int .i64 k]) ∧ Below w.heap.size w w' ∧ (k = 0 ∨ k = 2) ∧ (k = 0 ↔ RightP room seen l) ∧ (k = 0 → v = some ⟨w.heap.size, 0, none⟩ ∧ TM W W.heap.size w.heap.size room seen l w') := by
  refine (of_call W.heap.size room seen A n c l w hW.size hrm R hnc hn hs hbd).mono ?_
  rintro e w' ⟨⟨hR, A', n', c', rfl, T, _⟩ | ⟨hno, rfl⟩, hb⟩
  · exact ⟨_, 0, rfl, hb, .inl rfl, ⟨fun _ => hR, fun _ => rfl⟩, fun _ => ⟨rfl, A', n', c', T, ⟨hR.sum, right_nodup hR, hR.len, hR.sn⟩, hW.trans (hb.mono hW.size), Nat.le_refl _⟩⟩
  · exact ⟨_, 2, rfl, hb, .inr rfl, ⟨fun h => (by omega), fun h => absurd h hno⟩, fun h => (by omega)⟩
set_option maxRecDepth 100000 in
set_option maxHeartbeats 4000000 in
theorem of_q (W : World) (p : PolN) (a : Option Addr) (n c : Nat) (xs : List Int) (win : Int) (closed : Bool) (s1 s2 : ByteArray) (seen : Nat) (A : Option Addr) (m d : Nat) (l : List It) (w : World) (hW : Below W.heap.size W w) (hx : Ints .i64 w a n xs) (hn : n ≤ 9223372036854775807) (hr : rightP p xs = true)
    (hwin : win ≤ 9223372036854775807) (h1 : s1.size ≤ 9223372036854775807) (h2 : s2.size ≤ 9223372036854775807) (hs : seen < 18446744073709551616) (R : ItRow w A m l) (hmd : m ≤ d) (hm : m ≤ 4398046511103) (hbd : Bd l) :
    Calls Tryz.prog 15 #[polV p a n c, stV win closed s1 s2 seen A m d] w (OfQPost W p win closed s1 s2 seen l w) := by
  have ok := right_ok hr
  have HN := Lib.hid (fun W' wd W hW hX h0 h1 => new_far W' p a n c xs wd W hW hX hn hr h0 h1)
  obtain ⟨slots, low, high, top, sketch, fine, idle, wd, late, future⟩ := p
  obtain ⟨o1, o2, o3, o4⟩ := ok
  simp only at o1 o2 o3 o4
  obtain ⟨b, rfl⟩ : ∃ b : Nat, sketch = b := ⟨sketch.toNat, by omega⟩
  obtain ⟨rm, rfl⟩ : ∃ b : Nat, top = b := ⟨top.toNat, by omega⟩
  have HNQ : Hid (∀ wn, newQ ⟨slots, low, high, (rm : Int), (b : Int), fine, idle, wd, late, future⟩ wn = ⟨wn, false, min low high, high, b, zerosN b, zerosN b, rm, 0, []⟩) := Lib.hid (fun _ => rfl)
  have HOQ : Hid (OkQ ⟨slots, low, high, (rm : Int), (b : Int), fine, idle, wd, late, future⟩ win s1 s2 seen l ↔ (0 ≤ win ∧ OkB s1 b ∧ OkB s2 b ∧ RightP rm seen l)) := Lib.hid ⟨fun h => ⟨h.win, h.now, h.bef, h.top⟩, fun h => ⟨h.1, h.2.1, h.2.2.1, h.2.2.2⟩⟩
  have HP : Hid (∀ e w', OfQPost W ⟨slots, low, high, (rm : Int), (b : Int), fine, idle, wd, late, future⟩ win closed s1 s2 seen l w e w' ↔ (Below w.heap.size w w' ∧ ((OkQ ⟨slots, low, high, (rm : Int), (b : Int), fine, idle, wd, late, future⟩ win s1 s2 seen l ∧ ∃ g, e = .returned (.tuple #[.pointer (some ⟨g, 0, none⟩), .int .i64 0]) ∧ QQ W g ⟨win, closed, min low high, high, b, bI s1, bI s2, rm, seen, l⟩ w') ∨ (¬ OkQ ⟨slots, low, high, (rm : Int), (b : Int), fine, idle, wd, late, future⟩ win s1 s2 seen l ∧ e = .returned (.tuple #[.pointer none, .int .i64 2]))))) := Lib.hid (fun _ _ => Iff.rfl)
  generalize OfQPost W ⟨slots, low, high, (rm : Int), (b : Int), fine, idle, wd, late, future⟩ win closed s1 s2 seen l w = PP at *
  generalize OkQ ⟨slots, low, high, (rm : Int), (b : Int), fine, idle, wd, late, future⟩ win s1 s2 seen l = OKQ at *
  have HX := Lib.hid (fun o o' => (hx.step (balloc (Below.refl _ w) o)).step (balloc (Below.refl _ _) o'))
  have HW := Lib.hid hW
  have HR := Lib.hid R
  have HBD := Lib.hid hbd
  unfold polV at *
  unfold stV
  clear hx hr hW R hbd
  go_enter Tryz.func15, Tryz.ntmps15
  go_wp2_with fail
  have B1 := (Blk.new w 24 #[.int .i64 slots, .int .i64 low, .int .i64 high, .int .i64 rm, .int .i64 b, .int .i64 fine, .int .i64 idle, .int .i64 wd, .int .i64 late, .int .i64 future, .slice a n c]).alloc (.cells #[.int .i64 win, .bool closed, .string s1, .string s2, .int .u64 seen, .slice A m d] 59)
  have B2 := Blk.newAt (w := w.alloc (.cells #[.int .i64 slots, .int .i64 low, .int .i64 high, .int .i64 rm, .int .i64 b, .int .i64 fine, .int .i64 idle, .int .i64 wd, .int .i64 late, .int .i64 future, .slice a n c] 24)) (g := w.heap.size + 1) (t := 59) (cs := #[.int .i64 win, .bool closed, .string s1, .string s2, .int .u64 seen, .slice A m d]) (by simp)
  have bb := balloc (balloc (Below.refl w.heap.size w) (.cells #[.int .i64 slots, .int .i64 low, .int .i64 high, .int .i64 rm, .int .i64 b, .int .i64 fine, .int .i64 idle, .int .i64 wd, .int .i64 late, .int .i64 future, .slice a n c] 24)) (.cells #[.int .i64 win, .bool closed, .string s1, .string s2, .int .u64 seen, .slice A m d] 59)
  refine (HN.out W (max win 0) _ (HW.out.trans (bb.mono HW.out.size)) (HX.out _ _) (by omega) (by omega)).mono ?_
  rintro e w1 ⟨g, gn0, gb0, gt0, rfl, Q1, b1, hgw⟩
  have HGW : Hid (w.heap.size ≤ g) := Lib.hid (Nat.le_trans bb.size hgw)
  clear hgw
  have b01 := Lib.hid (bstep b1 bb)
  have P1 := Lib.hid (Blk.step b1 B1)
  have S1 := Lib.hid (Blk.step b1 B2)
  rw [HNQ.out] at Q1
  have HQ1 := Lib.hid Q1
  clear B1 B2 bb b1 Q1 HX HN HNQ
  have k2 : _ = some (Value.string s1) := S1.out.cellAt 2 rfl
  have kl := S1.out.lt
  go_wp2_with fail
  refine (sketch_uni s1 w.heap.size b w1 h1 (P1.out.cellAt 4 rfl) P1.out.lt).mono ?_
  rintro e w2 ⟨v1, f1, rfl, b2, i1, j1⟩
  have b02 := Lib.hid (bstep b2 b01.out)
  have P2 := Lib.hid (Blk.step b2 P1.out)
  have S2 := Lib.hid (Blk.step b2 S1.out)
  have HQ2 := Lib.hid (HQ1.out.step b2)
  have hI1 := Lib.hid i1
  have hJ1 : Hid (f1 = true → ∃ g, v1 = some ⟨g, 0, none⟩ ∧ w.heap.size ≤ g ∧ g < w2.heap.size ∧ Sk w2 g b (bI s1)) := Lib.hid (fun h => by
    obtain ⟨g, h1, h2, h3⟩ := j1 h
    exact ⟨g, h1, by have := b01.out.size; omega, h3.lt, h3⟩)
  clear b2 b01 P1 S1 HQ1 k2 kl i1 j1
  have k3 : _ = some (Value.string s2) := S2.out.cellAt 3 rfl
  have kl := S2.out.lt
  go_wp2_with fail
  refine (sketch_uni s2 w.heap.size b w2 h2 (P2.out.cellAt 4 rfl) P2.out.lt).mono ?_
  rintro e w3 ⟨v2, f2, rfl, b3, i2, j2⟩
  have b03 := Lib.hid (bstep b3 b02.out)
  have P3 := Lib.hid (Blk.step b3 P2.out)
  have S3 := Lib.hid (Blk.step b3 S2.out)
  have HQ3 := Lib.hid (HQ2.out.step b3)
  have hI2 := Lib.hid i2
  have hJ2 : Hid (f2 = true → ∃ g, v2 = some ⟨g, 0, none⟩ ∧ w2.heap.size ≤ g ∧ Sk w3 g b (bI s2)) := Lib.hid j2
  have hJ1' : Hid (f1 = true → ∃ g, v1 = some ⟨g, 0, none⟩ ∧ w.heap.size ≤ g ∧ g < w2.heap.size ∧ Sk w3 g b (bI s1)) := Lib.hid (fun h => by
    obtain ⟨g, h1, h2, h4, h3⟩ := hJ1.out h
    exact ⟨g, h1, h2, h4, Sk.step b3 h3⟩)
  have hs23 := Lib.hid b3.size
  clear b3 P2 S2 HQ2 k3 kl i2 j2 hJ1
  have k3 : _ = some (Value.int .i64 rm) := P3.out.cellAt 3 rfl
  have k4 : _ = some (Value.int .u64 seen) := S3.out.cellAt 4 rfl
  have k5 : _ = some (Value.slice A m d) := S3.out.cellAt 5 rfl
  have kl := P3.out.lt
  have kl2 := S3.out.lt
  go_wp2_with fail
  refine (of_uni W rm seen A m d l w3 (HW.out.trans (b03.out.mono HW.out.size)) (by omega) (HR.out.step b03.out) hmd hm hs HBD.out).mono ?_
  rintro e w4 ⟨v3, f3, rfl, b4, c3, i3, j3⟩
  have b04 := Lib.hid (bstep b4 b03.out)
  have S4 := Lib.hid (Blk.step b4 S3.out)
  have HQ4 := Lib.hid (HQ3.out.step b4)
  have hI3 := Lib.hid i3
  have hJ3 := Lib.hid j3
  have hgt0 := Lib.hid HQ3.out.blk.lt
  have HB4 := Lib.hid b4
  clear b4 P3 S3 HQ3 k3 k4 k5 kl kl2 i3 j3
  have k0 : _ = some (Value.int .i64 win) := S4.out.cellAt 0 rfl
  have kl := S4.out.lt
  rcases (show win < 0 ∨ 0 ≤ win by omega) with hw0 | hw0
  · have hno : Hid (¬ OKQ) := Lib.hid (fun h => by have := (HOQ.out.1 h).1; omega)
    go_wp2_with fail
    (first | go_ret2 | skip)
    exact (HP.out _ _).2 ⟨b04.out, .inr ⟨hno.out, rfl⟩⟩
  have hw0' : ¬ win < 0 := by omega
  have hw1 : decide (win < 0) = false := decide_eq_false hw0'
  cases f1
  · have hno : Hid (¬ OKQ) := Lib.hid (fun h => by have := hI1.out.2 (HOQ.out.1 h).2.1; cases this)
    go_wp2_with fail
    (first | go_ret2 | skip)
    exact (HP.out _ _).2 ⟨b04.out, .inr ⟨hno.out, rfl⟩⟩
  cases f2
  · have hno : Hid (¬ OKQ) := Lib.hid (fun h => by have := hI2.out.2 (HOQ.out.1 h).2.2.1; cases this)
    go_wp2_with fail
    (first | go_ret2 | skip)
    exact (HP.out _ _).2 ⟨b04.out, .inr ⟨hno.out, rfl⟩⟩
  rcases c3 with rfl | rfl
  rotate_left
  · have hno : Hid (¬ OKQ) := Lib.hid (fun h => by have := hI3.out.2 (HOQ.out.1 h).2.2.2; omega)
    go_wp2_with fail
    (first | go_ret2 | skip)
    exact (HP.out _ _).2 ⟨b04.out, .inr ⟨hno.out, rfl⟩⟩
  have hyes : Hid OKQ := Lib.hid (HOQ.out.2 ⟨hw0, hI1.out.1 rfl, hI2.out.1 rfl, hI3.out.1 rfl⟩)
  obtain ⟨g1, rfl, x1, x2, X1⟩ := hJ1'.out rfl
  obtain ⟨g2, rfl, y1, Y1⟩ := hJ2.out rfl
  obtain ⟨rfl, T4⟩ := hJ3.out rfl
  have hs1 := HW.out.size
  have hs2 := b03.out.size
  have hQ := qt_set4 (q' := ⟨win, closed, min low high, high, b, bI s1, bI s2, rm, seen, l⟩) (gn := g1) (gb := g2) HQ4.out.blk (by simp only; omega) rfl rfl (Sk.step HB4.out X1) (Sk.step HB4.out Y1) (by omega) T4 (by have := hgt0.out; omega) HQ4.out.g0 (by omega) (by have := hs23.out; have := b04.out.size; omega) ⟨hw0, hwin⟩ HQ4.out.low0
  have hbfin := Lib.hid hQ.below
  have HF := Lib.hid hQ
  have bfin := Lib.hid (bset (bset (bset (bset b04.out (p := ⟨g, 3, none⟩) HGW.out (.bool closed)) (p := ⟨g, 1, none⟩) HGW.out (.pointer (some ⟨g1, 0, none⟩))) (p := ⟨g, 2, none⟩) HGW.out (.pointer (some ⟨g2, 0, none⟩))) (p := ⟨g, 6, none⟩) HGW.out (.pointer (some ⟨w3.heap.size, 0, none⟩)))
  have k1 : _ = some (Value.bool closed) := S4.out.cellAt 1 rfl
  have q1 := HQ4.out.c1
  have q2 := HQ4.out.c2
  have q3 := HQ4.out.c3
  have q6 := HQ4.out.c6
  have ql := HQ4.out.blk.lt
  have qf := HQ4.out.blk.frozen
  clear hQ T4 X1 Y1 x1 x2 y1 hs1 hs2
  go_wp2_with fail
  (first | go_ret2 | skip)
  exact (HP.out _ _).2 ⟨bfin.out, .inl ⟨hyes.out, g, rfl, _, _, _, HF.out⟩⟩
end Go.Proofs.YtapiehddcdnadaaGreatDoor

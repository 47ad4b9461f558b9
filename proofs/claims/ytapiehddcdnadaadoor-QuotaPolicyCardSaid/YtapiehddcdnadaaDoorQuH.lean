/- QuotaPolicy: the walk. -/
import Derived.Test.YtapiehddcdnadaaDoorQuG
namespace Go.Proofs.YtapiehddcdnadaaDoor
open Go.RowKit
set_option linter.unusedVariables false
set_option linter.unusedSimpArgs false

theorem policy_next {q : QS} {p : PolN} (R : Reg q) (hb : ¬ q.b = p.sketch.toNat) (ok : p.Ok) (win : Int) :
    manyQ (endQ (nextQ q win) p) = 0 ∧ (endQ (nextQ q win) p).seen = 0 ∧ (endQ (nextQ q win) p).l = [] ∧ (endQ (nextQ q win) p).win = win := by
  have e := endQ_ne (nextQ q win) p hb
  rw [e]
  refine ⟨?_, rfl, rfl, rfl⟩
  have := ok.sk
  exact many_none (q := { nextQ q win with low := min p.low p.high, high := p.high, b := p.sketch.toNat, rn := zerosN p.sketch.toNat, rb := zerosN p.sketch.toNat, room := p.top.toNat, seen := 0, l := [] }) (by
    show p.sketch.toNat = 4 ∨ p.sketch.toNat = 5 ∨ p.sketch.toNat = 6 ∨ p.sketch.toNat = 7 ∨ p.sketch.toNat = 8 ∨ p.sketch.toNat = 9 ∨ p.sketch.toNat = 10
    omega) rfl rfl
theorem next_many {q : QS} {p : PolN} (R : Reg q) (hb : q.b = p.sketch.toNat) (hrb : q.rb = zerosN q.b) (win : Int) : manyQ (endQ (nextQ q win) p) = manyQ q := by
  have hm := many_now R.nl R.n0 hrb
  have e := endQ_eq (nextQ q win) p hb
  rw [e, hm, many_bef (q := { nextQ q win with low := min p.low p.high, high := p.high, room := p.top.toNat, seen := 0, l := [] }) ⟨R.bc, zeros_len _, (fun j => by
      show 0 ≤ (zeros q.b).getD j 0
      rw [zeros_get]; exact Int.le_refl _), R.nl, R.n0⟩ rfl]
  rfl
theorem policy_lens {q : QS} {p : PolN} (R : Reg q) (win : Int) : (endQ (nextQ q win) p).rn.length = 2 ^ p.sketch.toNat ∧ (endQ (nextQ q win) p).rb.length = 2 ^ p.sketch.toNat := by
  by_cases hb : q.b = p.sketch.toNat
  · rw [endQ_eq (nextQ q win) p hb, ← hb]
    exact ⟨zeros_len _, R.nl⟩
  · rw [endQ_ne (nextQ q win) p hb]
    exact ⟨zeros_len _, zeros_len _⟩
theorem strOfNums_size (r : List Int) : (strOfNums r).size = r.length := by
  unfold strOfNums
  show (List.toArray _).size = _
  simp
theorem bad_policy (p : PolN) (xs : List Int) (h : p.slots = 0) : rightP p xs = false := by
  unfold rightP
  have h0 : numOk p 0 = false := by
    unfold numOk
    show (decide ((1 : Int) ≤ p.slots) && _) = false
    rw [h]
    rfl
  rw [all_range_false (k := 0) (by omega) h0]
  rfl

set_option maxRecDepth 100000 in
set_option maxHeartbeats 4000000 in
theorem policy_walk (p : PolN) (ta : Option Addr) (tn tc : Nat) (own : Bool) (a : Option Addr) (n c : Nat) (xs : List Int) (p2 : PolN) (ta2 : Option Addr) (tn2 tc2 : Nat) (own2 : Bool) (a1 : Option Addr) (n1 c1 : Nat) (xs1 : List Int) (a2 : Option Addr) (n2 c2 : Nat) (ys : List Int) (w : World) (hT : Tab w) (hx : Ints .u16 w a n xs) (hn : n ≤ 9223372036854775807) (hx1 : Ints .u16 w a1 n1 xs1) (hn1 : n1 ≤ 9223372036854775807) (hy : Ints .u8 w a2 n2 ys) (hlc2 : n2 ≤ c2) (hl2 : n2 ≤ 140737488351232) :
    Calls Tryd.prog 6 #[wishV p ta tn tc own a n c, wishV p2 ta2 tn2 tc2 own2 a1 n1 c1, .slice a2 n2 c2] w fun e w' => e = .returned (.bool true) ∧ Below w.heap.size w w' := by
  have HT := Lib.hid hT
  have HX := Lib.hid hx
  have HX1 := Lib.hid hx1
  have HY := Lib.hid hy
  have hbd := Lib.hid (nI_bd hx)
  have hbd1 := Lib.hid (nI_bd hx1)
  have HWO := Lib.hid (fun V hV => wish_own p ta tn tc a n c xs V hV hn)
  have HWO1 := Lib.hid (fun V hV => wish_own p2 ta2 tn2 tc2 a1 n1 c1 xs1 V hV hn1)
  clear hT hx hy hx1
  unfold wishV at *
  go_enter Tryd.func6, Tryd.ntmps6
  go_wp2_with fail
  refine (examples_q _ (HT.out.step (balloc (balloc (Below.refl _ _) _) _))).mono ?_
  rintro e w1 ⟨rfl, b1⟩
  have B0 := Blk.step b1 ((Blk.new w 27 #[.int .i64 p.slots, .int .i64 p.low, .int .i64 p.high, .int .i64 p.top, .int .i64 p.sketch, .int .i64 p.fine, .int .i64 p.idle, .int .i64 p.window, .int .i64 p.late, .int .i64 p.future, .slice ta tn tc, .bool own, .slice a n c]).alloc (.cells #[.int .i64 p2.slots, .int .i64 p2.low, .int .i64 p2.high, .int .i64 p2.top, .int .i64 p2.sketch, .int .i64 p2.fine, .int .i64 p2.idle, .int .i64 p2.window, .int .i64 p2.late, .int .i64 p2.future, .slice ta2 tn2 tc2, .bool own2, .slice a1 n1 c1] 27))
  have B1 := Blk.step b1 (Blk.newAt (w := w.alloc (.cells #[.int .i64 p.slots, .int .i64 p.low, .int .i64 p.high, .int .i64 p.top, .int .i64 p.sketch, .int .i64 p.fine, .int .i64 p.idle, .int .i64 p.window, .int .i64 p.late, .int .i64 p.future, .slice ta tn tc, .bool own, .slice a n c] 27)) (g := w.heap.size + 1) (t := 27) (cs := #[.int .i64 p2.slots, .int .i64 p2.low, .int .i64 p2.high, .int .i64 p2.top, .int .i64 p2.sketch, .int .i64 p2.fine, .int .i64 p2.idle, .int .i64 p2.window, .int .i64 p2.late, .int .i64 p2.future, .slice ta2 tn2 tc2, .bool own2, .slice a1 n1 c1]) (by simp))
  have hb1 := Lib.hid (bstep b1 (balloc (balloc (Below.refl w.heap.size w) _) _))
  have C0 := B0.cell
  have F0 := B0.frozen
  have L0 := B0.lt
  have C1 := B1.cell
  have F1 := B1.frozen
  have L1 := B1.lt
  have B0b := (B0.put 11 (.bool true)).far (p := ⟨w.heap.size + 1, 11, none⟩) (by simp) (.bool true)
  have B1b := (B1.far (p := ⟨w.heap.size, 11, none⟩) (by simp) (.bool true)).put 11 (.bool true)
  have hb2 := Lib.hid (bset (bset hb1.out (p := ⟨w.heap.size, 11, none⟩) (Nat.le_refl _) (.bool true)) (p := ⟨w.heap.size + 1, 11, none⟩) (by simp) (.bool true))
  clear b1 B0 B1
  go_upto_region 6 with fail
  clear C0 F0 L0 C1 F1 L1
  generalize ((w1.setCell ⟨w.heap.size, 11, none⟩ (.bool true)).setCell ⟨w.heap.size + 1, 11, none⟩ (.bool true)) = w2 at *
  have C0 := B0b.cell
  have L0 := B0b.lt
  go_wp2_with fail
  refine (HWO.out w2 (HX.out.step hb2.out)).mono ?_
  rintro e w3 ⟨A, c3, rfl, hI, b3⟩
  have HR := Lib.hid (wish_right xs hbd.out)
  have hb3 := Lib.hid (bstep b3 hb2.out)
  have B1c := Blk.step b3 B1b
  clear C0 L0 B0b B1b hb1 hb2 b3 hbd HWO HX
  obtain ⟨P, hP⟩ : ∃ P, P = wishP xs := ⟨_, rfl⟩
  obtain ⟨L, hL⟩ : ∃ L, L = wishT xs := ⟨_, rfl⟩
  rw [← hP, ← hL] at HR
  rw [← hL] at hI
  rw [← hP, ← hL]
  clear hP hL
  unfold polV
  have HI := Lib.hid hI
  have hok := Lib.hid (right_ok HR.out)
  clear hI
  have BP := Lib.hid (Blk.new w3 24 #[.int .i64 P.slots, .int .i64 P.low, .int .i64 P.high, .int .i64 P.top, .int .i64 P.sketch, .int .i64 P.fine, .int .i64 P.idle, .int .i64 P.window, .int .i64 P.late, .int .i64 P.future, .slice A L.length c3])
  have HI2 := Lib.hid (HI.out.step (balloc (Below.refl _ _) (.cells #[.int .i64 P.slots, .int .i64 P.low, .int .i64 P.high, .int .i64 P.top, .int .i64 P.sketch, .int .i64 P.fine, .int .i64 P.idle, .int .i64 P.window, .int .i64 P.late, .int .i64 P.future, .slice A L.length c3] 24)))
  have hb4 := Lib.hid (balloc hb3.out (.cells #[.int .i64 P.slots, .int .i64 P.low, .int .i64 P.high, .int .i64 P.top, .int .i64 P.sketch, .int .i64 P.fine, .int .i64 P.idle, .int .i64 P.window, .int .i64 P.late, .int .i64 P.future, .slice A L.length c3] 24))
  have B1d := B1c.alloc (.cells #[.int .i64 P.slots, .int .i64 P.low, .int .i64 P.high, .int .i64 P.top, .int .i64 P.sketch, .int .i64 P.fine, .int .i64 P.idle, .int .i64 P.window, .int .i64 P.late, .int .i64 P.future, .slice A L.length c3] 24)
  go_upto_region 7 with fail
  generalize (w3.alloc (.cells #[.int .i64 P.slots, .int .i64 P.low, .int .i64 P.high, .int .i64 P.top, .int .i64 P.sketch, .int .i64 P.fine, .int .i64 P.idle, .int .i64 P.window, .int .i64 P.late, .int .i64 P.future, .slice A L.length c3] 24)) = w4 at *
  generalize w3.heap.size = gp at *
  have C0 := B1d.cell
  have L0 := B1d.lt
  clear HI hb3 B1c
  go_wp2_with fail
  refine (HWO1.out w4 (HX1.out.step hb4.out)).mono ?_
  rintro e w5 ⟨B, c4, rfl, hI, b5⟩
  have HR1 := Lib.hid (wish_right xs1 hbd1.out)
  have hb5 := Lib.hid (bstep b5 hb4.out)
  have BP5 := Lib.hid (Blk.step b5 BP.out)
  have HI5 := Lib.hid (HI2.out.step b5)
  clear C0 L0 B1d b5 hbd1 HWO1 HX1 BP HI2 hb4
  obtain ⟨R, hP⟩ : ∃ P, P = wishP xs1 := ⟨_, rfl⟩
  obtain ⟨K, hL⟩ : ∃ L, L = wishT xs1 := ⟨_, rfl⟩
  rw [← hP, ← hL] at HR1
  rw [← hL] at hI
  rw [← hP, ← hL]
  clear hP hL
  unfold polV
  have HI := Lib.hid hI
  have hok1 := Lib.hid (right_ok HR1.out)
  clear hI
  have hsk := hok1.out.sk
  obtain ⟨r0, r1, r2, r3, r4, r5, r6, r7, r8, r9⟩ := R
  simp only at hsk ⊢
  obtain ⟨sk, rfl⟩ : ∃ sk : Nat, r4 = sk := ⟨r4.toNat, by omega⟩
  have BR := Lib.hid (Blk.new w5 24 #[.int .i64 r0, .int .i64 r1, .int .i64 r2, .int .i64 r3, .int .i64 sk, .int .i64 r5, .int .i64 r6, .int .i64 r7, .int .i64 r8, .int .i64 r9, .slice B K.length c4])
  have HIR := Lib.hid (HI.out.step (balloc (Below.refl _ _) (.cells #[.int .i64 r0, .int .i64 r1, .int .i64 r2, .int .i64 r3, .int .i64 sk, .int .i64 r5, .int .i64 r6, .int .i64 r7, .int .i64 r8, .int .i64 r9, .slice B K.length c4] 24)))
  have HIP := Lib.hid (HI5.out.step (balloc (Below.refl _ _) (.cells #[.int .i64 r0, .int .i64 r1, .int .i64 r2, .int .i64 r3, .int .i64 sk, .int .i64 r5, .int .i64 r6, .int .i64 r7, .int .i64 r8, .int .i64 r9, .slice B K.length c4] 24)))
  have BP6 := Lib.hid (BP5.out.alloc (.cells #[.int .i64 r0, .int .i64 r1, .int .i64 r2, .int .i64 r3, .int .i64 sk, .int .i64 r5, .int .i64 r6, .int .i64 r7, .int .i64 r8, .int .i64 r9, .slice B K.length c4] 24))
  have hb6 := Lib.hid (balloc hb5.out (.cells #[.int .i64 r0, .int .i64 r1, .int .i64 r2, .int .i64 r3, .int .i64 sk, .int .i64 r5, .int .i64 r6, .int .i64 r7, .int .i64 r8, .int .i64 r9, .slice B K.length c4] 24))
  go_upto_region 8 with fail
  generalize (w5.alloc (.cells #[.int .i64 r0, .int .i64 r1, .int .i64 r2, .int .i64 r3, .int .i64 sk, .int .i64 r5, .int .i64 r6, .int .i64 r7, .int .i64 r8, .int .i64 r9, .slice B K.length c4] 24)) = w6 at *
  generalize w5.heap.size = gr at *
  clear HI HI5 BP5 hb5
  have HT6 := Lib.hid (HT.out.step hb6.out)
  have hLn : Hid (L.length ≤ 9223372036854775806) := Lib.hid (by have h := HR.out; unfold rightP at h; simp only [Bool.and_eq_true, decide_eq_true_eq] at h; omega)
  have hKn : Hid (K.length ≤ 9223372036854775806) := Lib.hid (by have h := HR1.out; unfold rightP at h; simp only [Bool.and_eq_true, decide_eq_true_eq] at h; omega)
  have HXV : Hid (∀ V, Below w6.heap.size w6 V → Ints .i64 V A L.length L) := Lib.hid (fun V hV => HIP.out.step hV)
  have HXR : Hid (∀ V, Below w6.heap.size w6 V → Ints .i64 V B K.length K) := Lib.hid (fun V hV => HIR.out.step hV)
  have HPV : Hid (∀ V, Below w6.heap.size w6 V → Blk V gp 24 #[.int .i64 P.slots, .int .i64 P.low, .int .i64 P.high, .int .i64 P.top, .int .i64 P.sketch, .int .i64 P.fine, .int .i64 P.idle, .int .i64 P.window, .int .i64 P.late, .int .i64 P.future, .slice A L.length c3]) := Lib.hid (fun V hV => Blk.below hV BP6.out.lt BP6.out)
  have HPR : Hid (∀ V, Below w6.heap.size w6 V → Blk V gr 24 #[.int .i64 r0, .int .i64 r1, .int .i64 r2, .int .i64 r3, .int .i64 sk, .int .i64 r5, .int .i64 r6, .int .i64 r7, .int .i64 r8, .int .i64 r9, .slice B K.length c4]) := Lib.hid (fun V hV => Blk.below hV BR.out.lt BR.out)
  have HNEW : Hid (∀ V, Below w6.heap.size w6 V → Calls Tryd.prog 9 #[.agg #[.int .i64 P.slots, .int .i64 P.low, .int .i64 P.high, .int .i64 P.top, .int .i64 P.sketch, .int .i64 P.fine, .int .i64 P.idle, .int .i64 P.window, .int .i64 P.late, .int .i64 P.future, .slice A L.length c3], .int .i64 0] V fun e w' => ∃ g, e = .returned (.tuple #[.pointer (some ⟨g, 0, none⟩), .int .i64 0]) ∧ QQ w6 g (newQ P 0) w') := Lib.hid (fun V hV => new_call w6 P A L.length c3 L 0 V hV (HXV.out V hV) hLn.out HR.out (by omega) (by omega))
  obtain ⟨q0, hq0⟩ : ∃ q0, q0 = newQ P 0 := ⟨_, rfl⟩
  have HK := Lib.hid (newQ_keep hok.out 0)
  rw [← hq0] at HNEW HK
  clear hq0
  have CP := BP6.out.cell
  have LP := BP6.out.lt
  go_wp2_with fail
  refine (HNEW.out w6 (Below.refl _ _)).mono ?_
  rintro e w7 ⟨g, rfl, h5⟩
  clear CP LP HNEW
  go_wp2_with fail
  go_loopw [12] (fun i wr => ∃ (j : Nat) (q : QS), j ≤ n2 ∧ j ≤ 40 ∧ i = .int .i64 j ∧ QQ w6 g q wr ∧ Keep q0 q) (fun i _ => n2 - (intOf i).toNat)
  case atStart => exact ⟨0, q0, Nat.zero_le _, Nat.zero_le _, rfl, h5, Keep.refl _⟩
  case round =>
    clear h5
    obtain ⟨j, q, hjn, hj2, rfl, hQ, hK⟩ := hrel
    by_cases hc : j < n2 ∧ j < 40
    · have hyr := HY.out.step (hb6.out.trans (hQ.below.mono hb6.out.size))
      obtain ⟨b, off, rfl, hb, hcell⟩ := hyr.at_ (by omega)
      have cb := hcell j hc.1
      have c1 : (j : Int) < n2 := by omega
      have c2 : (j : Int) < 40 := by omega
      clear hcell hyr
      generalize ys.getD j 0 = v at *
      have hcv := fun W => conv_one W v
      have CA : Hid (∀ V, QQ w6 g q V → Calls Tryd.prog 11 #[.pointer (some ⟨g, 0, none⟩), .string (strOfNums [v]), .string ⟨#[109]⟩, .bool false, .bool true] V fun e w' => e = .returned (.int .i64 (admitE q (strOfNums [v]) false true)) ∧ QQ w6 g (admitQ q (strOfNums [v]) ⟨#[109]⟩ false true) w') := Lib.hid (fun V h => q_admit HT6.out (strOfNums [v]) ⟨#[109]⟩ false true (by rw [str1_size]; omega) (by decide) h)
      have hQ2 := hQ.step (balloc (Below.refl _ wr) (.cells #[.int .u8 v] 5))
      have hK2 := hK.admit (strOfNums [v]) ⟨#[109]⟩ false true
      clear hQ hK hc
      go_wp2_with fail
      refine (CA.out _ hQ2).mono ?_
      rintro e w6 ⟨rfl, h6⟩
      go_wp2_with fail
      exact ⟨⟨j + 1, _, by omega, by omega, by go_num, h6, hK2⟩, by simp [intOf]; omega⟩
    · have hend : (¬ (j : Int) < n2) ∨ ((j : Int) < n2 ∧ ¬ (j : Int) < 40) := by omega
      clear hc
      obtain ⟨k1, k2, k3, k4, k5, k6⟩ := HK.out
      have hqb : q.b = P.sketch.toNat := by rw [hK.b, k1]
      have hqrb : q.rb = zerosN q.b := by rw [hK.rb, hK.b, k2]
      have hqlow : q.low = P.low := by rw [hK.low, k3]
      have hwin := Lib.hid (show q.win = 0 by rw [hK.win, k5])
      have hrg := hQ.reg
      clear k1 k2 k3 k4 k5 k6 hK
      obtain ⟨M, hM'⟩ : ∃ M, manyQ q = M := ⟨_, rfl⟩
      have hM := Lib.hid hM'
      have CM : Hid (∀ V, QQ w6 g q V → Calls Tryd.prog 12 #[.pointer (some ⟨g, 0, none⟩)] V fun e w' => e = .returned (.int .u64 M) ∧ Below V.heap.size V w') := Lib.hid (fun V h => by
        have h2 := q_many h
        rw [hM'] at h2
        exact h2)
      clear hM'
      have CBAD : Hid (∀ V, QQ w6 g q V → Calls Tryd.prog 14 #[.pointer (some ⟨g, 0, none⟩), .int .i64 1, .agg #[.int .i64 0, .int .i64 r1, .int .i64 r2, .int .i64 r3, .int .i64 sk, .int .i64 r5, .int .i64 r6, .int .i64 r7, .int .i64 r8, .int .i64 r9, .slice B K.length c4]] V fun e w' => e = .returned (.int .i64 0) ∧ Below V.heap.size V w') := Lib.hid (fun V h => q_roll_no (⟨0, r1, r2, r3, (sk : Int), r5, r6, r7, r8, r9⟩ : PolN) B K.length c4 K 1 h (HXR.out V h.below) hKn.out (.inl (bad_policy _ _ rfl)))
      have CR0 : Hid (∀ V, QQ w6 g q V → Calls Tryd.prog 14 #[.pointer (some ⟨g, 0, none⟩), .int .i64 0, .agg #[.int .i64 r0, .int .i64 r1, .int .i64 r2, .int .i64 r3, .int .i64 sk, .int .i64 r5, .int .i64 r6, .int .i64 r7, .int .i64 r8, .int .i64 r9, .slice B K.length c4]] V fun e w' => e = .returned (.int .i64 0) ∧ Below V.heap.size V w') := Lib.hid (fun V h => q_roll_no (⟨r0, r1, r2, r3, (sk : Int), r5, r6, r7, r8, r9⟩ : PolN) B K.length c4 K 0 h (HXR.out V h.below) hKn.out (.inr (by rw [hwin.out]; omega)))
      have CR1 : Hid (∀ V, QQ w6 g q V → Calls Tryd.prog 14 #[.pointer (some ⟨g, 0, none⟩), .int .i64 1, .agg #[.int .i64 r0, .int .i64 r1, .int .i64 r2, .int .i64 r3, .int .i64 sk, .int .i64 r5, .int .i64 r6, .int .i64 r7, .int .i64 r8, .int .i64 r9, .slice B K.length c4]] V fun e w' => e = .returned (.int .i64 1) ∧ QQ w6 g (endQ (nextQ q 1) (⟨r0, r1, r2, r3, (sk : Int), r5, r6, r7, r8, r9⟩ : PolN)) w') := Lib.hid (fun V h => q_roll_next (⟨r0, r1, r2, r3, (sk : Int), r5, r6, r7, r8, r9⟩ : PolN) B K.length c4 K 1 h (HXR.out V h.below) hKn.out HR1.out (by rw [hwin.out]; rfl) (by omega))
      have hlens := policy_lens (p := (⟨r0, r1, r2, r3, (sk : Int), r5, r6, r7, r8, r9⟩ : PolN)) hrg 1
      have hmany : Hid ((sk = P.sketch.toNat ∧ manyQ (endQ (nextQ q 1) (⟨r0, r1, r2, r3, (sk : Int), r5, r6, r7, r8, r9⟩ : PolN)) = M) ∨ (¬ sk = P.sketch.toNat ∧ manyQ (endQ (nextQ q 1) (⟨r0, r1, r2, r3, (sk : Int), r5, r6, r7, r8, r9⟩ : PolN)) = 0)) := Lib.hid (by
        by_cases h : sk = P.sketch.toNat
        · left
          refine ⟨h, ?_⟩
          exact (next_many (p := (⟨r0, r1, r2, r3, (sk : Int), r5, r6, r7, r8, r9⟩ : PolN)) hrg (by rw [hqb, ← h]; rfl) hqrb 1).trans hM.out
        · right
          refine ⟨h, (policy_next (p := (⟨r0, r1, r2, r3, (sk : Int), r5, r6, r7, r8, r9⟩ : PolN)) hrg (by rw [hqb]; exact fun e => h e.symm) hok1.out 1).1⟩)
      obtain ⟨q5, hq5⟩ : ∃ q5, q5 = endQ (nextQ q 1) (⟨r0, r1, r2, r3, (sk : Int), r5, r6, r7, r8, r9⟩ : PolN) := ⟨_, rfl⟩
      have e1 : q5.seen = 0 := by rw [hq5]; rfl
      have e2 : q5.l = [] := by rw [hq5]; rfl
      have e3 : q5.win = 1 := by rw [hq5]; rfl
      rw [← hq5] at CR1 hmany hlens
      clear hq5
      obtain ⟨M5, hM5⟩ : ∃ M, manyQ q5 = M := ⟨_, rfl⟩
      obtain ⟨c5, hc5⟩ : ∃ c, q5.closed = c := ⟨_, rfl⟩
      obtain ⟨s1, hs1⟩ : ∃ s, strOfNums q5.rn = s := ⟨_, rfl⟩
      obtain ⟨s2, hs2⟩ : ∃ s, strOfNums q5.rb = s := ⟨_, rfl⟩
      have hz1 : s1.size = 2 ^ sk := by rw [← hs1, strOfNums_size, hlens.1]; rfl
      have hz2 : s2.size = 2 ^ sk := by rw [← hs2, strOfNums_size, hlens.2]; rfl
      have CM5 : Hid (∀ V, QQ w6 g q5 V → Calls Tryd.prog 12 #[.pointer (some ⟨g, 0, none⟩)] V fun e w' => e = .returned (.int .u64 M5) ∧ Below V.heap.size V w') := Lib.hid (fun V h => by
        have h2 := q_many h
        rw [hM5] at h2
        exact h2)
      have CS5 : Hid (∀ V, QQ w6 g q5 V → Calls Tryd.prog 13 #[.pointer (some ⟨g, 0, none⟩)] V fun e w' => ∃ A c, e = .returned (.agg #[.int .i64 1, .bool c5, .string s1, .string s2, .int .u64 0, .slice A 0 c]) ∧ Below V.heap.size V w') := Lib.hid (fun V h => by
        have h2 := state_none h e1 e2
        rw [hc5, e3, hs1, hs2] at h2
        exact h2)
      rw [hM5] at hmany
      clear e1 e2 e3 hM5 hc5 hs1 hs2 hlens hqb hqrb hqlow hrg
      have hsh := shl1i sk (by omega)
      rw [Nat.min_eq_left (by omega)] at hsh
      have hm : 2 ^ sk ≤ 1024 := by have := Nat.pow_le_pow_right (n := 2) (by omega) (show sk ≤ 10 by omega); simpa using this
      have hm2 : 16 ≤ 2 ^ sk := by have := Nat.pow_le_pow_right (n := 2) (by omega) (show 4 ≤ sk by omega); simpa using this
      generalize 2 ^ sk = m at *
      have hPs := hok.out.sk
      have hsn : Hid ((((sk : Int) != P.sketch) = false ∧ M5 = M) ∨ (((sk : Int) != P.sketch) = true ∧ M5 = 0)) := Lib.hid (by
        rcases hmany.out with ⟨h, h2⟩ | ⟨h, h2⟩
        · left; exact ⟨by rw [bne_eq_false_iff_eq]; omega, h2⟩
        · right; exact ⟨by rw [bne_iff_ne]; omega, h2⟩)
      clear hmany hPs hM
      have hzz1 := Lib.hid hz1
      have hzz2 := Lib.hid hz2
      clear hz1 hz2
      have hHsh := Lib.hid hsh
      clear hsh
      have hsnc := hsn.out
      clear hsn
      rcases hsnc with ⟨hne, rfl⟩ | ⟨hne, rfl⟩
      all_goals
        rcases hend with d1 | ⟨d1, d2⟩
        all_goals
          go_wp2_with fail
          refine (CM.out wr hQ).mono ?_
          rintro e w8 ⟨rfl, b8⟩
          have h8 := hQ.step b8
          clear b8
          have CP := (HPR.out w8 h8.below).cell
          have LP := (HPR.out w8 h8.below).lt
          have h9 := h8.step (balloc (Below.refl _ _) (.cells #[.int .i64 0, .int .i64 r1, .int .i64 r2, .int .i64 r3, .int .i64 sk, .int .i64 r5, .int .i64 r6, .int .i64 r7, .int .i64 r8, .int .i64 r9, .slice B K.length c4] 24))
          go_wp2_with fail
          refine (CBAD.out _ h9).mono ?_
          rintro e w10 ⟨rfl, b10⟩
          have h10 := h9.step b10
          clear h8 h9 b10
          replace CP := (HPR.out w10 h10.below).cell
          replace LP := (HPR.out w10 h10.below).lt
          go_wp2_with fail
          refine (CR0.out _ h10).mono ?_
          rintro e w11 ⟨rfl, b11⟩
          have h11 := h10.step b11
          clear h10 b11
          replace CP := (HPR.out w11 h11.below).cell
          replace LP := (HPR.out w11 h11.below).lt
          go_wp2_with fail
          refine (CM.out _ h11).mono ?_
          rintro e w12 ⟨rfl, b12⟩
          have h12 := h11.step b12
          clear h11 b12
          replace CP := (HPR.out w12 h12.below).cell
          replace LP := (HPR.out w12 h12.below).lt
          go_wp2_with fail
          refine (CR1.out _ h12).mono ?_
          rintro e w13 ⟨rfl, h13⟩
          clear h12 CP LP
          go_wp2_with fail
          refine (CS5.out w13 h13).mono ?_
          rintro e w14 ⟨A8, c8, rfl, b14⟩
          have h14 := h13.step b14
          have BS := Blk.new w14 43 #[.int .i64 1, .bool c5, .string s1, .string s2, .int .u64 0, .slice A8 0 c8]
          have h15 := h14.step (balloc (Below.refl _ _) (.cells #[.int .i64 1, .bool c5, .string s1, .string s2, .int .u64 0, .slice A8 0 c8] 43))
          clear h13 b14 h14
          go_upto_region 23 with fail
          generalize (w14.alloc (.cells #[.int .i64 1, .bool c5, .string s1, .string s2, .int .u64 0, .slice A8 0 c8] 43)) = w15 at *
          generalize w14.heap.size = gs at *
          have HBS := Lib.hid BS
          clear BS
          go_wp2_with fail
          refine (CM5.out _ h15).mono ?_
          rintro e w16 ⟨rfl, b16⟩
          have h16 := h15.step b16
          have HBS2 := Lib.hid (Blk.step b16 HBS.out)
          clear h15 b16 HBS
          have CP := (HPR.out w16 h16.below).cell
          have LP := (HPR.out w16 h16.below).lt
          have CQ := (HPV.out w16 h16.below).cell
          have LQ := (HPV.out w16 h16.below).lt
          go_wp2_with ((first | (go_at_call 12; refine (CM5.out _ h16).mono ?_; rintro e w17 ⟨rfl, b17⟩; have h17 := h16.step b17; have HBS3 := Lib.hid (Blk.step b17 HBS2.out); clear h16 b17 HBS2 CP LP CQ LQ; have h16 := h17; have HBS2 := HBS3; clear h17 HBS3; have CP := (HPR.out _ h16.below).cell; have LP := (HPR.out _ h16.below).lt)))
          have CS := HBS2.out.cell
          have LS := HBS2.out.lt
          have hz1 := hzz1.out
          have hz2 := hzz2.out
          have hsh := hHsh.out
          go_quiet (fail)
          go_wp2_with fail
          go_ret
          exact ⟨by simp, hb6.out.trans ((bdrewN h16.below nq).mono hb6.out.size)⟩
end Go.Proofs.YtapiehddcdnadaaDoor

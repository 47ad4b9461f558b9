/- QuotaRolls: the walk. -/
import Derived.Test.YtapiehddcdnadaaDoorQuG
namespace Go.Proofs.YtapiehddcdnadaaDoor
open Go.RowKit
set_option linter.unusedVariables false
set_option linter.unusedSimpArgs false

set_option maxRecDepth 100000 in
set_option maxHeartbeats 4000000 in
theorem rolls_walk (p : PolN) (ta : Option Addr) (tn tc : Nat) (own : Bool) (a : Option Addr) (n c : Nat) (xs : List Int) (a2 : Option Addr) (n2 c2 : Nat) (ys : List Int) (by_ : Int) (w : World) (hT : Tab w) (hx : Ints .u16 w a n xs) (hn : n ≤ 9223372036854775807) (hy : Ints .u8 w a2 n2 ys) (hlc2 : n2 ≤ c2) (hl2 : n2 ≤ 140737488351232) (hby : 0 ≤ by_ ∧ by_ ≤ 255) :
    Calls Tryd.prog 4 #[wishV p ta tn tc own a n c, .slice a2 n2 c2, .int .u8 by_] w fun e w' => e = .returned (.bool true) ∧ Below w.heap.size w w' := by
  have HT := Lib.hid hT
  have HX := Lib.hid hx
  have HY := Lib.hid hy
  have hbd := Lib.hid (nI_bd hx)
  have HWO := Lib.hid (fun V hV => wish_own p ta tn tc a n c xs V hV hn)
  clear hT hx hy
  unfold wishV at *
  go_enter Tryd.func4, Tryd.ntmps4
  go_wp2_with fail
  refine (examples_q _ (HT.out.step (balloc (Below.refl _ _) _))).mono ?_
  rintro e w1 ⟨rfl, b1⟩
  have B0 := Blk.step b1 (Blk.new w 27 #[.int .i64 p.slots, .int .i64 p.low, .int .i64 p.high, .int .i64 p.top, .int .i64 p.sketch, .int .i64 p.fine, .int .i64 p.idle, .int .i64 p.window, .int .i64 p.late, .int .i64 p.future, .slice ta tn tc, .bool own, .slice a n c])
  have hb1 := Lib.hid (bstep b1 (balloc (Below.refl w.heap.size w) _))
  have C0 := B0.cell
  have F0 := B0.frozen
  have L0 := B0.lt
  have B0b := B0.put 11 (.bool true)
  have hb2 := Lib.hid (bset hb1.out (p := ⟨w.heap.size, 11, none⟩) (Nat.le_refl _) (.bool true))
  clear b1 B0
  go_upto_region 5 with fail
  clear C0 F0 L0
  generalize (w1.setCell ⟨w.heap.size, 11, none⟩ (.bool true)) = w2 at *
  have C0 := B0b.cell
  have L0 := B0b.lt
  go_wp2_with fail
  refine (HWO.out w2 (HX.out.step hb2.out)).mono ?_
  rintro e w3 ⟨A, c3, rfl, hI, b3⟩
  have HR := Lib.hid (wish_right xs hbd.out)
  have hb3 := Lib.hid (bstep b3 hb2.out)
  clear C0 L0 B0b hb1 hb2 b3 hbd HWO HX
  obtain ⟨P, hP⟩ : ∃ P, P = wishP xs := ⟨_, rfl⟩
  obtain ⟨L, hL⟩ : ∃ L, L = wishT xs := ⟨_, rfl⟩
  rw [← hP, ← hL] at HR
  rw [← hL] at hI
  rw [← hP, ← hL]
  clear hP hL
  unfold polV
  have HI := Lib.hid hI
  have hok := Lib.hid (right_ok HR.out)
  clear hI
  go_upto_region 6 with fail
  have BP := Lib.hid (Blk.new w3 24 #[.int .i64 P.slots, .int .i64 P.low, .int .i64 P.high, .int .i64 P.top, .int .i64 P.sketch, .int .i64 P.fine, .int .i64 P.idle, .int .i64 P.window, .int .i64 P.late, .int .i64 P.future, .slice A L.length c3])
  have HI2 := Lib.hid (HI.out.step (balloc (Below.refl _ _) (.cells #[.int .i64 P.slots, .int .i64 P.low, .int .i64 P.high, .int .i64 P.top, .int .i64 P.sketch, .int .i64 P.fine, .int .i64 P.idle, .int .i64 P.window, .int .i64 P.late, .int .i64 P.future, .slice A L.length c3] 24)))
  have hb4 := Lib.hid (balloc hb3.out (.cells #[.int .i64 P.slots, .int .i64 P.low, .int .i64 P.high, .int .i64 P.top, .int .i64 P.sketch, .int .i64 P.fine, .int .i64 P.idle, .int .i64 P.window, .int .i64 P.late, .int .i64 P.future, .slice A L.length c3] 24))
  have CP := (BP.out).cell
  have LP := (BP.out).lt
  generalize (w3.alloc (.cells #[.int .i64 P.slots, .int .i64 P.low, .int .i64 P.high, .int .i64 P.top, .int .i64 P.sketch, .int .i64 P.fine, .int .i64 P.idle, .int .i64 P.window, .int .i64 P.late, .int .i64 P.future, .slice A L.length c3] 24)) = w4 at *
  generalize w3.heap.size = gp at *
  clear HI hb3
  have HT4 := Lib.hid (HT.out.step hb4.out)
  have hLn : Hid (L.length ≤ 9223372036854775806) := Lib.hid (by have h := HR.out; unfold rightP at h; simp only [Bool.and_eq_true, decide_eq_true_eq] at h; omega)
  have HXV : Hid (∀ V, Below w4.heap.size w4 V → Ints .i64 V A L.length L) := Lib.hid (fun V hV => HI2.out.step hV)
  have HPV : Hid (∀ V, Below w4.heap.size w4 V → Blk V gp 24 #[.int .i64 P.slots, .int .i64 P.low, .int .i64 P.high, .int .i64 P.top, .int .i64 P.sketch, .int .i64 P.fine, .int .i64 P.idle, .int .i64 P.window, .int .i64 P.late, .int .i64 P.future, .slice A L.length c3]) := Lib.hid (fun V hV => Blk.below hV BP.out.lt BP.out)
  have HNEW : Hid (∀ V, Below w4.heap.size w4 V → Calls Tryd.prog 9 #[.agg #[.int .i64 P.slots, .int .i64 P.low, .int .i64 P.high, .int .i64 P.top, .int .i64 P.sketch, .int .i64 P.fine, .int .i64 P.idle, .int .i64 P.window, .int .i64 P.late, .int .i64 P.future, .slice A L.length c3], .int .i64 7] V fun e w' => ∃ g, e = .returned (.tuple #[.pointer (some ⟨g, 0, none⟩), .int .i64 0]) ∧ QQ w4 g (newQ P 7) w') := Lib.hid (fun V hV => new_call w4 P A L.length c3 L 7 V hV (HXV.out V hV) hLn.out HR.out (by omega) (by omega))
  obtain ⟨q0, hq0⟩ : ∃ q0, q0 = newQ P 7 := ⟨_, rfl⟩
  have HK := Lib.hid (newQ_keep hok.out 7)
  rw [← hq0] at HNEW HK
  clear hq0
  go_wp2_with fail
  refine (HNEW.out w4 (Below.refl _ _)).mono ?_
  rintro e w5 ⟨g, rfl, h5⟩
  clear CP LP HNEW
  go_wp2_with fail
  go_loopw [11] (fun i wr => ∃ (j : Nat) (q : QS), j ≤ n2 ∧ j ≤ 60 ∧ i = .int .i64 j ∧ QQ w4 g q wr ∧ Keep q0 q) (fun i _ => n2 - (intOf i).toNat)
  case atStart => exact ⟨0, q0, Nat.zero_le _, Nat.zero_le _, rfl, h5, Keep.refl _⟩
  case round =>
    clear h5
    obtain ⟨j, q, hjn, hj2, rfl, hQ, hK⟩ := hrel
    by_cases hc : j < n2 ∧ j < 60
    · have hyr := HY.out.step (hb4.out.trans (hQ.below.mono hb4.out.size))
      obtain ⟨b, off, rfl, hb, hcell⟩ := hyr.at_ (by omega)
      have cb := hcell j hc.1
      have c1 : (j : Int) < n2 := by omega
      have c2 : (j : Int) < 60 := by omega
      clear hcell hyr
      generalize ys.getD j 0 = v at *
      have hcv := fun W => conv_one W v
      have CA : Hid (∀ V, QQ w4 g q V → Calls Tryd.prog 11 #[.pointer (some ⟨g, 0, none⟩), .string (strOfNums [v]), .string ⟨#[109]⟩, .bool false, .bool true] V fun e w' => e = .returned (.int .i64 (admitE q (strOfNums [v]) false true)) ∧ QQ w4 g (admitQ q (strOfNums [v]) ⟨#[109]⟩ false true) w') := Lib.hid (fun V h => q_admit HT4.out (strOfNums [v]) ⟨#[109]⟩ false true (by rw [str1_size]; omega) (by decide) h)
      have hQ2 := hQ.step (balloc (Below.refl _ wr) (.cells #[.int .u8 v] 5))
      have hK2 := hK.admit (strOfNums [v]) ⟨#[109]⟩ false true
      clear hQ hK hc
      go_wp2_with fail
      refine (CA.out _ hQ2).mono ?_
      rintro e w6 ⟨rfl, h6⟩
      go_wp2_with fail
      exact ⟨⟨j + 1, _, by omega, by omega, by go_num, h6, hK2⟩, by simp [intOf]; omega⟩
    · have hend : (¬ (j : Int) < n2) ∨ ((j : Int) < n2 ∧ ¬ (j : Int) < 60) := by omega
      clear hc
      rcases hend with d1 | ⟨d1, d2⟩
      all_goals
        obtain ⟨r, hr0, hr1⟩ : ∃ r : Int, by_ % 4 = r ∧ (0 ≤ r ∧ r ≤ 3) := ⟨_, rfl, by omega⟩
        have hr2 : by_.tmod 4 = r := by rw [Int.tmod_eq_emod_of_nonneg hby.1]; exact hr0
        obtain ⟨k1, k2, k3, k4, k5, k6⟩ := HK.out
        have hqb : q.b = P.sketch.toNat := by rw [hK.b, k1]
        have hqrb : q.rb = zerosN q.b := by rw [hK.rb, hK.b, k2]
        have hqlow : q.low = P.low := by rw [hK.low, k3]
        have hwin := Lib.hid (show q.win = 7 by rw [hK.win, k5])
        have hlo := hok.out.lo
        have hhi := hok.out.hi
        have hlow0 : 0 ≤ q.low := by rw [hqlow]; exact hlo.1
        clear k1 k2 k3 k4 k5 k6 hK
        obtain ⟨M, hM'⟩ : ∃ M, manyQ q = M := ⟨_, rfl⟩
        obtain ⟨cl, hcl'⟩ : ∃ c, q.closed = c := ⟨_, rfl⟩
        have hM := Lib.hid hM'
        have hcl := Lib.hid hcl'
        have CC : Hid (∀ V, QQ w4 g q V → Calls Tryd.prog 10 #[.pointer (some ⟨g, 0, none⟩)] V fun e w' => e = .returned (.bool cl) ∧ V = w') := Lib.hid (fun V h => by
          have h2 := q_closed h
          rw [hcl'] at h2
          exact h2)
        have CM : Hid (∀ V, QQ w4 g q V → Calls Tryd.prog 12 #[.pointer (some ⟨g, 0, none⟩)] V fun e w' => e = .returned (.int .u64 M) ∧ Below V.heap.size V w') := Lib.hid (fun V h => by
          have h2 := q_many h
          rw [hM'] at h2
          exact h2)
        clear hM' hcl'
        by_cases hr : r = 0
        · subst hr
          clear hr1
          have F := rolls_next hQ.reg hqb hqrb hqlow 8
          obtain ⟨q5, hq5'⟩ : ∃ q5, q5 = endQ (nextQ q 8) P := ⟨_, rfl⟩
          rw [← hq5'] at F
          have hq5 := Lib.hid hq5'
          clear hq5'
          obtain ⟨F1', F2', F3', F4', F5'⟩ := F
          rw [hM.out] at F1'
          rw [hcl.out, hM.out] at F2'
          have F1 := Lib.hid F1'
          have F3 := Lib.hid (And.intro F3' (And.intro F4' F5'))
          obtain ⟨c5, hc5⟩ : ∃ c5, c5 = (cl && decide (P.low < M)) := ⟨_, rfl⟩
          rw [← hc5] at F2'
          have F2 := Lib.hid F2'
          clear F1' F2' F3' F4' F5'
          obtain ⟨s1, hs1'⟩ : ∃ s, strOfNums q5.rn = s := ⟨_, rfl⟩
          obtain ⟨s2, hs2'⟩ : ∃ s, strOfNums q5.rb = s := ⟨_, rfl⟩
          have hs1 := Lib.hid hs1'
          have hs2 := Lib.hid hs2'
          clear hs1' hs2'
          have CR : Hid (∀ V, QQ w4 g q V → Calls Tryd.prog 14 #[.pointer (some ⟨g, 0, none⟩), .int .i64 8, .agg #[.int .i64 P.slots, .int .i64 P.low, .int .i64 P.high, .int .i64 P.top, .int .i64 P.sketch, .int .i64 P.fine, .int .i64 P.idle, .int .i64 P.window, .int .i64 P.late, .int .i64 P.future, .slice A L.length c3]] V fun e w' => e = .returned (.int .i64 1) ∧ QQ w4 g q5 w') := Lib.hid (fun V h => by
            rw [hq5.out]
            exact q_roll_next P A L.length c3 L 8 h (HXV.out V h.below) hLn.out HR.out (by rw [hwin.out]; rfl) (by omega))
          have CM2 : Hid (∀ V, QQ w4 g q5 V → Calls Tryd.prog 12 #[.pointer (some ⟨g, 0, none⟩)] V fun e w' => e = .returned (.int .u64 M) ∧ Below V.heap.size V w') := Lib.hid (fun V h => by
            have h2 := q_many h
            rw [F1.out] at h2
            exact h2)
          have CC2 : Hid (∀ V, QQ w4 g q5 V → Calls Tryd.prog 10 #[.pointer (some ⟨g, 0, none⟩)] V fun e w' => e = .returned (.bool c5) ∧ V = w') := Lib.hid (fun V h => by
            have h2 := q_closed h
            rw [F2.out] at h2
            exact h2)
          have CS2 : Hid (∀ V, QQ w4 g q5 V → Calls Tryd.prog 13 #[.pointer (some ⟨g, 0, none⟩)] V fun e w' => ∃ A c, e = .returned (.agg #[.int .i64 8, .bool c5, .string s1, .string s2, .int .u64 0, .slice A 0 c]) ∧ Below V.heap.size V w') := Lib.hid (fun V h => by
            have h2 := state_none h F3.out.1 F3.out.2.1
            rw [F2.out, F3.out.2.2, hs1.out, hs2.out] at h2
            exact h2)
          have CRS : Hid (∀ V, QQ w4 g q5 V → Calls Tryd.prog 14 #[.pointer (some ⟨g, 0, none⟩), .int .i64 8, .agg #[.int .i64 P.slots, .int .i64 P.low, .int .i64 P.high, .int .i64 P.top, .int .i64 P.sketch, .int .i64 P.fine, .int .i64 P.idle, .int .i64 P.window, .int .i64 P.late, .int .i64 P.future, .slice A L.length c3]] V fun e w' => e = .returned (.int .i64 0) ∧ Below V.heap.size V w') := Lib.hid (fun V h => q_roll_no P A L.length c3 L 8 h (HXV.out V h.below) hLn.out (.inr (by rw [F3.out.2.2]; omega)))
          have CRB : Hid (∀ V, QQ w4 g q5 V → Calls Tryd.prog 14 #[.pointer (some ⟨g, 0, none⟩), .int .i64 0, .agg #[.int .i64 P.slots, .int .i64 P.low, .int .i64 P.high, .int .i64 P.top, .int .i64 P.sketch, .int .i64 P.fine, .int .i64 P.idle, .int .i64 P.window, .int .i64 P.late, .int .i64 P.future, .slice A L.length c3]] V fun e w' => e = .returned (.int .i64 0) ∧ Below V.heap.size V w') := Lib.hid (fun V h => q_roll_no P A L.length c3 L 0 h (HXV.out V h.below) hLn.out (.inr (by rw [F3.out.2.2]; omega)))
          have CW2 : Hid (∀ V, QQ w4 g q5 V → Calls Tryd.prog 15 #[.pointer (some ⟨g, 0, none⟩)] V fun e w' => e = .returned (.int .i64 8) ∧ V = w') := Lib.hid (fun V h => by
            have h2 := q_window h
            rw [F3.out.2.2] at h2
            exact h2)
          clear hqb hqrb hqlow hlow0
          have hcs : (cl = false ∧ c5 = false) ∨ (cl = true ∧ P.low < M ∧ c5 = true) ∨ (cl = true ∧ ¬ P.low < M ∧ c5 = false) := by
            rw [hc5]
            cases cl
            · left; simp
            · by_cases h : P.low < M
              · right; left; exact ⟨rfl, h, by simp [h]⟩
              · right; right; exact ⟨rfl, h, by simp [h]⟩
          clear hc5 hcl hM
          rcases hcs with ⟨rfl, hc⟩ | ⟨rfl, hlM, hc⟩ | ⟨rfl, hlM, hc⟩
          · subst hc
            go_wp2_with fail
            refine (CC.out wr hQ).mono ?_
            rintro e w6 ⟨rfl, rfl⟩
            go_wp2_with fail
            refine (CM.out wr hQ).mono ?_
            rintro e w6 ⟨rfl, b6⟩
            have h6 := hQ.step b6
            clear hQ b6
            have CP := (HPV.out w6 h6.below).cell
            have LP := (HPV.out w6 h6.below).lt
            go_wp2_with fail
            refine (CR.out w6 h6).mono ?_
            rintro e w7 ⟨rfl, h7⟩
            clear h6 CP LP
            go_wp2_with fail
            refine (CS2.out w7 h7).mono ?_
            rintro e w8 ⟨A8, c8, rfl, b8⟩
            have h8 := h7.step b8
            have BS := Blk.new w8 43 #[.int .i64 8, .bool false, .string s1, .string s2, .int .u64 0, .slice A8 0 c8]
            have h9 := h8.step (balloc (Below.refl _ _) (.cells #[.int .i64 8, .bool false, .string s1, .string s2, .int .u64 0, .slice A8 0 c8] 43))
            have CP := (HPV.out _ h9.below).cell
            have LP := (HPV.out _ h9.below).lt
            clear h7 b8 h8
            go_upto_region 18 with fail
            generalize (w8.alloc (.cells #[.int .i64 8, .bool false, .string s1, .string s2, .int .u64 0, .slice A8 0 c8] 43)) = w9 at *
            generalize w8.heap.size = gs at *
            have HBS := Lib.hid BS
            clear BS
            go_wp2_with fail
            refine (CRS.out w9 h9).mono ?_
            rintro e w10 ⟨rfl, b10⟩
            have h10 := h9.step b10
            have HBS2 := Lib.hid (Blk.step b10 HBS.out)
            clear h9 b10 HBS
            replace CP := (HPV.out _ h10.below).cell
            replace LP := (HPV.out _ h10.below).lt
            go_wp2_with fail
            refine (CRB.out w10 h10).mono ?_
            rintro e w11 ⟨rfl, b11⟩
            have h11 := h10.step b11
            have HBS3 := Lib.hid (Blk.step b11 HBS2.out)
            clear h10 b11 HBS2 CP LP
            go_wp2_with fail
            refine (CM2.out w11 h11).mono ?_
            rintro e w12 ⟨rfl, b12⟩
            have h12 := h11.step b12
            have HBS4 := Lib.hid (Blk.step b12 HBS3.out)
            clear h11 b12 HBS3
            have CP := (HPV.out _ h12.below).cell
            have LP := (HPV.out _ h12.below).lt
            have CS := HBS4.out.cell
            have LS := HBS4.out.lt
            go_wp2_with fail
            refine (CC2.out w12 h12).mono ?_
            rintro e w13 ⟨rfl, rfl⟩
            go_wp2_with fail
            go_ret
            exact ⟨rfl, hb4.out.trans (h12.below.mono hb4.out.size)⟩
          · subst hc
            go_wp2_with fail
            refine (CC.out wr hQ).mono ?_
            rintro e w6 ⟨rfl, rfl⟩
            go_wp2_with fail
            refine (CM.out wr hQ).mono ?_
            rintro e w6 ⟨rfl, b6⟩
            have h6 := hQ.step b6
            clear hQ b6
            have CP := (HPV.out w6 h6.below).cell
            have LP := (HPV.out w6 h6.below).lt
            go_wp2_with fail
            refine (CR.out w6 h6).mono ?_
            rintro e w7 ⟨rfl, h7⟩
            clear h6 CP LP
            go_wp2_with fail
            refine (CS2.out w7 h7).mono ?_
            rintro e w8 ⟨A8, c8, rfl, b8⟩
            have h8 := h7.step b8
            have BS := Blk.new w8 43 #[.int .i64 8, .bool true, .string s1, .string s2, .int .u64 0, .slice A8 0 c8]
            have h9 := h8.step (balloc (Below.refl _ _) (.cells #[.int .i64 8, .bool true, .string s1, .string s2, .int .u64 0, .slice A8 0 c8] 43))
            have CP := (HPV.out _ h9.below).cell
            have LP := (HPV.out _ h9.below).lt
            clear h7 b8 h8
            go_upto_region 18 with fail
            generalize (w8.alloc (.cells #[.int .i64 8, .bool true, .string s1, .string s2, .int .u64 0, .slice A8 0 c8] 43)) = w9 at *
            generalize w8.heap.size = gs at *
            have HBS := Lib.hid BS
            clear BS
            go_wp2_with fail
            refine (CRS.out w9 h9).mono ?_
            rintro e w10 ⟨rfl, b10⟩
            have h10 := h9.step b10
            have HBS2 := Lib.hid (Blk.step b10 HBS.out)
            clear h9 b10 HBS
            replace CP := (HPV.out _ h10.below).cell
            replace LP := (HPV.out _ h10.below).lt
            go_wp2_with fail
            refine (CRB.out w10 h10).mono ?_
            rintro e w11 ⟨rfl, b11⟩
            have h11 := h10.step b11
            have HBS3 := Lib.hid (Blk.step b11 HBS2.out)
            clear h10 b11 HBS2 CP LP
            go_wp2_with fail
            refine (CM2.out w11 h11).mono ?_
            rintro e w12 ⟨rfl, b12⟩
            have h12 := h11.step b12
            have HBS4 := Lib.hid (Blk.step b12 HBS3.out)
            clear h11 b12 HBS3
            have CP := (HPV.out _ h12.below).cell
            have LP := (HPV.out _ h12.below).lt
            have CS := HBS4.out.cell
            have LS := HBS4.out.lt
            go_wp2_with fail
            refine (CC2.out w12 h12).mono ?_
            rintro e w13 ⟨rfl, rfl⟩
            go_wp2_with fail
            go_ret
            exact ⟨rfl, hb4.out.trans (h12.below.mono hb4.out.size)⟩
          · subst hc
            go_wp2_with fail
            refine (CC.out wr hQ).mono ?_
            rintro e w6 ⟨rfl, rfl⟩
            go_wp2_with fail
            refine (CM.out wr hQ).mono ?_
            rintro e w6 ⟨rfl, b6⟩
            have h6 := hQ.step b6
            clear hQ b6
            have CP := (HPV.out w6 h6.below).cell
            have LP := (HPV.out w6 h6.below).lt
            go_wp2_with fail
            refine (CR.out w6 h6).mono ?_
            rintro e w7 ⟨rfl, h7⟩
            clear h6 CP LP
            go_wp2_with fail
            refine (CS2.out w7 h7).mono ?_
            rintro e w8 ⟨A8, c8, rfl, b8⟩
            have h8 := h7.step b8
            have BS := Blk.new w8 43 #[.int .i64 8, .bool false, .string s1, .string s2, .int .u64 0, .slice A8 0 c8]
            have h9 := h8.step (balloc (Below.refl _ _) (.cells #[.int .i64 8, .bool false, .string s1, .string s2, .int .u64 0, .slice A8 0 c8] 43))
            have CP := (HPV.out _ h9.below).cell
            have LP := (HPV.out _ h9.below).lt
            clear h7 b8 h8
            go_upto_region 18 with fail
            generalize (w8.alloc (.cells #[.int .i64 8, .bool false, .string s1, .string s2, .int .u64 0, .slice A8 0 c8] 43)) = w9 at *
            generalize w8.heap.size = gs at *
            have HBS := Lib.hid BS
            clear BS
            go_wp2_with fail
            refine (CRS.out w9 h9).mono ?_
            rintro e w10 ⟨rfl, b10⟩
            have h10 := h9.step b10
            have HBS2 := Lib.hid (Blk.step b10 HBS.out)
            clear h9 b10 HBS
            replace CP := (HPV.out _ h10.below).cell
            replace LP := (HPV.out _ h10.below).lt
            go_wp2_with fail
            refine (CRB.out w10 h10).mono ?_
            rintro e w11 ⟨rfl, b11⟩
            have h11 := h10.step b11
            have HBS3 := Lib.hid (Blk.step b11 HBS2.out)
            clear h10 b11 HBS2 CP LP
            go_wp2_with fail
            refine (CM2.out w11 h11).mono ?_
            rintro e w12 ⟨rfl, b12⟩
            have h12 := h11.step b12
            have HBS4 := Lib.hid (Blk.step b12 HBS3.out)
            clear h11 b12 HBS3
            have CP := (HPV.out _ h12.below).cell
            have LP := (HPV.out _ h12.below).lt
            have CS := HBS4.out.cell
            have LS := HBS4.out.lt
            go_wp2_with fail
            refine (CC2.out w12 h12).mono ?_
            rintro e w13 ⟨rfl, rfl⟩
            go_wp2_with fail
            go_ret
            exact ⟨ret_bool (by simp; omega), hb4.out.trans (h12.below.mono hb4.out.size)⟩
        · have hr3 : 1 ≤ r := by omega
          have F := rolls_later hQ.reg hqb hlow0 (8 + r)
          obtain ⟨q5, hq5'⟩ : ∃ q5, q5 = endQ (laterQ q (8 + r)) P := ⟨_, rfl⟩
          rw [← hq5'] at F
          have hq5 := Lib.hid hq5'
          clear hq5'
          obtain ⟨F1', F2', F3', F4', F5'⟩ := F
          have F1 := Lib.hid F1'
          have F3 := Lib.hid (And.intro F3' (And.intro F4' F5'))
          obtain ⟨c5, hc5⟩ : ∃ c5, c5 = false := ⟨_, rfl⟩
          rw [← hc5] at F2'
          have F2 := Lib.hid F2'
          clear F1' F2' F3' F4' F5'
          obtain ⟨s1, hs1'⟩ : ∃ s, strOfNums q5.rn = s := ⟨_, rfl⟩
          obtain ⟨s2, hs2'⟩ : ∃ s, strOfNums q5.rb = s := ⟨_, rfl⟩
          have hs1 := Lib.hid hs1'
          have hs2 := Lib.hid hs2'
          clear hs1' hs2' hcl hM
          have CR : Hid (∀ V, QQ w4 g q V → Calls Tryd.prog 14 #[.pointer (some ⟨g, 0, none⟩), .int .i64 (8 + r), .agg #[.int .i64 P.slots, .int .i64 P.low, .int .i64 P.high, .int .i64 P.top, .int .i64 P.sketch, .int .i64 P.fine, .int .i64 P.idle, .int .i64 P.window, .int .i64 P.late, .int .i64 P.future, .slice A L.length c3]] V fun e w' => e = .returned (.int .i64 2) ∧ QQ w4 g q5 w') := Lib.hid (fun V h => by
            rw [hq5.out]
            exact q_roll_later P A L.length c3 L (8 + r) h (HXV.out V h.below) hLn.out HR.out (by rw [hwin.out]; omega) (by omega))
          have CM2 : Hid (∀ V, QQ w4 g q5 V → Calls Tryd.prog 12 #[.pointer (some ⟨g, 0, none⟩)] V fun e w' => e = .returned (.int .u64 0) ∧ Below V.heap.size V w') := Lib.hid (fun V h => by
            have h2 := q_many h
            rw [F1.out] at h2
            exact h2)
          have CC2 : Hid (∀ V, QQ w4 g q5 V → Calls Tryd.prog 10 #[.pointer (some ⟨g, 0, none⟩)] V fun e w' => e = .returned (.bool c5) ∧ V = w') := Lib.hid (fun V h => by
            have h2 := q_closed h
            rw [F2.out] at h2
            exact h2)
          have CS2 : Hid (∀ V, QQ w4 g q5 V → Calls Tryd.prog 13 #[.pointer (some ⟨g, 0, none⟩)] V fun e w' => ∃ A c, e = .returned (.agg #[.int .i64 (8 + r), .bool c5, .string s1, .string s2, .int .u64 0, .slice A 0 c]) ∧ Below V.heap.size V w') := Lib.hid (fun V h => by
            have h2 := state_none h F3.out.1 F3.out.2.1
            rw [F2.out, F3.out.2.2, hs1.out, hs2.out] at h2
            exact h2)
          have CRS : Hid (∀ V, QQ w4 g q5 V → Calls Tryd.prog 14 #[.pointer (some ⟨g, 0, none⟩), .int .i64 (8 + r), .agg #[.int .i64 P.slots, .int .i64 P.low, .int .i64 P.high, .int .i64 P.top, .int .i64 P.sketch, .int .i64 P.fine, .int .i64 P.idle, .int .i64 P.window, .int .i64 P.late, .int .i64 P.future, .slice A L.length c3]] V fun e w' => e = .returned (.int .i64 0) ∧ Below V.heap.size V w') := Lib.hid (fun V h => q_roll_no P A L.length c3 L (8 + r) h (HXV.out V h.below) hLn.out (.inr (by rw [F3.out.2.2]; omega)))
          have CRB : Hid (∀ V, QQ w4 g q5 V → Calls Tryd.prog 14 #[.pointer (some ⟨g, 0, none⟩), .int .i64 0, .agg #[.int .i64 P.slots, .int .i64 P.low, .int .i64 P.high, .int .i64 P.top, .int .i64 P.sketch, .int .i64 P.fine, .int .i64 P.idle, .int .i64 P.window, .int .i64 P.late, .int .i64 P.future, .slice A L.length c3]] V fun e w' => e = .returned (.int .i64 0) ∧ Below V.heap.size V w') := Lib.hid (fun V h => q_roll_no P A L.length c3 L 0 h (HXV.out V h.below) hLn.out (.inr (by rw [F3.out.2.2]; omega)))
          have CW2 : Hid (∀ V, QQ w4 g q5 V → Calls Tryd.prog 15 #[.pointer (some ⟨g, 0, none⟩)] V fun e w' => e = .returned (.int .i64 (8 + r)) ∧ V = w') := Lib.hid (fun V h => by
            have h2 := q_window h
            rw [F3.out.2.2] at h2
            exact h2)
          clear hqb hqrb hqlow hlow0 hr
          subst hc5
          have hne8 : ((8 + r : Int) == 8) = false := by rw [beq_eq_false_iff_ne]; omega
          go_wp2_with fail
          refine (CC.out wr hQ).mono ?_
          rintro e w6 ⟨rfl, rfl⟩
          go_wp2_with fail
          refine (CM.out wr hQ).mono ?_
          rintro e w6 ⟨rfl, b6⟩
          have h6 := hQ.step b6
          clear hQ b6
          have CP := (HPV.out w6 h6.below).cell
          have LP := (HPV.out w6 h6.below).lt
          go_wp2_with fail
          refine (CR.out w6 h6).mono ?_
          rintro e w7 ⟨rfl, h7⟩
          clear h6 CP LP
          go_wp2_with fail
          refine (CS2.out w7 h7).mono ?_
          rintro e w8 ⟨A8, c8, rfl, b8⟩
          have h8 := h7.step b8
          have BS := Blk.new w8 43 #[.int .i64 (8 + r), .bool false, .string s1, .string s2, .int .u64 0, .slice A8 0 c8]
          have h9 := h8.step (balloc (Below.refl _ _) (.cells #[.int .i64 (8 + r), .bool false, .string s1, .string s2, .int .u64 0, .slice A8 0 c8] 43))
          have CP := (HPV.out _ h9.below).cell
          have LP := (HPV.out _ h9.below).lt
          clear h7 b8 h8
          go_upto_region 18 with fail
          generalize (w8.alloc (.cells #[.int .i64 (8 + r), .bool false, .string s1, .string s2, .int .u64 0, .slice A8 0 c8] 43)) = w9 at *
          generalize w8.heap.size = gs at *
          have HBS := Lib.hid BS
          clear BS
          go_wp2_with fail
          refine (CRS.out w9 h9).mono ?_
          rintro e w10 ⟨rfl, b10⟩
          have h10 := h9.step b10
          have HBS2 := Lib.hid (Blk.step b10 HBS.out)
          clear h9 b10 HBS
          replace CP := (HPV.out _ h10.below).cell
          replace LP := (HPV.out _ h10.below).lt
          go_wp2_with fail
          refine (CRB.out w10 h10).mono ?_
          rintro e w11 ⟨rfl, b11⟩
          have h11 := h10.step b11
          have HBS3 := Lib.hid (Blk.step b11 HBS2.out)
          clear h10 b11 HBS2 CP LP
          go_wp2_with fail
          refine (CM2.out w11 h11).mono ?_
          rintro e w12 ⟨rfl, b12⟩
          have h12 := h11.step b12
          have HBS4 := Lib.hid (Blk.step b12 HBS3.out)
          clear h11 b12 HBS3
          have CS := HBS4.out.cell
          have LS := HBS4.out.lt
          go_wp2_with fail
          refine (CC2.out w12 h12).mono ?_
          rintro e w13 ⟨rfl, rfl⟩
          go_wp2_with fail
          refine (CW2.out w12 h12).mono ?_
          rintro e w13 ⟨rfl, rfl⟩
          go_wp2_with fail
          go_ret
          exact ⟨by simp, hb4.out.trans (h12.below.mono hb4.out.size)⟩
end Go.Proofs.YtapiehddcdnadaaDoor

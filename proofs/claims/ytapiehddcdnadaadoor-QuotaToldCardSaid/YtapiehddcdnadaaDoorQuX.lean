/- The chapter's examples. -/
import Derived.Test.YtapiehddcdnadaaDoorQuE
namespace Go.Proofs.YtapiehddcdnadaaDoor
open Go.RowKit
set_option linter.unusedVariables false
set_option linter.unusedSimpArgs false

theorem ints2 {w : World} {g : Nat} (h : Blk w g 2 #[.int .i64 10, .int .i64 60]) : Ints .i64 w (some ⟨g, 0, none⟩) 2 [10, 60] :=
  ⟨rfl, fun x hx => by
    simp only [List.mem_cons, List.not_mem_nil, or_false] at hx
    rcases hx with rfl | rfl <;> rfl, fun _ => ⟨g, 0, rfl, h.lt, fun i hi => by
    have : i = 0 ∨ i = 1 := by omega
    rcases this with rfl | rfl
    · exact h.cellAt 0 rfl
    · exact h.cellAt 1 rfl⟩⟩
theorem ex_state {W V : World} {g : Nat} (h : QQ W g exQ4 V) : Calls Tryd.prog 13 #[.pointer (some ⟨g, 0, none⟩)] V fun e w' => ∃ A c r1 r2, e = .returned (.agg #[.int .i64 5, .bool true, .string r1, .string r2, .int .u64 1, .slice (some ⟨A, 0, none⟩) 1 c]) ∧ w'.cell? ⟨A, 0, none⟩ = some (.string ⟨#[109]⟩) ∧ A < w'.heap.size ∧ Below V.heap.size V w' := by
  refine (q_state h).mono ?_
  rintro e w' ⟨A, n, c, bs, s, rfl, hT, hI, hb⟩
  obtain ⟨f1, f2, f3, f4, _⟩ := exQ4_facts
  rw [f2] at hT
  have hs := told_one hT
  subst hs
  have hn : n = 1 := by have := hI.len; simpa using this.symm
  subst hn
  obtain ⟨r, rfl, _, hr, _, hc⟩ := hI.row (by omega)
  have h0 := (hc 0 (by omega)).1
  refine ⟨r, c, strOfNums exQ4.rn, strOfNums exQ4.rb, ?_, h0, hr, hb⟩
  unfold stateV
  rw [f1, f3, f4]
  rfl
set_option maxRecDepth 100000 in
set_option maxHeartbeats 4000000 in
theorem examples_q (w : World) (hT : Tab w) : Calls Tryd.prog 7 #[] w fun e w' => e = .returned (.bool true) ∧ Below w.heap.size w w' := by
  have HTab := Lib.hid hT
  clear hT
  go_enter Tryd.func7, Tryd.ntmps7
  go_wp2_with fail
  refine (base_call w).mono ?_
  rintro e w1 ⟨g0, rfl, BT, b1⟩
  have kl : w1.heap.size = w1.heap.size := rfl
  clear kl
  go_upto_region 4 with fail
  have BP := Lib.hid (Blk.new w1 24 #[.int .i64 64, .int .i64 0, .int .i64 1, .int .i64 8, .int .i64 6, .int .i64 2, .int .i64 2, .int .i64 60, .int .i64 30, .int .i64 5, .slice (some ⟨g0, 0, none⟩) 2 2])
  have BT2 := Lib.hid (BT.alloc (.cells #[.int .i64 64, .int .i64 0, .int .i64 1, .int .i64 8, .int .i64 6, .int .i64 2, .int .i64 2, .int .i64 60, .int .i64 30, .int .i64 5, .slice (some ⟨g0, 0, none⟩) 2 2] 24))
  have hb2 := Lib.hid (balloc b1 (.cells #[.int .i64 64, .int .i64 0, .int .i64 1, .int .i64 8, .int .i64 6, .int .i64 2, .int .i64 2, .int .i64 60, .int .i64 30, .int .i64 5, .slice (some ⟨g0, 0, none⟩) 2 2] 24))
  have CP := (BP.out).cell
  have LP := (BP.out).lt
  generalize (w1.alloc (.cells #[.int .i64 64, .int .i64 0, .int .i64 1, .int .i64 8, .int .i64 6, .int .i64 2, .int .i64 2, .int .i64 60, .int .i64 30, .int .i64 5, .slice (some ⟨g0, 0, none⟩) 2 2] 24)) = w2 at *
  generalize w1.heap.size = gp at *
  clear BT b1
  have HT2 := Lib.hid (HTab.out.step hb2.out)
  have HX : Hid (∀ V, Below w2.heap.size w2 V → Ints .i64 V (some ⟨g0, 0, none⟩) 2 [10, 60]) := Lib.hid (fun V hV => ints2 (Blk.below hV BT2.out.lt BT2.out))
  have HP : Hid (∀ V, Below w2.heap.size w2 V → Blk V gp 24 #[.int .i64 64, .int .i64 0, .int .i64 1, .int .i64 8, .int .i64 6, .int .i64 2, .int .i64 2, .int .i64 60, .int .i64 30, .int .i64 5, .slice (some ⟨g0, 0, none⟩) 2 2]) := Lib.hid (fun V hV => Blk.below hV BP.out.lt BP.out)
  have C0 : Hid (∀ V, Below w2.heap.size w2 V → Calls Tryd.prog 9 #[.agg #[.int .i64 64, .int .i64 0, .int .i64 1, .int .i64 8, .int .i64 6, .int .i64 2, .int .i64 2, .int .i64 60, .int .i64 30, .int .i64 5, .slice (some ⟨g0, 0, none⟩) 2 2], .int .i64 (-1)] V fun e w' => e = .returned (.tuple #[.pointer none, .int .i64 1]) ∧ Below V.heap.size V w') := Lib.hid (fun V hV => new_no_call P0 _ 2 2 [10, 60] (-1) V (HX.out V hV) (by omega) (.inr (by omega)))
  have C1 : Hid (∀ V, Below w2.heap.size w2 V → Calls Tryd.prog 9 #[.agg #[.int .i64 64, .int .i64 0, .int .i64 1, .int .i64 8, .int .i64 6, .int .i64 2, .int .i64 2, .int .i64 60, .int .i64 30, .int .i64 5, .slice (some ⟨g0, 0, none⟩) 2 2], .int .i64 3] V fun e w' => ∃ g, e = .returned (.tuple #[.pointer (some ⟨g, 0, none⟩), .int .i64 0]) ∧ QQ w2 g (newQ P0 3) w') := Lib.hid (fun V hV => new_call w2 P0 _ 2 2 [10, 60] 3 V hV (HX.out V hV) (by omega) P0_right (by omega) (by omega))
  have C2 : Hid (∀ V g, QQ w2 g (newQ P0 3) V → Calls Tryd.prog 11 #[.pointer (some ⟨g, 0, none⟩), .string ⟨#[107]⟩, .string ⟨#[109]⟩, .bool true, .bool false] V fun e w' => e = .returned (.int .i64 0) ∧ QQ w2 g exQ1 w') := Lib.hid (fun V g h => q_admit HT2.out kB mB true false (by decide) (by decide) h)
  have C3 : Hid (∀ V g, QQ w2 g exQ1 V → Calls Tryd.prog 11 #[.pointer (some ⟨g, 0, none⟩), .string ⟨#[106]⟩, .string ⟨#[109]⟩, .bool false, .bool false] V fun e w' => e = .returned (.int .i64 10) ∧ QQ w2 g exQ2 w') := Lib.hid (fun V g h => by
    have h2 := q_admit HT2.out jB mB false false (by decide) (by decide) h
    rw [ex_b] at h2
    exact h2)
  have C4 : Hid (∀ V g, QQ w2 g exQ2 V → Calls Tryd.prog 14 #[.pointer (some ⟨g, 0, none⟩), .int .i64 3, .agg #[.int .i64 64, .int .i64 0, .int .i64 1, .int .i64 8, .int .i64 6, .int .i64 2, .int .i64 2, .int .i64 60, .int .i64 30, .int .i64 5, .slice (some ⟨g0, 0, none⟩) 2 2]] V fun e w' => e = .returned (.int .i64 0) ∧ Below V.heap.size V w') := Lib.hid (fun V g h => q_roll_no P0 _ 2 2 [10, 60] 3 h (HX.out V h.below) (by omega) (.inr (by rw [exQ2_win]; omega)))
  have C5 : Hid (∀ V g, QQ w2 g exQ2 V → Calls Tryd.prog 14 #[.pointer (some ⟨g, 0, none⟩), .int .i64 5, .agg #[.int .i64 64, .int .i64 0, .int .i64 1, .int .i64 8, .int .i64 6, .int .i64 2, .int .i64 2, .int .i64 60, .int .i64 30, .int .i64 5, .slice (some ⟨g0, 0, none⟩) 2 2]] V fun e w' => e = .returned (.int .i64 2) ∧ QQ w2 g (newQ P0 5) w') := Lib.hid (fun V g h => by
    have h2 := q_roll_later P0 _ 2 2 [10, 60] 5 h (HX.out V h.below) (by omega) P0_right (by rw [exQ2_win]; omega) (by omega)
    rw [ex_d] at h2
    exact h2)
  have C6 : Hid (∀ V g, QQ w2 g (newQ P0 5) V → Calls Tryd.prog 11 #[.pointer (some ⟨g, 0, none⟩), .string ⟨#[107]⟩, .string ⟨#[109]⟩, .bool false, .bool true] V fun e w' => e = .returned (.int .i64 10) ∧ QQ w2 g exQ4 w') := Lib.hid (fun V g h => by
    have h2 := q_admit HT2.out kB mB false true (by decide) (by decide) h
    rw [ex_g] at h2
    exact h2)
  have C7 : Hid (∀ V g, QQ w2 g exQ4 V → Calls Tryd.prog 15 #[.pointer (some ⟨g, 0, none⟩)] V fun e w' => e = .returned (.int .i64 5) ∧ V = w') := Lib.hid (fun V g h => by
    have h2 := q_window h
    rw [exQ4_facts.2.2.1] at h2
    exact h2)
  have C8 : Hid (∀ V g, QQ w2 g exQ4 V → Calls Tryd.prog 10 #[.pointer (some ⟨g, 0, none⟩)] V fun e w' => e = .returned (.bool true) ∧ V = w') := Lib.hid (fun V g h => by
    have h2 := q_closed h
    rw [exQ4_facts.2.2.2.1] at h2
    exact h2)
  have C9 : Hid (∀ V g, QQ w2 g exQ4 V → Calls Tryd.prog 12 #[.pointer (some ⟨g, 0, none⟩)] V fun e w' => e = .returned (.int .u64 1) ∧ Below V.heap.size V w') := Lib.hid (fun V g h => by
    have h2 := q_many h
    rw [exQ4_facts.2.2.2.2] at h2
    exact h2)
  generalize newQ P0 3 = Q0 at *
  generalize newQ P0 5 = Q3 at *
  go_wp2_with fail
  refine (C0.out w2 (Below.refl _ _)).mono ?_
  rintro e w3 ⟨rfl, b3⟩
  replace CP := (HP.out w3 b3).cell
  replace LP := (HP.out w3 b3).lt
  go_wp2_with fail
  refine (C1.out w3 b3).mono ?_
  rintro e w4 ⟨g, rfl, h4⟩
  clear b3 CP LP
  go_wp2_with fail
  refine (C2.out w4 g h4).mono ?_
  rintro e w5 ⟨rfl, h5⟩
  clear h4
  go_wp2_with fail
  refine (C3.out w5 g h5).mono ?_
  rintro e w6 ⟨rfl, h6⟩
  clear h5
  have CP := (HP.out w6 h6.below).cell
  have LP := (HP.out w6 h6.below).lt
  go_wp2_with fail
  refine (C4.out w6 g h6).mono ?_
  rintro e w7 ⟨rfl, b7⟩
  have h7 := h6.step b7
  clear h6 b7
  replace CP := (HP.out w7 h7.below).cell
  replace LP := (HP.out w7 h7.below).lt
  go_wp2_with fail
  refine (C5.out w7 g h7).mono ?_
  rintro e w8 ⟨rfl, h8⟩
  clear h7 CP LP
  go_wp2_with fail
  refine (C6.out w8 g h8).mono ?_
  rintro e w9 ⟨rfl, h9⟩
  clear h8
  go_wp2_with fail
  refine (ex_state h9).mono ?_
  rintro e w10 ⟨A, c, r1, r2, rfl, hc, hA, b10⟩
  have h10 := Lib.hid ((h9.step b10).step (balloc (Below.refl _ _) (.cells #[.int .i64 5, .bool true, .string r1, .string r2, .int .u64 1, .slice (some ⟨A, 0, none⟩) 1 c] 43)))
  clear h9 b10
  go_wp2_with fail
  refine (C7.out _ g h10.out).mono ?_
  rintro e w11 ⟨rfl, rfl⟩
  go_wp2_with fail
  refine (C8.out _ g h10.out).mono ?_
  rintro e w11 ⟨rfl, rfl⟩
  go_wp2_with fail
  refine (C9.out _ g h10.out).mono ?_
  rintro e w11 ⟨rfl, b11⟩
  go_wp2_with fail
  go_ret
  have hfin := (h10.out.step b11).below
  exact ⟨rfl, hb2.out.trans (hfin.mono hb2.out.size)⟩
end Go.Proofs.YtapiehddcdnadaaDoor

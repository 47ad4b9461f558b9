/- The walk of QuotaPlays. -/
import Derived.Test.YtapiehddcdnadaaGreatDoorQuZa
import Derived.Test.YtapiehddcdnadaaGreatDoorM15
import Derived.Deep.RegionHeldLaw
import Derived.Deep.CutBlock
import Derived.Deep.CutRange
namespace Go.Proofs.YtapiehddcdnadaaGreatDoor
open Go.RowKit
set_option linter.unusedVariables false
set_option linter.unusedSimpArgs false

set_option maxRecDepth 100000 in
set_option maxHeartbeats 16000000 in
theorem plays_walk (p : PolN) (ta : Option Addr) (tn tc : Nat) (ts : List Int) (own0 : Bool) (a : Option Addr) (n c : Nat) (xs : List Int) (window : Int) (near : Bool) (a2 : Option Addr) (n2 c2 : Nat) (w : World)
    (hT : Tab w) (ht : Ints .i64 w ta tn ts) (htn : tn ≤ 9223372036854775807) (hx : Ints .u16 w a n xs) (hn : n ≤ 9223372036854775807) (hwin : -9223372036854775808 ≤ window ∧ window ≤ 9223372036854775807) (hd : DeedsQ w a2 n2) :
    Calls Tryz.prog 3 #[wishV p ta tn tc own0 a n c, .int .i64 window, .bool near, .slice a2 n2 c2] w fun e w' => e = .returned (.bool true) ∧ Below w.heap.size w w' := by
  have HT := Lib.hid hT
  have HWI := Lib.hid (fun V (hb : Below w.heap.size w V) => wish_tq w p ta tn tc ts own0 a n c xs V hb ht htn hx hn)
  have HD := Lib.hid hd
  clear hT ht hx hd
  unfold wishV at *
  go_enter Tryz.func3, Tryz.ntmps3
  go_wp2_with fail
  refine (examples_q _ (HT.out.step (balloc (Below.refl _ _) _))).mono ?_
  rintro e w1 ⟨rfl, b1⟩
  have B0 := Blk.step b1 (Blk.new w 27 #[.int .i64 p.slots, .int .i64 p.low, .int .i64 p.high, .int .i64 p.top, .int .i64 p.sketch, .int .i64 p.fine, .int .i64 p.idle, .int .i64 p.window, .int .i64 p.late, .int .i64 p.future, .slice ta tn tc, .bool own0, .slice a n c])
  have hb1 := Lib.hid (bstep b1 (balloc (Below.refl w.heap.size w) (.cells #[.int .i64 p.slots, .int .i64 p.low, .int .i64 p.high, .int .i64 p.top, .int .i64 p.sketch, .int .i64 p.fine, .int .i64 p.idle, .int .i64 p.window, .int .i64 p.late, .int .i64 p.future, .slice ta tn tc, .bool own0, .slice a n c] 27)))
  have C0 := B0.cell
  have L0 := B0.lt
  clear b1
  go_wp2_with fail
  refine (HWI.out w1 hb1.out).mono ?_
  rintro e w2 ⟨P, A, nP, cP, ts', rfl, hI, b2⟩
  unfold polV
  have HI3 := Lib.hid (hI.step (balloc (Below.refl _ w2) (.cells #[.int .i64 P.slots, .int .i64 P.low, .int .i64 P.high, .int .i64 P.top, .int .i64 P.sketch, .int .i64 P.fine, .int .i64 P.idle, .int .i64 P.window, .int .i64 P.late, .int .i64 P.future, .slice A nP cP] 24)))
  have hb3 := Lib.hid (balloc (bstep b2 hb1.out) (.cells #[.int .i64 P.slots, .int .i64 P.low, .int .i64 P.high, .int .i64 P.top, .int .i64 P.sketch, .int .i64 P.fine, .int .i64 P.idle, .int .i64 P.window, .int .i64 P.late, .int .i64 P.future, .slice A nP cP] 24))
  have hgp : Hid (w.heap.size ≤ w2.heap.size) := Lib.hid (bstep b2 hb1.out).size
  clear C0 L0 B0 hI b2 hb1 HWI
  go_upto_if 29 with fail
  have BP3 := Lib.hid (Blk.new w2 24 #[.int .i64 P.slots, .int .i64 P.low, .int .i64 P.high, .int .i64 P.top, .int .i64 P.sketch, .int .i64 P.fine, .int .i64 P.idle, .int .i64 P.window, .int .i64 P.late, .int .i64 P.future, .slice A nP cP])
  generalize (w2.alloc (.cells #[.int .i64 P.slots, .int .i64 P.low, .int .i64 P.high, .int .i64 P.top, .int .i64 P.sketch, .int .i64 P.fine, .int .i64 P.idle, .int .i64 P.window, .int .i64 P.late, .int .i64 P.future, .slice A nP cP] 24)) = w3 at *
  generalize w2.heap.size = gp at *
  go_cut [1] from 30 (fun v wx => ∃ wn : Int, v = .int .i64 wn ∧ (-9223372036854775808 ≤ wn ∧ wn ≤ 9223372036854775807) ∧ wx = w3)
  case first =>
    as_aux_lemma =>
    cases near
    · go_wp2_with fail
      go_meet
      exact ⟨window, rfl, hwin, rfl⟩
    · obtain ⟨uw, hu, hu2⟩ : ∃ uw : Int, IntKind.u64.wrap window = uw ∧ 0 ≤ uw := ⟨_, rfl, by simp [IntKind.wrap, IntKind.bits, IntKind.signed]; omega⟩
      obtain ⟨r9, hr, hr2⟩ : ∃ r : Int, uw % 9 = r ∧ (0 ≤ r ∧ r ≤ 8) := ⟨_, rfl, by omega⟩
      have hr3 : uw.tmod 9 = r9 := by rw [Int.tmod_eq_emod_of_nonneg hu2]; exact hr
      have hr4 : IntKind.i64.wrap r9 = r9 := by rw [IntKind.wrap_i64]; omega
      clear hr
      go_wp2_with fail
      go_meet
      exact ⟨r9, rfl, by omega, rfl⟩
  case rest =>
  obtain ⟨wn, rfl, hwn, rfl⟩ := hcut
  have HRP : Hid (∀ V, Calls Tryz.prog 9 #[(.agg #[.int .i64 P.slots, .int .i64 P.low, .int .i64 P.high, .int .i64 P.top, .int .i64 P.sketch, .int .i64 P.fine, .int .i64 P.idle, .int .i64 P.window, .int .i64 P.late, .int .i64 P.future, .slice A nP cP])] V fun e w' => e = .returned ((.agg #[.int .i64 P.slots, .int .i64 P.low, .int .i64 P.high, .int .i64 P.top, .int .i64 P.sketch, .int .i64 P.fine, .int .i64 P.idle, .int .i64 P.window, .int .i64 P.late, .int .i64 P.future, .slice A nP cP])) ∧ Below V.heap.size V w') := Lib.hid (fun V => refPolicy_call P A nP cP V)
  have CP := BP3.out.cell
  have LP := BP3.out.lt
  by_cases hok : rightP P ts' = true ∧ 0 ≤ wn
  rotate_left
  · as_aux_lemma =>
    have hno : rightP P ts' = false ∨ wn < 0 := by
      rcases Bool.eq_false_or_eq_true (rightP P ts') with h | h
      · right
        rcases Int.lt_or_le wn 0 with h2 | h2
        · exact h2
        · exact absurd ⟨h, h2⟩ hok
      · exact .inl h
    have C1 := Lib.hid (new_no_call P A nP cP ts' wn wc HI3.out.ints HI3.out.le hno)
    have C2 := Lib.hid (fun V (hV : Below wc.heap.size wc V) => rqnew_no P A nP cP ts' wn V (HI3.out.ints.step hV) HI3.out.le hno)
    unfold polV at C1 C2
    clear hok hno
    go_wp2_with fail
    refine C1.out.mono ?_
    rintro e w4 ⟨rfl, b4⟩
    have B4 := Blk.step b4 BP3.out
    clear CP LP
    have CP := B4.cell
    have LP := B4.lt
    go_wp2_with fail
    refine (HRP.out _).mono ?_
    rintro e w5 ⟨rfl, b5⟩
    go_wp2_with fail
    refine (C2.out _ (bstep b5 b4)).mono ?_
    rintro e w6 ⟨rfl, b6⟩
    go_wp2_with fail
    go_ret
    exact ⟨rfl, hb3.out.trans (Below.mono (bstep b6 (bstep b5 b4)) hb3.out.size)⟩
  obtain ⟨hR, hw0⟩ := hok
  have HRR := Lib.hid hR
  have C1 := Lib.hid (new_call w P A nP cP ts' wn wc hb3.out HI3.out.ints HI3.out.le hR hw0 hwn.2)
  have C1b := Lib.hid (new_far w P A nP cP ts' wn wc hb3.out HI3.out.ints HI3.out.le hR hw0 hwn.2)
  have C2 := Lib.hid (fun V (hV : Below wc.heap.size wc V) => rx_new (W := w) P A nP cP ts' wn (hb3.out.trans (Below.mono hV hb3.out.size)) (HI3.out.ints.step hV) HI3.out.le hR hw0 hwn.2)
  unfold polV at C1 C1b C2
  have hnb : Hid (BackQQ (newQ P wn)) := Lib.hid ⟨BackInv.nil _, by have := (right_ok hR).tp; show 1 ≤ P.top.toNat; omega⟩
  clear C1 hR hw0
  obtain ⟨q0, hq0⟩ : ∃ q0, newQ P wn = q0 := ⟨_, rfl⟩
  rw [hq0] at C1b C2 hnb
  clear hq0
  go_wp2_with fail
  refine C1b.out.mono ?_
  rintro e w4 ⟨g, gn, gb, gt, rfl, Q4, b4, _⟩
  have HQ4 : Hid (QQ w g q0 w4) := Lib.hid ⟨gn, gb, gt, Q4⟩
  have BP4 := Lib.hid (Blk.step b4 BP3.out)
  have HB4 := Lib.hid b4
  clear CP LP Q4 C1b b4
  have CP := BP4.out.cell
  have LP := BP4.out.lt
  go_wp2_with fail
  refine (HRP.out _).mono ?_
  rintro e w5 ⟨rfl, b5⟩
  have hb35 := Lib.hid (bstep b5 HB4.out)
  clear CP LP
  go_wp2_with fail
  refine (C2.out _ hb35.out).mono ?_
  rintro e w6 ⟨x, rfl, X6, b6⟩
  have HX6 := Lib.hid X6
  have HQ6 := Lib.hid ((HQ4.out.step b5).step b6)
  have HI6 := Lib.hid ((HI3.out.step hb35.out).step b6)
  have BP6 := Lib.hid (Blk.step b6 (Blk.step b5 BP4.out))
  have hb6 := Lib.hid (hb3.out.trans (Below.mono (bstep b6 hb35.out) hb3.out.size))
  clear X6 b5 b6 HQ4 BP4 HB4 hb35 C2 HI3 BP3 hb3 HRP
  go_upto_block 0 with fail
  go_cut [0, 1, 4, 5, 6, 7, 8, 12, 14] from 15 (fun y0 y1 y4 y5 y6 y7 y8 y12 i wx => ∃ q, PX w g x q q wx)
  case first =>
    go_wp2_with fail
    have HRL := Lib.hid (show RelQ w g x gp n2 0 w6 from ⟨q0, P, A, nP, cP, ts', Nat.zero_le _, Nat.zero_le _, ⟨HQ6.out, HX6.out⟩, hnb.out, BP6.out, HI6.out, HRR.out⟩)
    clear HQ6 HX6 hnb BP6 HI6 HRR hb6
    refine loopQ near a2 n2 c2 w g x gp _ HT.out HD.out hgp.out ?_ _ _ _ _ _ _ _ _ _ _ _ _ _ _ _ _ _ _ _ _ _ _ _ _ _ _ _ _ _ _ _ _ _ _ _ _ _ _ _ _ _ _ _ _ _ _ _ _ _ _ _ _ _ _ _ _ _ _ _ _ _ _ _ _ _ _ _ _ _ _ _ _ _ _ _ _ _ _ _ _ _ _ _ _ _ _ _ _ _ _ _ _ _ _ _ _ _ _ _ _ _ _ _ _ _ _ _ _ _ _ _ _ _ _ _ _ _ _ _ _ _ _ _ _ _ _ _ _ _ _ _ _ _ _ _ _ _ _ _ _ _ _ _ _ _ _ _ _ _ _ _ _ _ _ _ _ _ _ _ _ _ _ _ _ _ _ _ _ _ _ _ _ _ _ _ _ _ _ _ _ _ _ _ _ _ _ _ _ _ _ _ _ _ _ _ _ _ _ _ _ _ _ _ _ _ _ _ _ _ _ _ _ _ _ _ _ _ _ _ _ _ _ _ _ _ _ _ _ _ _ _ w6 HRL.out
    clear HRL
    intro a' w'' hI
    unfold WI at hI
    obtain ⟨u0, hI⟩ := hI
    obtain ⟨u1, hI⟩ := hI
    obtain ⟨u4, hI⟩ := hI
    obtain ⟨u5, hI⟩ := hI
    obtain ⟨u6, hI⟩ := hI
    obtain ⟨u7, hI⟩ := hI
    obtain ⟨u8, hI⟩ := hI
    obtain ⟨u12, hI⟩ := hI
    obtain ⟨u15, hI⟩ := hI
    obtain ⟨u16, hI⟩ := hI
    obtain ⟨u17, hI⟩ := hI
    obtain ⟨u18, hI⟩ := hI
    obtain ⟨u19, hI⟩ := hI
    obtain ⟨u20, hI⟩ := hI
    obtain ⟨u21, hI⟩ := hI
    obtain ⟨u22, hI⟩ := hI
    obtain ⟨u23, hI⟩ := hI
    obtain ⟨u24, hI⟩ := hI
    obtain ⟨u25, hI⟩ := hI
    obtain ⟨u26, hI⟩ := hI
    obtain ⟨u27, hI⟩ := hI
    obtain ⟨u28, hI⟩ := hI
    obtain ⟨u29, hI⟩ := hI
    obtain ⟨u30, hI⟩ := hI
    obtain ⟨u31, hI⟩ := hI
    obtain ⟨u32, hI⟩ := hI
    obtain ⟨u33, hI⟩ := hI
    obtain ⟨u34, hI⟩ := hI
    obtain ⟨u35, hI⟩ := hI
    obtain ⟨u36, hI⟩ := hI
    obtain ⟨u37, hI⟩ := hI
    obtain ⟨u38, hI⟩ := hI
    obtain ⟨u39, hI⟩ := hI
    obtain ⟨u40, hI⟩ := hI
    obtain ⟨u41, hI⟩ := hI
    obtain ⟨u42, hI⟩ := hI
    obtain ⟨u43, hI⟩ := hI
    obtain ⟨u44, hI⟩ := hI
    obtain ⟨u45, hI⟩ := hI
    obtain ⟨u46, hI⟩ := hI
    obtain ⟨u47, hI⟩ := hI
    obtain ⟨u48, hI⟩ := hI
    obtain ⟨u49, hI⟩ := hI
    obtain ⟨u50, hI⟩ := hI
    obtain ⟨u51, hI⟩ := hI
    obtain ⟨u52, hI⟩ := hI
    obtain ⟨u53, hI⟩ := hI
    obtain ⟨u54, hI⟩ := hI
    obtain ⟨u55, hI⟩ := hI
    obtain ⟨u56, hI⟩ := hI
    obtain ⟨u57, hI⟩ := hI
    obtain ⟨u58, hI⟩ := hI
    obtain ⟨u59, hI⟩ := hI
    obtain ⟨u60, hI⟩ := hI
    obtain ⟨u61, hI⟩ := hI
    obtain ⟨u62, hI⟩ := hI
    obtain ⟨u63, hI⟩ := hI
    obtain ⟨u64, hI⟩ := hI
    obtain ⟨u65, hI⟩ := hI
    obtain ⟨u66, hI⟩ := hI
    obtain ⟨u67, hI⟩ := hI
    obtain ⟨u68, hI⟩ := hI
    obtain ⟨u69, hI⟩ := hI
    obtain ⟨u70, hI⟩ := hI
    obtain ⟨u71, hI⟩ := hI
    obtain ⟨u72, hI⟩ := hI
    obtain ⟨u73, hI⟩ := hI
    obtain ⟨u74, hI⟩ := hI
    obtain ⟨u75, hI⟩ := hI
    obtain ⟨u76, hI⟩ := hI
    obtain ⟨u77, hI⟩ := hI
    obtain ⟨u78, hI⟩ := hI
    obtain ⟨u79, hI⟩ := hI
    obtain ⟨u80, hI⟩ := hI
    obtain ⟨u81, hI⟩ := hI
    obtain ⟨u82, hI⟩ := hI
    obtain ⟨u83, hI⟩ := hI
    obtain ⟨u84, hI⟩ := hI
    obtain ⟨u85, hI⟩ := hI
    obtain ⟨u86, hI⟩ := hI
    obtain ⟨u87, hI⟩ := hI
    obtain ⟨u88, hI⟩ := hI
    obtain ⟨u89, hI⟩ := hI
    obtain ⟨u90, hI⟩ := hI
    obtain ⟨u91, hI⟩ := hI
    obtain ⟨u92, hI⟩ := hI
    obtain ⟨u93, hI⟩ := hI
    obtain ⟨u94, hI⟩ := hI
    obtain ⟨u95, hI⟩ := hI
    obtain ⟨u96, hI⟩ := hI
    obtain ⟨u97, hI⟩ := hI
    obtain ⟨u98, hI⟩ := hI
    obtain ⟨u99, hI⟩ := hI
    obtain ⟨u100, hI⟩ := hI
    obtain ⟨u101, hI⟩ := hI
    obtain ⟨u102, hI⟩ := hI
    obtain ⟨u103, hI⟩ := hI
    obtain ⟨u104, hI⟩ := hI
    obtain ⟨u105, hI⟩ := hI
    obtain ⟨u106, hI⟩ := hI
    obtain ⟨u107, hI⟩ := hI
    obtain ⟨u108, hI⟩ := hI
    obtain ⟨u109, hI⟩ := hI
    obtain ⟨u110, hI⟩ := hI
    obtain ⟨u111, hI⟩ := hI
    obtain ⟨u112, hI⟩ := hI
    obtain ⟨u113, hI⟩ := hI
    obtain ⟨u114, hI⟩ := hI
    obtain ⟨u115, hI⟩ := hI
    obtain ⟨u116, hI⟩ := hI
    obtain ⟨u117, hI⟩ := hI
    obtain ⟨u118, hI⟩ := hI
    obtain ⟨u119, hI⟩ := hI
    obtain ⟨u120, hI⟩ := hI
    obtain ⟨u121, hI⟩ := hI
    obtain ⟨u122, hI⟩ := hI
    obtain ⟨u123, hI⟩ := hI
    obtain ⟨u124, hI⟩ := hI
    obtain ⟨u125, hI⟩ := hI
    obtain ⟨u126, hI⟩ := hI
    obtain ⟨u127, hI⟩ := hI
    obtain ⟨u128, hI⟩ := hI
    obtain ⟨u129, hI⟩ := hI
    obtain ⟨u130, hI⟩ := hI
    obtain ⟨u131, hI⟩ := hI
    obtain ⟨u132, hI⟩ := hI
    obtain ⟨u133, hI⟩ := hI
    obtain ⟨u134, hI⟩ := hI
    obtain ⟨u135, hI⟩ := hI
    obtain ⟨u136, hI⟩ := hI
    obtain ⟨u137, hI⟩ := hI
    obtain ⟨u138, hI⟩ := hI
    obtain ⟨u139, hI⟩ := hI
    obtain ⟨u140, hI⟩ := hI
    obtain ⟨u141, hI⟩ := hI
    obtain ⟨u142, hI⟩ := hI
    obtain ⟨u143, hI⟩ := hI
    obtain ⟨u144, hI⟩ := hI
    obtain ⟨u145, hI⟩ := hI
    obtain ⟨u146, hI⟩ := hI
    obtain ⟨u147, hI⟩ := hI
    obtain ⟨u148, hI⟩ := hI
    obtain ⟨u149, hI⟩ := hI
    obtain ⟨u150, hI⟩ := hI
    obtain ⟨u151, hI⟩ := hI
    obtain ⟨u152, hI⟩ := hI
    obtain ⟨u153, hI⟩ := hI
    obtain ⟨u154, hI⟩ := hI
    obtain ⟨u155, hI⟩ := hI
    obtain ⟨u156, hI⟩ := hI
    obtain ⟨u157, hI⟩ := hI
    obtain ⟨u158, hI⟩ := hI
    obtain ⟨u159, hI⟩ := hI
    obtain ⟨u160, hI⟩ := hI
    obtain ⟨u161, hI⟩ := hI
    obtain ⟨u162, hI⟩ := hI
    obtain ⟨u163, hI⟩ := hI
    obtain ⟨u164, hI⟩ := hI
    obtain ⟨u165, hI⟩ := hI
    obtain ⟨u166, hI⟩ := hI
    obtain ⟨u167, hI⟩ := hI
    obtain ⟨u168, hI⟩ := hI
    obtain ⟨u169, hI⟩ := hI
    obtain ⟨u170, hI⟩ := hI
    obtain ⟨u171, hI⟩ := hI
    obtain ⟨u172, hI⟩ := hI
    obtain ⟨u173, hI⟩ := hI
    obtain ⟨u174, hI⟩ := hI
    obtain ⟨u175, hI⟩ := hI
    obtain ⟨u176, hI⟩ := hI
    obtain ⟨u177, hI⟩ := hI
    obtain ⟨u178, hI⟩ := hI
    obtain ⟨u179, hI⟩ := hI
    obtain ⟨u180, hI⟩ := hI
    obtain ⟨u181, hI⟩ := hI
    obtain ⟨u182, hI⟩ := hI
    obtain ⟨u183, hI⟩ := hI
    obtain ⟨u184, hI⟩ := hI
    obtain ⟨u185, hI⟩ := hI
    obtain ⟨u186, hI⟩ := hI
    obtain ⟨u187, hI⟩ := hI
    obtain ⟨u188, hI⟩ := hI
    obtain ⟨u189, hI⟩ := hI
    obtain ⟨u190, hI⟩ := hI
    obtain ⟨u191, hI⟩ := hI
    obtain ⟨u192, hI⟩ := hI
    obtain ⟨u193, hI⟩ := hI
    obtain ⟨u194, hI⟩ := hI
    obtain ⟨u195, hI⟩ := hI
    obtain ⟨u196, hI⟩ := hI
    obtain ⟨u197, hI⟩ := hI
    obtain ⟨u198, hI⟩ := hI
    obtain ⟨u199, hI⟩ := hI
    obtain ⟨u200, hI⟩ := hI
    obtain ⟨u201, hI⟩ := hI
    obtain ⟨u202, hI⟩ := hI
    obtain ⟨u203, hI⟩ := hI
    obtain ⟨u204, hI⟩ := hI
    obtain ⟨u205, hI⟩ := hI
    obtain ⟨u206, hI⟩ := hI
    obtain ⟨u207, hI⟩ := hI
    obtain ⟨u208, hI⟩ := hI
    obtain ⟨u209, hI⟩ := hI
    obtain ⟨u210, hI⟩ := hI
    obtain ⟨u211, hI⟩ := hI
    obtain ⟨u212, hI⟩ := hI
    obtain ⟨u213, hI⟩ := hI
    obtain ⟨u214, hI⟩ := hI
    obtain ⟨u215, hI⟩ := hI
    obtain ⟨u216, hI⟩ := hI
    obtain ⟨u217, hI⟩ := hI
    obtain ⟨u218, hI⟩ := hI
    obtain ⟨u219, hI⟩ := hI
    obtain ⟨u220, hI⟩ := hI
    obtain ⟨u221, hI⟩ := hI
    obtain ⟨u222, hI⟩ := hI
    obtain ⟨u223, hI⟩ := hI
    obtain ⟨u224, hI⟩ := hI
    obtain ⟨u225, hI⟩ := hI
    obtain ⟨u226, hI⟩ := hI
    obtain ⟨u227, hI⟩ := hI
    obtain ⟨u228, hI⟩ := hI
    obtain ⟨u229, hI⟩ := hI
    obtain ⟨u230, hI⟩ := hI
    obtain ⟨u231, hI⟩ := hI
    obtain ⟨u232, hI⟩ := hI
    obtain ⟨u233, hI⟩ := hI
    obtain ⟨u234, hI⟩ := hI
    obtain ⟨u235, hI⟩ := hI
    obtain ⟨u236, hI⟩ := hI
    obtain ⟨u237, hI⟩ := hI
    obtain ⟨j, ji, ⟨q, U, AU, nU, cU, tU, r1, r2, hPX, _⟩, rfl, rfl⟩ := hI
    have HPX := Lib.hid hPX
    clear hPX
    go_wp2_with fail
    go_meet
    exact ⟨q, HPX.out⟩
  case rest =>
  as_aux_lemma =>
  obtain ⟨q, hPX⟩ := hcut
  have HPX := Lib.hid hPX
  have hbW := Lib.hid hPX.below
  clear hPX HQ6 HX6 HI6 BP6 hnb HRR hb6
  go_wp2_with fail
  refine (q_state HPX.out.1).mono ?_
  rintro e w8 ⟨y1, m1, k1, d1, t1, rfl, T1, I1, b8⟩
  have HT1 := Lib.hid T1
  have HI1 := Lib.hid I1
  have HX8 := Lib.hid (HPX.out.2.step b8)
  have HQ8 := Lib.hid (HPX.out.1.step b8)
  clear T1 I1
  go_wp2_with fail
  refine (rx_state HX8.out).mono ?_
  rintro e w9 ⟨y2, m2, k2, d2, t2, rfl, T2, m16, I2, b9⟩
  have CSM := Lib.hid (same_both (V3 := w9) (HQ8.out.step b9) HT1.out T2 HI1.out I2 b9 (Below.refl _ _))
  have hb9 := Lib.hid (bstep b9 b8)
  clear T2 I2 b9 b8 m16 HX8 HQ8 HT1 HI1
  go_wp2_with fail
  refine CSM.out.mono ?_
  clear CSM
  rintro e w10 ⟨rfl, b10⟩
  go_wp2_with fail
  go_ret
  exact ⟨rfl, hbW.out.trans (Below.mono (bstep b10 hb9.out) hbW.out.size)⟩
end Go.Proofs.YtapiehddcdnadaaGreatDoor

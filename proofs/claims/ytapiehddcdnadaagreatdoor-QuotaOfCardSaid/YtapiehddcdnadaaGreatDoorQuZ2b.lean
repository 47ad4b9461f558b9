/- The walk of QuotaOf, of its own state. -/
import Derived.Test.YtapiehddcdnadaaGreatDoorQuZ2
import Derived.Deep.RegionHeldLaw
import Derived.Deep.CutBlock
import Derived.Deep.CutRange
namespace Go.Proofs.YtapiehddcdnadaaGreatDoor
open Go.RowKit
set_option linter.unusedVariables false
set_option linter.unusedSimpArgs false
attribute [local go_sem] fldS_5
set_option maxRecDepth 100000 in
set_option maxHeartbeats 16000000 in
theorem quotaOf_own (P : PolN) (ts' : List Int) (p : PolN) (ta : Option Addr) (tn tc : Nat) (own0 : Bool) (a : Option Addr) (n c : Nat) (win : Int) (closed : Bool) (s1 s2 : ByteArray) (seen : Nat) (sa : Option Addr) (sn sc : Nat) (sl : List It) (how : Int) (a2 : Option Addr) (n2 c2 : Nat) (ys : List Int) (w : World)
    (hT : Tab w) (hWI : ∀ V, Below w.heap.size w V → Calls Tryz.prog 6 #[wishV p ta tn tc own0 a n c] V (WishPost w.heap.size P ts' V)) (hR : rightP P ts' = true) (hwin : win ≤ 9223372036854775807) (hs1 : s1.size ≤ 9223372036854775807) (hs2 : s2.size ≤ 9223372036854775807) (hsn : seen < 18446744073709551616) (hsl : ItRow w sa sn sl) (hsc : sn ≤ sc) (hsm : sn ≤ 4398046511103) (hsb : Bd sl) (hhow : 0 ≤ how ∧ how ≤ 255) (hy : Ints .u8 w a2 n2 ys) (hyl : n2 ≤ 140737488351232) :
    Calls Tryz.prog 4 #[wishV p ta tn tc own0 a n c, stV win closed s1 s2 seen sa sn sc, .bool true, .int .u8 how, .slice a2 n2 c2] w fun e w' => e = .returned (.bool true) ∧ Below w.heap.size w w' := by
  have HT := Lib.hid hT
  have HWI := Lib.hid hWI
  have HY := Lib.hid hy
  have HSL := Lib.hid hsl
  have HSB := Lib.hid hsb
  have HRR := Lib.hid hR
  clear hT hWI hy hsl hsb hR
  unfold wishV at *
  unfold stV
  go_enter Tryz.func4, Tryz.ntmps4
  go_wp2_with fail
  refine (examples_q _ (HT.out.step (balloc (balloc (Below.refl _ _) _) _))).mono ?_
  rintro e w1 ⟨rfl, b1⟩
  have B0 := Blk.step b1 ((Blk.new w 27 #[.int .i64 p.slots, .int .i64 p.low, .int .i64 p.high, .int .i64 p.top, .int .i64 p.sketch, .int .i64 p.fine, .int .i64 p.idle, .int .i64 p.window, .int .i64 p.late, .int .i64 p.future, .slice ta tn tc, .bool own0, .slice a n c]).alloc (.cells #[.int .i64 win, .bool closed, .string s1, .string s2, .int .u64 (seen : Nat), .slice sa sn sc] 59))
  have BS1 := Lib.hid (Blk.step b1 (Blk.newAt (w := w.alloc (.cells #[.int .i64 p.slots, .int .i64 p.low, .int .i64 p.high, .int .i64 p.top, .int .i64 p.sketch, .int .i64 p.fine, .int .i64 p.idle, .int .i64 p.window, .int .i64 p.late, .int .i64 p.future, .slice ta tn tc, .bool own0, .slice a n c] 27)) (g := w.heap.size + 1) (t := 59) (cs := #[.int .i64 win, .bool closed, .string s1, .string s2, .int .u64 (seen : Nat), .slice sa sn sc]) (by simp)))
  have hb1 := Lib.hid (bstep b1 (balloc (balloc (Below.refl w.heap.size w) (.cells #[.int .i64 p.slots, .int .i64 p.low, .int .i64 p.high, .int .i64 p.top, .int .i64 p.sketch, .int .i64 p.fine, .int .i64 p.idle, .int .i64 p.window, .int .i64 p.late, .int .i64 p.future, .slice ta tn tc, .bool own0, .slice a n c] 27)) (.cells #[.int .i64 win, .bool closed, .string s1, .string s2, .int .u64 (seen : Nat), .slice sa sn sc] 59)))
  have C0 := B0.cell
  have L0 := B0.lt
  clear b1
  go_wp2_with fail
  refine (HWI.out w1 hb1.out).mono ?_
  rintro e w2 ⟨A, nP, cP, rfl, hI, b2⟩
  unfold polV
  have HI2 := Lib.hid (hI.step (balloc (Below.refl _ w2) (.cells #[.int .i64 P.slots, .int .i64 P.low, .int .i64 P.high, .int .i64 P.top, .int .i64 P.sketch, .int .i64 P.fine, .int .i64 P.idle, .int .i64 P.window, .int .i64 P.late, .int .i64 P.future, .slice A nP cP] 24)))
  have BS2 := Lib.hid ((Blk.step b2 BS1.out).alloc (.cells #[.int .i64 P.slots, .int .i64 P.low, .int .i64 P.high, .int .i64 P.top, .int .i64 P.sketch, .int .i64 P.fine, .int .i64 P.idle, .int .i64 P.window, .int .i64 P.late, .int .i64 P.future, .slice A nP cP] 24))
  have hb2 := Lib.hid (balloc (bstep b2 hb1.out) (.cells #[.int .i64 P.slots, .int .i64 P.low, .int .i64 P.high, .int .i64 P.top, .int .i64 P.sketch, .int .i64 P.fine, .int .i64 P.idle, .int .i64 P.window, .int .i64 P.late, .int .i64 P.future, .slice A nP cP] 24))
  have hw12 := Lib.hid (Nat.le_trans B0.lt b2.size)
  have hgs2 : Hid (w.heap.size + 1 < w1.heap.size) := Lib.hid BS1.out.lt
  clear C0 L0 B0 hI b2 BS1 hb1 HWI
  go_upto_region 5 with fail
  have BP := Lib.hid (Blk.new w2 24 #[.int .i64 P.slots, .int .i64 P.low, .int .i64 P.high, .int .i64 P.top, .int .i64 P.sketch, .int .i64 P.fine, .int .i64 P.idle, .int .i64 P.window, .int .i64 P.late, .int .i64 P.future, .slice A nP cP])
  generalize (w2.alloc (.cells #[.int .i64 P.slots, .int .i64 P.low, .int .i64 P.high, .int .i64 P.top, .int .i64 P.sketch, .int .i64 P.fine, .int .i64 P.idle, .int .i64 P.window, .int .i64 P.late, .int .i64 P.future, .slice A nP cP] 24)) = w3 at *
  generalize w2.heap.size = gp at *
  have HTI : Hid (∀ V, Below w3.heap.size w3 V → Tiers w.heap.size w1.heap.size V A nP ts') := Lib.hid (fun V hV => HI2.out.step hV)
  have HPV : Hid (∀ V, Below w3.heap.size w3 V → Blk V gp 24 #[.int .i64 P.slots, .int .i64 P.low, .int .i64 P.high, .int .i64 P.top, .int .i64 P.sketch, .int .i64 P.fine, .int .i64 P.idle, .int .i64 P.window, .int .i64 P.late, .int .i64 P.future, .slice A nP cP]) := Lib.hid (fun V hV => Blk.below hV BP.out.lt BP.out)
  have HSV : Hid (∀ V, Below w3.heap.size w3 V → Blk V (w.heap.size + 1) 59 #[.int .i64 win, .bool closed, .string s1, .string s2, .int .u64 (seen : Nat), .slice sa sn sc]) := Lib.hid (fun V hV => Blk.below hV BS2.out.lt BS2.out)
  have CP := BP.out.cell
  have LP := BP.out.lt
  have HRP : Hid (∀ V, Calls Tryz.prog 9 #[(.agg #[.int .i64 P.slots, .int .i64 P.low, .int .i64 P.high, .int .i64 P.top, .int .i64 P.sketch, .int .i64 P.fine, .int .i64 P.idle, .int .i64 P.window, .int .i64 P.late, .int .i64 P.future, .slice A nP cP])] V fun e w' => e = .returned ((.agg #[.int .i64 P.slots, .int .i64 P.low, .int .i64 P.high, .int .i64 P.top, .int .i64 P.sketch, .int .i64 P.fine, .int .i64 P.idle, .int .i64 P.window, .int .i64 P.late, .int .i64 P.future, .slice A nP cP])) ∧ Below V.heap.size V w') := Lib.hid (fun V => refPolicy_call P A nP cP V)
  go_wp2_with fail
  refine (HRP.out _).mono ?_
  rintro e w4 ⟨rfl, b4⟩
  clear CP LP
  have CN := rx_new (W := w3) P A nP cP ts' 4 b4 (HTI.out w4 b4).ints (HTI.out w4 b4).le HRR.out (by omega) (by omega)
  unfold polV at CN
  go_wp2_with fail
  refine CN.mono ?_
  rintro e w5 ⟨gx, rfl, X5, b5⟩
  have b35 := Lib.hid (bstep b5 b4)
  have HX5 := Lib.hid X5
  clear CN b4 b5 X5
  obtain ⟨q0, hq0⟩ : ∃ q0, newQ P 4 = q0 := ⟨_, rfl⟩
  rw [hq0] at HX5
  clear hq0
  go_upto_block 0 with fail
  go_cut [14] from 37 (fun i wx => ∃ q, RX w3 gx q wx)
  case first =>
    go_wp2_with fail
    go_loopw [14] (fun i wr => ∃ (j : Nat) (q : QS), j ≤ n2 ∧ j ≤ 40 ∧ i = .int .i64 j ∧ RX w3 gx q wr) (fun i _ => n2 - (intOf i).toNat)
    case atStart => exact ⟨0, q0, Nat.zero_le _, Nat.zero_le _, rfl, HX5.out⟩
    case round =>
      obtain ⟨j, q, hjn, hj2, rfl, hQ⟩ := hrel
      by_cases hc : j < n2 ∧ j < 40
      · obtain ⟨b, off, rfl, hb, hcell⟩ := HY.out.at_ (by omega)
        have hbelow := hb2.out.trans (hQ.below.mono hb2.out.size)
        have HV : Hid (∀ V, Below w3.heap.size w3 V → V.cell? ⟨b, off + j, none⟩ = some (.int .u8 (ys.getD j 0))) := Lib.hid (fun V hV => ((hb2.out.trans (hV.mono hb2.out.size)).cell (p := ⟨b, off + j, none⟩) hb).trans (hcell j hc.1))
        have hbr : b < wr.heap.size := Nat.lt_of_lt_of_le hb hbelow.size
        have hvw := HY.out.wf (ys.getD j 0) (by rw [List.getD_eq_getElem?_getD, List.getElem?_eq_getElem (by rw [HY.out.len]; exact hc.1)]; exact List.getElem_mem _)
        have hv : 0 ≤ ys.getD j 0 ∧ ys.getD j 0 ≤ 255 := bounds_u8 hvw
        clear hvw hcell
        have e1 : (j : Int) < n2 := by omega
        have e3 : (j : Int) < 40 := by omega
        generalize ys.getD j 0 = v at *
        obtain ⟨lu, hu, hu2⟩ : ∃ u : Nat, v % 9 = (u : Int) ∧ u < 9 := ⟨(v % 9).toNat, by omega, by omega⟩
        have hu3 : v.tmod 9 = (lu : Int) := by rw [Int.tmod_eq_emod_of_nonneg hv.1]; exact hu
        have hu4 : IntKind.u8.wrap (97 + (lu : Int)) = 97 + (lu : Int) := by simp [IntKind.wrap, IntKind.bits, IntKind.signed]; omega
        have hu5 : (lu : Int) < 9 := by omega
        obtain ⟨r2, hr2, hr2b⟩ : ∃ r : Int, v % 2 = r ∧ (0 ≤ r ∧ r ≤ 1) := ⟨_, rfl, by omega⟩
        have hr2c : v.tmod 2 = r2 := by rw [Int.tmod_eq_emod_of_nonneg hv.1]; exact hr2
        obtain ⟨r3, hr3, hr3b⟩ : ∃ r : Int, v % 3 = r ∧ (0 ≤ r ∧ r ≤ 2) := ⟨_, rfl, by omega⟩
        have hr3c : v.tmod 3 = r3 := by rw [Int.tmod_eq_emod_of_nonneg hv.1]; exact hr3
        have dv := HV.out wr hQ.below
        have CA : Hid (∀ V, RX w3 gx q V → Calls Tryz.prog 23 #[.pointer (some ⟨gx, 0, none⟩), .string (strOfNums [v]), .string (strOfNums [97 + (lu : Int)]), .bool (r2 == 0), .bool (r3 == 0)] V fun e w' => (∃ E, e = .returned (.int .i64 E)) ∧ ∃ q', RX w3 gx q' w') := Lib.hid (fun V h => by
          refine (rx_admit (strOfNums [v]) (strOfNums [97 + (lu : Int)]) (r2 == 0) (r3 == 0) (by rw [str1_sizeZ]; omega) (by rw [str1_sizeZ]; omega) h).mono ?_
          rintro e w' ⟨rfl, h', _⟩
          exact ⟨⟨_, rfl⟩, _, h'⟩)
        go_upto_region 10 with fail
        have F1 := conv_letZ ((Blk.new wr 5 #[.int .u8 v]).drew)
        have F2 := conv_letZ ((Blk.new wr 5 #[.int .u8 (97 + (lu : Int))]).drew)
        have F3 := conv_letZ (((Blk.new wr 5 #[.int .u8 v]).alloc (.cells #[.int .u8 (97 + (lu : Int))] 5)).drew)
        have F4 := conv_letZ ((Blk.newAt (w := wr.alloc (.cells #[.int .u8 v] 5)) (g := wr.heap.size + 1) (t := 5) (cs := #[.int .u8 (97 + (lu : Int))]) (by simp)).drew)
        have F5 := conv_letZ (((Blk.new wr 5 #[.int .u8 (97 + (lu : Int))]).alloc (.cells #[.int .u8 v] 5)).drew)
        have F6 := conv_letZ ((Blk.newAt (w := wr.alloc (.cells #[.int .u8 (97 + (lu : Int))] 5)) (g := wr.heap.size + 1) (t := 5) (cs := #[.int .u8 v]) (by simp)).drew)
        have HQ := Lib.hid hQ
        clear hQ hbelow hc
        go_region_held_law (fun w' => w'.cell? ⟨b, off + j, none⟩ = some (.int .u8 v)) (first | (with_reducible exact HV.out _ h6.below) | exact HV.out _ (HQ.out.step (bdrew (Below.refl _ _))).below | exact HV.out _ (HQ.out.step (bdrew (balloc (Below.refl _ _) _))).below | exact HV.out _ (HQ.out.step (bdrew (balloc (balloc (Below.refl _ _) _) _))).below)
          (first
            | (go_at_call 23; ((refine (CA.out _ (HQ.out.step (bdrew (balloc (balloc (Below.refl _ _) _) _)))).mono ?_); rintro eA wA ⟨⟨E, rfl⟩, q', h6⟩)))
        all_goals
          have H6 := Lib.hid h6
          clear h6 HQ
          go_wp2_with fail
          exact ⟨⟨j + 1, q', by omega, by omega, by go_num, H6.out⟩, by simp [intOf]; omega⟩
      · have hend : (¬ (j : Int) < n2) ∨ ((j : Int) < n2 ∧ ¬ (j : Int) < 40) := by omega
        clear hc
        have HQ := Lib.hid hQ
        clear hQ
        rcases hend with d1 | ⟨d1, d2⟩
        all_goals
          go_wp2_with fail
          go_meet
          exact ⟨q, HQ.out⟩
  case rest =>
  obtain ⟨q, hQ⟩ := hcut
  have HXq := Lib.hid hQ
  clear hQ HX5 b35
  have hqf := Lib.hid HXq.out.facts
  obtain ⟨wn, hwn⟩ : ∃ M, q.win = M := ⟨_, rfl⟩
  obtain ⟨cl, hcl⟩ : ∃ M, q.closed = M := ⟨_, rfl⟩
  obtain ⟨r1, hr1⟩ : ∃ M, strOfNums q.rn = M := ⟨_, rfl⟩
  obtain ⟨r2, hr2⟩ : ∃ M, strOfNums q.rb = M := ⟨_, rfl⟩
  obtain ⟨sq, hsq⟩ : ∃ M, q.seen = M := ⟨_, rfl⟩
  have hz1 : Hid (r1.size ≤ 1024) := Lib.hid (by rw [← hr1, strN_size]; exact hqf.out.1)
  have hz2 : Hid (r2.size ≤ 1024) := Lib.hid (by rw [← hr2, strN_size]; exact hqf.out.2.1)
  have hzw : Hid (wn ≤ 9223372036854775807) := Lib.hid (by rw [← hwn]; exact hqf.out.2.2.1)
  have hzs : Hid (sq ≤ 4611686018427387904) := Lib.hid (by rw [← hsq]; exact hqf.out.2.2.2)
  have CSy : Hid (∀ V, RX w3 gx q V → Calls Tryz.prog 18 #[.pointer (some ⟨gx, 0, none⟩)] V fun e w' => ∃ Ay ny cy, e = .returned (.agg #[.int .i64 wn, .bool cl, .string r1, .string r2, .int .u64 (sq : Nat), .slice Ay ny cy]) ∧ Below V.heap.size V w') := Lib.hid (fun V h => by
    refine (rx_state h).mono ?_
    rintro e w' ⟨Ay, ny, cy, bs, s, rfl, _, _, _, hb⟩
    refine ⟨Ay, ny, cy, ?_, hb⟩
    unfold stateV
    rw [hwn, hcl, hr1, hr2, hsq])
  clear hwn hcl hr1 hr2 hsq hqf
  go_wp2_with fail
  refine (CSy.out _ HXq.out).mono ?_
  rintro e w6 ⟨Ay, ny, cy, rfl, b6⟩
  have b36 := Lib.hid (HXq.out.below.trans (b6.mono HXq.out.below.size))
  have BS6 := Lib.hid (HSV.out _ b36.out)
  have BP6 := Lib.hid (HPV.out _ b36.out)
  have T6 := Lib.hid (HTI.out _ b36.out)
  have hb6 := Lib.hid (hb2.out.trans (Below.mono b36.out hb2.out.size))
  clear CSy HXq b6
  have CS := BS6.out.cell
  have LS := BS6.out.lt
  go_upto_region 13 with fail
  have BS6b := Lib.hid ((BS6.out.alloc (.cells #[.int .i64 wn, .bool cl, .string r1, .string r2, .int .u64 (sq : Nat), .slice Ay ny cy] 64)).alloc (.cells #[.int .i64 win, .bool closed, .string s1, .string s2, .int .u64 (seen : Nat), .slice sa sn sc] 59))
  have BP6b := Lib.hid ((BP6.out.alloc (.cells #[.int .i64 wn, .bool cl, .string r1, .string r2, .int .u64 (sq : Nat), .slice Ay ny cy] 64)).alloc (.cells #[.int .i64 win, .bool closed, .string s1, .string s2, .int .u64 (seen : Nat), .slice sa sn sc] 59))
  have BY6b := Lib.hid ((Blk.new w6 64 #[.int .i64 wn, .bool cl, .string r1, .string r2, .int .u64 (sq : Nat), .slice Ay ny cy]).alloc (.cells #[.int .i64 win, .bool closed, .string s1, .string s2, .int .u64 (seen : Nat), .slice sa sn sc] 59))
  have BR6b := Lib.hid (Blk.newAt (w := w6.alloc (.cells #[.int .i64 wn, .bool cl, .string r1, .string r2, .int .u64 (sq : Nat), .slice Ay ny cy] 64)) (g := w6.heap.size + 1) (t := 59) (cs := #[.int .i64 win, .bool closed, .string s1, .string s2, .int .u64 (seen : Nat), .slice sa sn sc]) (by simp))
  have T6b := Lib.hid (T6.out.step (balloc (balloc (Below.refl _ _) (.cells #[.int .i64 wn, .bool cl, .string r1, .string r2, .int .u64 (sq : Nat), .slice Ay ny cy] 64)) (.cells #[.int .i64 win, .bool closed, .string s1, .string s2, .int .u64 (seen : Nat), .slice sa sn sc] 59)))
  have hb6b := Lib.hid (balloc (balloc hb6.out (.cells #[.int .i64 wn, .bool cl, .string r1, .string r2, .int .u64 (sq : Nat), .slice Ay ny cy] 64)) (.cells #[.int .i64 win, .bool closed, .string s1, .string s2, .int .u64 (seen : Nat), .slice sa sn sc] 59))
  have hlr : Hid (w6.heap.size + 1 ≠ w.heap.size + 1) := Lib.hid (by omega)
  clear CS LS BS6 BP6 T6 hb6 b36 HPV HSV HTI BP BS2 HI2
  generalize ((w6.alloc (.cells #[.int .i64 wn, .bool cl, .string r1, .string r2, .int .u64 (sq : Nat), .slice Ay ny cy] 64)).alloc (.cells #[.int .i64 win, .bool closed, .string s1, .string s2, .int .u64 (seen : Nat), .slice sa sn sc] 59)) = w6b at *
  generalize w6.heap.size + 1 = gr at *
  generalize w6.heap.size = gy at *
  have CS := BS6b.out.cell
  have LS := BS6b.out.lt
  have FS := BS6b.out.frozen
  have CY := BY6b.out.cell
  have LY := BY6b.out.lt
  have G6 := set6_grown w6b (w.heap.size + 1) (.int .i64 wn) (.bool cl) (.string r1) (.string r2) (.int .u64 (sq : Nat)) (.slice none 0 0)
  have BS7 := Lib.hid (BS6b.out.set6 (.int .i64 wn) (.bool cl) (.string r1) (.string r2) (.int .u64 (sq : Nat)) (.slice none 0 0))
  have BP7 := Lib.hid (Blk.grown G6 BP6b.out (by intro e; injection e with e; exact (BP6b.out.ne_ BS6b.out (by decide)) e))
  have BR7 := Lib.hid (Blk.grown G6 BR6b.out (by intro e; injection e with e; exact hlr.out e))
  have T7 := Lib.hid (T6b.out.grown G6 (by omega) hgs2.out)
  have hb7 := Lib.hid (bgrown hb6b.out G6 (fun k hk => by injection hk with hk; omega))
  clear G6
  go_upto_region 14 with fail
  change Code.wp _ _ _ _ (set6 w6b (w.heap.size + 1) (.int .i64 wn) (.bool cl) (.string r1) (.string r2) (.int .u64 (sq : Nat)) (.slice none 0 0))
  clear CS LS FS CY LY BS6b BP6b BR6b T6b hb6b BY6b
  generalize (set6 w6b (w.heap.size + 1) (.int .i64 wn) (.bool cl) (.string r1) (.string r2) (.int .u64 (sq : Nat)) (.slice none 0 0)) = w7 at *
  have CP := BP7.out.cell
  have LP := BP7.out.lt
  have CNW := Lib.hid (new_call w7 P A nP cP ts' 4 w7 (Below.refl _ _) T7.out.ints T7.out.le HRR.out (by omega) (by omega))
  unfold polV at CNW
  have HNB := Lib.hid (newQ_back (right_ok HRR.out) 4)
  obtain ⟨q0', hq0'⟩ : ∃ q0', newQ P 4 = q0' := ⟨_, rfl⟩
  rw [hq0'] at CNW HNB
  clear hq0'
  go_wp2_with fail
  refine CNW.out.mono ?_
  clear CNW
  rintro e w8 ⟨gt, rfl, hQ8⟩
  have HQ8 := Lib.hid hQ8
  clear hQ8 CP LP
  have HTab7 := Lib.hid (HT.out.step hb7.out)
  go_upto_block 2 with fail
  go_cut [19] from 96 (fun i wx => ∃ q, QQ w7 gt q wx ∧ BackQ q)
  case first =>
    go_wp2_with fail
    go_loopw [19] (fun i wr => ∃ (j : Nat) (q : QS), j ≤ n2 ∧ j ≤ 40 ∧ i = .int .i64 j ∧ QQ w7 gt q wr ∧ BackQ q) (fun i _ => n2 - (intOf i).toNat)
    case atStart => exact ⟨0, q0', Nat.zero_le _, Nat.zero_le _, rfl, HQ8.out, HNB.out⟩
    case round =>
      obtain ⟨j, q, hjn, hj2, rfl, hQ, hBQ⟩ := hrel
      have HBQ := Lib.hid hBQ
      clear hBQ
      by_cases hc : j < n2 ∧ j < 40
      · obtain ⟨b, off, rfl, hb, hcell⟩ := HY.out.at_ (by omega)
        have hbelow := hb7.out.trans (hQ.below.mono hb7.out.size)
        have HV : Hid (∀ V, Below w7.heap.size w7 V → V.cell? ⟨b, off + j, none⟩ = some (.int .u8 (ys.getD j 0))) := Lib.hid (fun V hV => ((hb7.out.trans (hV.mono hb7.out.size)).cell (p := ⟨b, off + j, none⟩) hb).trans (hcell j hc.1))
        have hbr : b < wr.heap.size := Nat.lt_of_lt_of_le hb hbelow.size
        have hvw := HY.out.wf (ys.getD j 0) (by rw [List.getD_eq_getElem?_getD, List.getElem?_eq_getElem (by rw [HY.out.len]; exact hc.1)]; exact List.getElem_mem _)
        have hv : 0 ≤ ys.getD j 0 ∧ ys.getD j 0 ≤ 255 := bounds_u8 hvw
        clear hvw hcell
        have e1 : (j : Int) < n2 := by omega
        have e3 : (j : Int) < 40 := by omega
        generalize ys.getD j 0 = v at *
        obtain ⟨lu, hu, hu2⟩ : ∃ u : Nat, v % 9 = (u : Int) ∧ u < 9 := ⟨(v % 9).toNat, by omega, by omega⟩
        have hu3 : v.tmod 9 = (lu : Int) := by rw [Int.tmod_eq_emod_of_nonneg hv.1]; exact hu
        have hu4 : IntKind.u8.wrap (97 + (lu : Int)) = 97 + (lu : Int) := by simp [IntKind.wrap, IntKind.bits, IntKind.signed]; omega
        have hu5 : (lu : Int) < 9 := by omega
        obtain ⟨r2, hr2, hr2b⟩ : ∃ r : Int, v % 2 = r ∧ (0 ≤ r ∧ r ≤ 1) := ⟨_, rfl, by omega⟩
        have hr2c : v.tmod 2 = r2 := by rw [Int.tmod_eq_emod_of_nonneg hv.1]; exact hr2
        obtain ⟨r3, hr3, hr3b⟩ : ∃ r : Int, v % 3 = r ∧ (0 ≤ r ∧ r ≤ 2) := ⟨_, rfl, by omega⟩
        have hr3c : v.tmod 3 = r3 := by rw [Int.tmod_eq_emod_of_nonneg hv.1]; exact hr3
        have dv := HV.out wr hQ.below
        have CA : Hid (∀ V, QQ w7 gt q V → Calls Tryz.prog 22 #[.pointer (some ⟨gt, 0, none⟩), .string (strOfNums [v]), .string (strOfNums [97 + (lu : Int)]), .bool (r2 == 0), .bool (r3 == 0)] V fun e w' => (∃ E, e = .returned (.int .i64 E)) ∧ ∃ q', QQ w7 gt q' w' ∧ BackQ q') := Lib.hid (fun V h => by
          refine (q_admit HTab7.out (strOfNums [v]) (strOfNums [97 + (lu : Int)]) (r2 == 0) (r3 == 0) (by rw [str1_sizeZ]; omega) (by rw [str1_sizeZ]; omega) h).mono ?_
          rintro e w' ⟨rfl, h'⟩
          exact ⟨⟨_, rfl⟩, _, h', back_admit HBQ.out h.facts.2.2.2.2 _ _ _ _⟩)
        go_upto_region 20 with fail
        have F1 := conv_letZ ((Blk.new wr 5 #[.int .u8 v]).drew)
        have F2 := conv_letZ ((Blk.new wr 5 #[.int .u8 (97 + (lu : Int))]).drew)
        have F3 := conv_letZ (((Blk.new wr 5 #[.int .u8 v]).alloc (.cells #[.int .u8 (97 + (lu : Int))] 5)).drew)
        have F4 := conv_letZ ((Blk.newAt (w := wr.alloc (.cells #[.int .u8 v] 5)) (g := wr.heap.size + 1) (t := 5) (cs := #[.int .u8 (97 + (lu : Int))]) (by simp)).drew)
        have F5 := conv_letZ (((Blk.new wr 5 #[.int .u8 (97 + (lu : Int))]).alloc (.cells #[.int .u8 v] 5)).drew)
        have F6 := conv_letZ ((Blk.newAt (w := wr.alloc (.cells #[.int .u8 (97 + (lu : Int))] 5)) (g := wr.heap.size + 1) (t := 5) (cs := #[.int .u8 v]) (by simp)).drew)
        have HQ := Lib.hid hQ
        clear hQ hbelow hc
        go_region_held_law (fun w' => w'.cell? ⟨b, off + j, none⟩ = some (.int .u8 v)) (first | (with_reducible exact HV.out _ h6.below) | exact HV.out _ (HQ.out.step (bdrew (Below.refl _ _))).below | exact HV.out _ (HQ.out.step (bdrew (balloc (Below.refl _ _) _))).below | exact HV.out _ (HQ.out.step (bdrew (balloc (balloc (Below.refl _ _) _) _))).below)
          (first
            | (go_at_call 22; ((refine (CA.out _ (HQ.out.step (bdrew (balloc (balloc (Below.refl _ _) _) _)))).mono ?_); rintro eA wA ⟨⟨E, rfl⟩, q', h6, hb6⟩)))
        all_goals
          have H6 := Lib.hid (And.intro h6 hb6)
          clear h6 hb6 HQ
          go_wp2_with fail
          exact ⟨⟨j + 1, q', by omega, by omega, by go_num, H6.out.1, H6.out.2⟩, by simp [intOf]; omega⟩
      · have hend : (¬ (j : Int) < n2) ∨ ((j : Int) < n2 ∧ ¬ (j : Int) < 40) := by omega
        clear hc
        have HQ := Lib.hid hQ
        clear hQ
        rcases hend with d1 | ⟨d1, d2⟩
        all_goals
          go_wp2_with fail
          go_meet
          exact ⟨q, HQ.out, HBQ.out⟩
  case rest =>
  obtain ⟨q', hQ', hBK⟩ := hcut
  have HQ9 := Lib.hid hQ'
  have HBK := Lib.hid hBK
  clear hQ' hBK HQ8 HNB HTab7
  have CS2 : Hid (∀ V, QQ w7 gt q' V → Calls Tryz.prog 16 #[.pointer (some ⟨gt, 0, none⟩)] V fun e w' => ∃ (wn2 : Int) (cl2 : Bool) (x1 x2 : ByteArray) (sn2 : Nat) (tA : Option Addr) (tm tk bs : Nat) (s : List It), e = .returned (.agg #[.int .i64 wn2, .bool cl2, .string x1, .string x2, .int .u64 (sn2 : Nat), .slice tA tm tk]) ∧ Its w' bs tA tm tk s ∧ tm ≤ 16 ∧ tm ≤ tk ∧ Bd s ∧ Below V.heap.size V w') := Lib.hid (fun V h => by
    refine (q_state h).mono ?_
    rintro e w' ⟨tA, tm, tk, bs, s, rfl, hT', hI', hb'⟩
    have h1 := hI'.len
    have h2 := hT'.len
    have h3 := h.tmr.2
    have h4 : tm ≤ tk := by
      rcases Nat.eq_zero_or_pos tm with h5 | h5
      · omega
      · obtain ⟨_, _, _, _, h6, _⟩ := hI'.row h5; exact h6
    exact ⟨_, _, _, _, _, tA, tm, tk, bs, s, rfl, hI', by omega, h4, told_bd HBK.out hT' h.bd, hb'⟩)
  go_wp2_with fail
  refine (CS2.out _ HQ9.out).mono ?_
  rintro e w9 ⟨wn2, cl2, x1, x2, sn2, tA, tm, tk, bs, s, rfl, I9, t16, ttk, tbd, b9⟩
  have b79 := Lib.hid (HQ9.out.below.trans (b9.mono HQ9.out.below.size))
  have BS9 := Lib.hid (Blk.step b79.out BS7.out)
  have BP9 := Lib.hid (Blk.step b79.out BP7.out)
  have BR9 := Lib.hid (Blk.step b79.out BR7.out)
  have T9 := Lib.hid (T7.out.step b79.out)
  have hb9 := Lib.hid (hb7.out.trans (Below.mono b79.out hb7.out.size))
  have HTBD := Lib.hid tbd
  clear CS2 HQ9 HBK b9 b79 BS7 BP7 BR7 T7 hb7 tbd
  have CS := BS9.out.cell
  have LS := BS9.out.lt
  have FS := BS9.out.frozen
  have G9 : w9.grownBy (w9.setCell ⟨w.heap.size + 1, 5, none⟩ (.slice tA tm tk)) (some (w.heap.size + 1)) := only_set _ _ _ _
  have BS10 := Lib.hid (BS9.out.put 5 (.slice tA tm tk))
  have BP10 := Lib.hid (Blk.grown G9 BP9.out (by intro e; injection e with e; exact (BP9.out.ne_ BS9.out (by decide)) e))
  have BR10 := Lib.hid (Blk.grown G9 BR9.out (by intro e; injection e with e; exact hlr.out e))
  have T10 := Lib.hid (T9.out.grown G9 (by omega) hgs2.out)
  have I10 : Hid (Its (w9.setCell ⟨w.heap.size + 1, 5, none⟩ (.slice tA tm tk)) bs tA tm tk s) := Lib.hid ⟨I9.own.kept G9 (.inr (fun e => I9.far BS9.out (by decide) e.symm))⟩
  have hb10 := Lib.hid (bgrown hb9.out G9 (fun k hk => by injection hk with hk; omega))
  clear G9 I9
  go_upto_region 22 with fail
  clear CS LS FS BS9 BP9 BR9 T9 hb9
  generalize (w9.setCell ⟨w.heap.size + 1, 5, none⟩ (.slice tA tm tk)) = w10 at *
  obtain ⟨hm, hh, hh2⟩ : ∃ hm : Int, how % 8 = hm ∧ (0 ≤ hm ∧ hm < 8) := ⟨_, rfl, by omega⟩
  have hh3 : how.tmod 8 = hm := by rw [Int.tmod_eq_emod_of_nonneg hhow.1]; exact hh
  clear hh
  go_upto_block 4 with fail
  have MK : Hid (∀ i v, Blk (w10.setCell ⟨w.heap.size + 1, i, none⟩ v) (w.heap.size + 1) 59 ((#[.int .i64 wn, .bool cl, .string r1, .string r2, .int .u64 (sq : Nat), .slice tA tm tk] : Array Value).setIfInBounds i v) ∧ Blk (w10.setCell ⟨w.heap.size + 1, i, none⟩ v) gp 24 #[.int .i64 P.slots, .int .i64 P.low, .int .i64 P.high, .int .i64 P.top, .int .i64 P.sketch, .int .i64 P.fine, .int .i64 P.idle, .int .i64 P.window, .int .i64 P.late, .int .i64 P.future, .slice A nP cP] ∧ Tiers w.heap.size w1.heap.size (w10.setCell ⟨w.heap.size + 1, i, none⟩ v) A nP ts' ∧ ItRow (w10.setCell ⟨w.heap.size + 1, i, none⟩ v) tA tm s ∧ Below w.heap.size w (w10.setCell ⟨w.heap.size + 1, i, none⟩ v)) := Lib.hid (fun i v => by
    have G : w10.grownBy (w10.setCell ⟨w.heap.size + 1, i, none⟩ v) (some (w.heap.size + 1)) := only_set _ _ _ _
    have I11 : Its (w10.setCell ⟨w.heap.size + 1, i, none⟩ v) bs tA tm tk s := ⟨I10.out.own.kept G (.inr (fun e => I10.out.far BS10.out (by decide) e.symm))⟩
    exact ⟨BS10.out.put i v, Blk.grown G BP10.out (by intro e; injection e with e; exact (BP10.out.ne_ BS10.out (by decide)) e), T10.out.grown G (by omega) hgs2.out, I11.itRow, bgrown hb10.out G (fun k hk => by injection hk with hk; omega)⟩)
  have hz1' := hz1.out
  have hz2' := hz2.out
  have hzs' := hzs.out
  have hzw' := hzw.out
  go_cut [140] from 140 (fun x wx => ∃ (zw : Int) (zc : Bool) (z1 z2 : ByteArray) (zs : Nat) (zA : Option Addr) (zn zk : Nat) (zl : List It), Blk wx (w.heap.size + 1) 59 #[.int .i64 zw, .bool zc, .string z1, .string z2, .int .u64 (zs : Nat), .slice zA zn zk] ∧ Blk wx gp 24 #[.int .i64 P.slots, .int .i64 P.low, .int .i64 P.high, .int .i64 P.top, .int .i64 P.sketch, .int .i64 P.fine, .int .i64 P.idle, .int .i64 P.window, .int .i64 P.late, .int .i64 P.future, .slice A nP cP] ∧ Tiers w.heap.size w1.heap.size wx A nP ts' ∧ ItRow wx zA zn zl ∧ zn ≤ zk ∧ zn ≤ 4398046511103 ∧ Bd zl ∧ zw ≤ 9223372036854775807 ∧ z1.size ≤ 9223372036854775807 ∧ z2.size ≤ 9223372036854775807 ∧ zs < 18446744073709551616 ∧ Below w.heap.size w wx)
  case first =>
    have CS := BS10.out.cell
    have LS := BS10.out.lt
    have FS := BS10.out.frozen
    have CR := BR10.out.cell
    have LR := BR10.out.lt
    have hsw : IntKind.u64.wrap ((sq : Int) + 1) = ((sq + 1 : Nat) : Int) := by simp [IntKind.wrap, IntKind.bits, IntKind.signed]; omega
    rcases (show hm = 0 ∨ hm = 1 ∨ hm = 2 ∨ hm = 3 ∨ hm = 4 ∨ hm = 5 ∨ hm = 6 ∨ hm = 7 by omega) with rfl | rfl | rfl | rfl | rfl | rfl | rfl | rfl
    · go_wp2_with fail
      go_meet
      exact ⟨wn, cl, r1, r2, sq, tA, tm, tk, s, BS10.out, BP10.out, T10.out, I10.out.itRow, ttk, by omega, HTBD.out, by omega, by omega, by omega, by omega, hb10.out⟩
    · go_wp2_with fail
      go_meet
      obtain ⟨m1, m2, m3, m4, m5⟩ := MK.out 0 (.int .i64 win)
      exact ⟨win, cl, r1, r2, sq, tA, tm, tk, s, m1, m2, m3, m4, ttk, by omega, HTBD.out, by omega, by omega, by omega, by omega, m5⟩
    · go_wp2_with fail
      go_meet
      obtain ⟨m1, m2, m3, m4, m5⟩ := MK.out 2 (.string s1)
      exact ⟨wn, cl, s1, r2, sq, tA, tm, tk, s, m1, m2, m3, m4, ttk, by omega, HTBD.out, by omega, by omega, by omega, by omega, m5⟩
    · go_wp2_with fail
      go_meet
      obtain ⟨m1, m2, m3, m4, m5⟩ := MK.out 3 (.string (r2 ++ (⟨#[120]⟩ : ByteArray)))
      exact ⟨wn, cl, r1, r2 ++ (⟨#[120]⟩ : ByteArray), sq, tA, tm, tk, s, m1, m2, m3, m4, ttk, by omega, HTBD.out, by omega, by omega, by rw [ByteArray.size_append]; show r2.size + 1 ≤ _; omega, by omega, m5⟩
    · go_wp2_with fail
      go_meet
      obtain ⟨m1, m2, m3, m4, m5⟩ := MK.out 4 (.int .u64 ((sq + 1 : Nat) : Int))
      exact ⟨wn, cl, r1, r2, sq + 1, tA, tm, tk, s, m1, m2, m3, m4, ttk, by omega, HTBD.out, by omega, by omega, by omega, by omega, m5⟩
    · go_wp2_with fail
      go_meet
      obtain ⟨m1, m2, m3, m4, m5⟩ := MK.out 5 (.slice sa sn sc)
      exact ⟨wn, cl, r1, r2, sq, sa, sn, sc, sl, m1, m2, m3, HSL.out.step m5, hsc, hsm, HSB.out, by omega, by omega, by omega, by omega, m5⟩
    · go_wp2_with fail
      go_meet
      obtain ⟨m1, m2, m3, m4, m5⟩ := MK.out 1 (.bool (!cl))
      exact ⟨wn, !cl, r1, r2, sq, tA, tm, tk, s, m1, m2, m3, m4, ttk, by omega, HTBD.out, by omega, by omega, by omega, by omega, m5⟩
    · go_wp2_with fail
      go_meet
      exact ⟨wn, cl, r1, r2, sq, tA, tm, tk, s, BS10.out, BP10.out, T10.out, I10.out.itRow, ttk, by omega, HTBD.out, by omega, by omega, by omega, by omega, hb10.out⟩
  case rest =>
  clear MK BS10 BP10 BR10 T10 I10 hb10 HTBD hz1 hz2 hzs hzw hz1' hz2' hzs' hzw' hh2 hh3
  obtain ⟨zw, zc, z1, z2, zs, zA, zn, zk, zl, xS, xP, xT, xR, x1, x2, xB, x3, x4, x5, x6, xb⟩ := hcut
  have BSz := Lib.hid xS
  have BPz := Lib.hid xP
  have HTz := Lib.hid xT
  have HRz := Lib.hid xR
  have HBz := Lib.hid xB
  have bz := Lib.hid xb
  clear xS xP xT xR xB xb
  have CP := BPz.out.cell
  have LP := BPz.out.lt
  have CS := BSz.out.cell
  have LS := BSz.out.lt
  have HRS : Hid (∀ V, Below wc.heap.size wc V → Calls Tryz.prog 25 #[.agg #[.int .i64 zw, .bool zc, .string z1, .string z2, .int .u64 (zs : Nat), .slice zA zn zk]] V fun e w' => (∃ A8 c8, e = .returned (.agg #[.int .i64 zw, .bool zc, .string z1, .string z2, .int .u64 (zs : Nat), .slice A8 zn c8]) ∧ RIts w' (V.heap.size + 3) A8 zn c8 zl) ∧ Below V.heap.size V w') := Lib.hid (fun V hV => refState_call zw zc z1 z2 (zs : Nat) zA zn zk zl V (HRz.out.step hV) x2)
  have CO := of_q wc P A nP cP ts' zw zc z1 z2 zs zA zn zk zl wc (Below.refl _ _) HTz.out.ints HTz.out.le HRR.out x3 x4 x5 x6 HRz.out x1 x2 HBz.out
  unfold polV stV at CO
  have HRO : Hid (∀ V A8 c8 B8, Below wc.heap.size wc V → RIts V B8 A8 zn c8 zl → Calls Tryz.prog 17 #[(.agg #[.int .i64 P.slots, .int .i64 P.low, .int .i64 P.high, .int .i64 P.top, .int .i64 P.sketch, .int .i64 P.fine, .int .i64 P.idle, .int .i64 P.window, .int .i64 P.late, .int .i64 P.future, .slice A nP cP]), .agg #[.int .i64 zw, .bool zc, .string z1, .string z2, .int .u64 (zs : Nat), .slice A8 zn c8]] V (ROfQPost wc P zw zc z1 z2 zs zl V)) := Lib.hid (fun V A8 c8 B8 hV I8 => rof_q wc P A nP cP ts' zw zc z1 z2 zs A8 zn c8 zl V hV (HTz.out.ints.step hV) HTz.out.le HRR.out x3 x4 x5 x6 I8.itRow (rits_le I8) x2 HBz.out)
  obtain ⟨qo, hqo⟩ : ∃ qo, (ofQ P zw zc z1 z2 zs zl) = qo := ⟨_, rfl⟩
  have HCO : Hid (Calls Tryz.prog 15 #[(.agg #[.int .i64 P.slots, .int .i64 P.low, .int .i64 P.high, .int .i64 P.top, .int .i64 P.sketch, .int .i64 P.fine, .int .i64 P.idle, .int .i64 P.window, .int .i64 P.late, .int .i64 P.future, .slice A nP cP]), .agg #[.int .i64 zw, .bool zc, .string z1, .string z2, .int .u64 (zs : Nat), .slice zA zn zk]] wc fun e w' => Below wc.heap.size wc w' ∧ (((OkQ P zw z1 z2 zs zl) ∧ ∃ g, e = .returned (.tuple #[.pointer (some ⟨g, 0, none⟩), .int .i64 0]) ∧ QQ wc g qo w') ∨ (¬ (OkQ P zw z1 z2 zs zl) ∧ e = .returned (.tuple #[.pointer none, .int .i64 2])))) := Lib.hid (by rw [← hqo]; exact CO)
  have HRO1 : Hid ((OkQ P zw z1 z2 zs zl) → ∀ V A8 c8 B8, Below wc.heap.size wc V → RIts V B8 A8 zn c8 zl → Calls Tryz.prog 17 #[(.agg #[.int .i64 P.slots, .int .i64 P.low, .int .i64 P.high, .int .i64 P.top, .int .i64 P.sketch, .int .i64 P.fine, .int .i64 P.idle, .int .i64 P.window, .int .i64 P.late, .int .i64 P.future, .slice A nP cP]), .agg #[.int .i64 zw, .bool zc, .string z1, .string z2, .int .u64 (zs : Nat), .slice A8 zn c8]] V fun e w' => Below V.heap.size V w' ∧ ∃ g, e = .returned (.tuple #[.pointer (some ⟨g, 0, none⟩), .int .i64 0]) ∧ RX wc g qo w') := Lib.hid (fun hok V A8 c8 B8 hV I8 => (HRO.out V A8 c8 B8 hV I8).mono (fun e w' h => ⟨h.1, by rcases h.2 with ⟨_, h2⟩ | ⟨h2, _⟩; exact (by rw [← hqo]; exact h2); exact absurd hok h2⟩))
  have HRO2 : Hid (¬ (OkQ P zw z1 z2 zs zl) → ∀ V A8 c8 B8, Below wc.heap.size wc V → RIts V B8 A8 zn c8 zl → Calls Tryz.prog 17 #[(.agg #[.int .i64 P.slots, .int .i64 P.low, .int .i64 P.high, .int .i64 P.top, .int .i64 P.sketch, .int .i64 P.fine, .int .i64 P.idle, .int .i64 P.window, .int .i64 P.late, .int .i64 P.future, .slice A nP cP]), .agg #[.int .i64 zw, .bool zc, .string z1, .string z2, .int .u64 (zs : Nat), .slice A8 zn c8]] V fun e w' => e = .returned (.tuple #[.pointer none, .int .i64 2]) ∧ Below V.heap.size V w') := Lib.hid (fun hno V A8 c8 B8 hV I8 => (HRO.out V A8 c8 B8 hV I8).mono (fun e w' h => ⟨by rcases h.2 with ⟨h2, _⟩ | ⟨_, h2⟩; exact absurd h2 hno; exact h2, h.1⟩))
  clear CO HRO hqo
  generalize (OkQ P zw z1 z2 zs zl) = OKQ at *
  go_wp2_with fail
  refine HCO.out.mono ?_
  clear HCO
  rintro e w6 ⟨b6, ⟨hok, gq, rfl, Q6⟩ | ⟨hno, rfl⟩⟩
  · have HOK := Lib.hid (HRO1.out hok)
    clear hok HRO1 HRO2
    have HQ6 := Lib.hid Q6
    clear Q6
    have BPd := Blk.step b6 BPz.out
    have BSd := Blk.step b6 BSz.out
    have bd := b6
    have b6d := Below.refl w6.heap.size w6
    clear CP LP CS LS b6
    go_upto_region 36 with fail
    replace BPd := BPd.drew
    replace BSd := BSd.drew
    replace bd := bdrew bd
    replace b6d := bdrew b6d
    have LP := BPd.lt
    have LS := BSd.lt
    go_region_held3 (fun (w' : World) => (∀ i, w'.cell? ⟨gp, i, none⟩ = (#[.int .i64 P.slots, .int .i64 P.low, .int .i64 P.high, .int .i64 P.top, .int .i64 P.sketch, .int .i64 P.fine, .int .i64 P.idle, .int .i64 P.window, .int .i64 P.late, .int .i64 P.future, .slice A nP cP] : Array Value)[i]?) ∧ (∀ i, w'.cell? ⟨w.heap.size + 1, i, none⟩ = (#[.int .i64 zw, .bool zc, .string z1, .string z2, .int .u64 (zs : Nat), .slice zA zn zk] : Array Value)[i]?)) (exact ⟨BPd.cell, BSd.cell⟩)
      (first
        | (go_at_call 9; ((with_reducible refine (HRP.out _).mono ?_); rintro eA wA ⟨rfl, bA⟩; have P2 := Blk.step bA BPd; have S2 := Blk.step bA BSd; have d2 := bstep bA bd; have e2 := bstep bA b6d; clear BPd BSd bd b6d; have BPd := P2; have BSd := S2; have bd := d2; have b6d := e2; clear P2 S2 d2 e2; clear bA))
        | (go_at_call 25; ((with_reducible refine (HRS.out _ bd).mono ?_); rintro eB wB ⟨⟨A8, c8, rfl, IS8⟩, bB⟩; have P2 := Blk.step bB BPd; have S2 := Blk.step bB BSd; have d2 := bstep bB bd; have e2 := bstep bB b6d; clear BPd BSd bd b6d; have BPd := P2; have BSd := S2; have bd := d2; have b6d := e2; clear P2 S2 d2 e2; clear bB))
        | (go_at_call 17; ((with_reducible refine (HOK.out _ _ _ _ bd IS8).mono ?_); rintro eC wC ⟨bC, gz, rfl, XC⟩; have P2 := Blk.step bC BPd; have S2 := Blk.step bC BSd; have d2 := bstep bC bd; have e2 := bstep bC b6d; clear BPd BSd bd b6d; have BPd := P2; have BSd := S2; have bd := d2; have b6d := e2; clear P2 S2 d2 e2; clear bC)))
    have HQC := Lib.hid (HQ6.out.step b6d)
    have HXC := Lib.hid XC
    have hbd := Lib.hid (bz.out.trans (bd.mono bz.out.size))
    clear XC bd b6d BPd BSd
    go_wp2_with fail
    refine (q_state HQC.out).mono ?_
    rintro e w8 ⟨y1, m1, k1, d1, t1, rfl, T1, I1, b8⟩
    have HT1 := Lib.hid T1
    have HI1 := Lib.hid I1
    have HX8 := Lib.hid (HXC.out.step b8)
    have HQ8 := Lib.hid (HQC.out.step b8)
    clear T1 I1
    go_wp2_with fail
    refine (rx_state HX8.out).mono ?_
    rintro e w9 ⟨y2, m2, k2, d2, t2, rfl, T2, m16, I2, b9⟩
    have CSM := Lib.hid (same_both (V3 := w9) (HQ8.out.step b9) HT1.out T2 HI1.out I2 b9 (Below.refl _ _))
    have HQ9 := Lib.hid (HQ8.out.step b9)
    have HX9 := Lib.hid (HX8.out.step b9)
    have hb9 := Lib.hid (bstep b9 b8)
    clear T2 I2 b9 b8 m16 HX8 HQ8 HT1 HI1 HXC HQC
    go_wp2_with fail
    refine CSM.out.mono ?_
    clear CSM
    rintro e w10 ⟨rfl, b10⟩
    have HQ10 := Lib.hid (HQ9.out.step b10)
    have HX10 := Lib.hid (HX9.out.step b10)
    have hb10 := Lib.hid (bstep b10 hb9.out)
    clear HQ9 HX9 hb9 b10
    go_wp2_with fail
    refine (q_many HQ10.out).mono ?_
    rintro e w11 ⟨rfl, b11⟩
    have HX11 := Lib.hid (HX10.out.step b11)
    have hb11 := Lib.hid (bstep b11 hb10.out)
    clear HQ10 HX10 hb10 b11
    generalize hmq : manyQ qo = MQ at *
    have CMQ : Hid (∀ V, RX wc gz qo V → Calls Tryz.prog 21 #[.pointer (some ⟨gz, 0, none⟩)] V fun e w' => e = .returned (.int .u64 MQ) ∧ Below V.heap.size V w') := Lib.hid (fun V hV => by rw [← hmq]; exact rx_many hV)
    clear hmq
    go_wp2_with fail
    refine (CMQ.out _ HX11.out).mono ?_
    rintro e w12 ⟨rfl, b12⟩
    have hb12 := Lib.hid (bstep b12 hb11.out)
    clear HX11 hb11 b12
    have hmm : (MQ == MQ) = true := by simp
    go_wp2_with fail
    go_ret
    exact ⟨rfl, hbd.out.trans (hb12.out.mono hbd.out.size)⟩
  · have HOK := Lib.hid (HRO2.out hno)
    clear hno HRO1 HRO2
    have BPd := Blk.step b6 BPz.out
    have BSd := Blk.step b6 BSz.out
    have bd := b6
    have b6d := Below.refl w6.heap.size w6
    clear CP LP CS LS b6
    go_upto_region 36 with fail
    replace BPd := BPd.drew
    replace BSd := BSd.drew
    replace bd := bdrew bd
    replace b6d := bdrew b6d
    have LP := BPd.lt
    have LS := BSd.lt
    go_region_held3 (fun (w' : World) => (∀ i, w'.cell? ⟨gp, i, none⟩ = (#[.int .i64 P.slots, .int .i64 P.low, .int .i64 P.high, .int .i64 P.top, .int .i64 P.sketch, .int .i64 P.fine, .int .i64 P.idle, .int .i64 P.window, .int .i64 P.late, .int .i64 P.future, .slice A nP cP] : Array Value)[i]?) ∧ (∀ i, w'.cell? ⟨w.heap.size + 1, i, none⟩ = (#[.int .i64 zw, .bool zc, .string z1, .string z2, .int .u64 (zs : Nat), .slice zA zn zk] : Array Value)[i]?)) (exact ⟨BPd.cell, BSd.cell⟩)
      (first
        | (go_at_call 9; ((with_reducible refine (HRP.out _).mono ?_); rintro eA wA ⟨rfl, bA⟩; have P2 := Blk.step bA BPd; have S2 := Blk.step bA BSd; have d2 := bstep bA bd; have e2 := bstep bA b6d; clear BPd BSd bd b6d; have BPd := P2; have BSd := S2; have bd := d2; have b6d := e2; clear P2 S2 d2 e2; clear bA))
        | (go_at_call 25; ((with_reducible refine (HRS.out _ bd).mono ?_); rintro eB wB ⟨⟨A8, c8, rfl, IS8⟩, bB⟩; have P2 := Blk.step bB BPd; have S2 := Blk.step bB BSd; have d2 := bstep bB bd; have e2 := bstep bB b6d; clear BPd BSd bd b6d; have BPd := P2; have BSd := S2; have bd := d2; have b6d := e2; clear P2 S2 d2 e2; clear bB))
        | (go_at_call 17; ((with_reducible refine (HOK.out _ _ _ _ bd IS8).mono ?_); rintro eC wC ⟨rfl, bC⟩; have P2 := Blk.step bC BPd; have S2 := Blk.step bC BSd; have d2 := bstep bC bd; have e2 := bstep bC b6d; clear BPd BSd bd b6d; have BPd := P2; have BSd := S2; have bd := d2; have b6d := e2; clear P2 S2 d2 e2; clear bC)))
    go_wp2_with fail
    go_ret
    exact ⟨rfl, bz.out.trans (bd.mono bz.out.size)⟩
theorem quotaOf_walk (p : PolN) (ta : Option Addr) (tn tc : Nat) (ts : List Int) (own0 : Bool) (a : Option Addr) (n c : Nat) (xs : List Int) (win : Int) (closed : Bool) (s1 s2 : ByteArray) (seen : Nat) (sa : Option Addr) (sn sc : Nat) (sl : List It) (own : Bool) (how : Int) (a2 : Option Addr) (n2 c2 : Nat) (ys : List Int) (w : World)
    (hT : Tab w) (ht : Ints .i64 w ta tn ts) (htn : tn ≤ 9223372036854775807) (hx : Ints .u16 w a n xs) (hn : n ≤ 9223372036854775807) (hwin : win ≤ 9223372036854775807) (hs1 : s1.size ≤ 9223372036854775807) (hs2 : s2.size ≤ 9223372036854775807) (hsn : seen < 18446744073709551616) (hsl : ItRow w sa sn sl) (hsc : sn ≤ sc) (hsm : sn ≤ 4398046511103) (hsb : Bd sl) (hhow : 0 ≤ how ∧ how ≤ 255) (hy : Ints .u8 w a2 n2 ys) (hyl : n2 ≤ 140737488351232) :
    Calls Tryz.prog 4 #[wishV p ta tn tc own0 a n c, stV win closed s1 s2 seen sa sn sc, .bool own, .int .u8 how, .slice a2 n2 c2] w fun e w' => e = .returned (.bool true) ∧ Below w.heap.size w w' := by
  have hWI := fun V (hb : Below w.heap.size w V) => wish_any w p ta tn tc ts own0 a n c xs V hb ht htn hx hn
  cases hR : rightP (wP own0 p xs) (wT own0 ts xs)
  · exact quotaOf_bad _ _ p ta tn tc own0 a n c win closed s1 s2 seen sa sn sc sl own how a2 n2 c2 ys w hT hWI hR hwin hs1 hs2 hsn hsl hsc hsm hsb hhow hy hyl
  · cases own
    · exact quotaOf_raw _ _ p ta tn tc own0 a n c win closed s1 s2 seen sa sn sc sl how a2 n2 c2 ys w hT hWI hR hwin hs1 hs2 hsn hsl hsc hsm hsb hhow hy hyl
    · exact quotaOf_own _ _ p ta tn tc own0 a n c win closed s1 s2 seen sa sn sc sl how a2 n2 c2 ys w hT hWI hR hwin hs1 hs2 hsn hsl hsc hsm hsb hhow hy hyl
end Go.Proofs.YtapiehddcdnadaaGreatDoor

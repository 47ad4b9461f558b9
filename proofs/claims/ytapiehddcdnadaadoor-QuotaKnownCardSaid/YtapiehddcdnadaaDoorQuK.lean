/- QuotaKnown: the walk. -/
import Derived.Test.YtapiehddcdnadaaDoorQuG
import Derived.Test.YtapiehddcdnadaaDoorQuO
import Derived.Deep.RegionHeldLaw
namespace Go.Proofs.YtapiehddcdnadaaDoor
open Go.RowKit
set_option linter.unusedVariables false
set_option linter.unusedSimpArgs false

theorem conv_blk {W : World} {g : Nat} {v : Int} (h : Blk W g 5 #[.int .u8 v]) : (convert 39 9 (.slice (some ⟨g, 0, none⟩) 1 1)).run Tryd.prog W = .ok (.string (strOfNums [v])) W :=
  run_convert_bytes_arg (P := Tryd.prog) _ 39 5 Tryd.underlying39 Tryd.underlying5 g 0 1 1 [v] rfl (fun j hj => by
    obtain rfl : j = 0 := by omega
    exact h.cellAt 0 rfl) 9 Tryd.underlying9
theorem QQ.drew' {W w : World} {g : Nat} {q : QS} (h : QQ W g q w) : QQ W g q w.drew := h.step (bdrew (Below.refl _ _))
theorem fldS_4 (a : Int) (b : Bool) (c d : ByteArray) (n : Int) (A : Option Addr) (m k : Nat) (w : World) : (Instr.field 43 (.agg #[.int .i64 a, .bool b, .string c, .string d, .int .u64 n, .slice A m k]) 4).run Tryd.prog w = .ok (.int .u64 n) w := by kernel_rfl
attribute [local go_sem] fldS_4
theorem many_admit (q : QS) (key metric : ByteArray) (known full : Bool) : manyQ (admitQ q key metric known full) = manyQ (addQ q key) := by
  unfold admitQ
  split <;> rfl
theorem closed_admit (q : QS) (key metric : ByteArray) (known full : Bool) : (admitQ q key metric known full).closed = (q.closed || decide (q.high ≤ manyQ (admitQ q key metric known full))) := by
  rw [many_admit]
  unfold admitQ
  split <;> rfl
theorem admitE_eq (q : QS) (key metric : ByteArray) (known full : Bool) : admitE q key known full = decideQ (admitQ q key metric known full).closed known full := by
  have e : (admitQ q key metric known full).closed = (seeQ (addQ q key)).closed := by
    unfold admitQ
    split <;> rfl
  rw [e]
  rfl
theorem seen_admit (q : QS) (key metric : ByteArray) (known full : Bool) (hm : metric.size ≤ 64) (hs : q.seen ≤ 1000) : (admitQ q key metric known full).seen = if admitE q key known full = 0 then q.seen else q.seen + 1 := by
  have h0 : addE q.seen metric 1 = 0 := by
    unfold addE
    rw [if_neg (by omega), if_neg (by omega)]
  unfold admitQ
  split
  · rfl
  · show stepS q.seen metric 1 = _
    unfold stepS
    rw [if_pos h0]

set_option maxRecDepth 100000 in
set_option maxHeartbeats 4000000 in
theorem known_walk (p : PolN) (ta : Option Addr) (tn tc : Nat) (own : Bool) (a : Option Addr) (n c : Nat) (xs : List Int) (a2 : Option Addr) (n2 c2 : Nat) (w : World) (hT : Tab w) (hx : Ints .u16 w a n xs) (hn : n ≤ 9223372036854775807) (hy : DeedsQ w a2 n2) :
    Calls Tryd.prog 3 #[wishV p ta tn tc own a n c, .slice a2 n2 c2] w fun e w' => e = .returned (.bool true) ∧ Below w.heap.size w w' := by
  have HT := Lib.hid hT
  have HX := Lib.hid hx
  have HY := Lib.hid hy
  have hbd := Lib.hid (nI_bd hx)
  have HWO := Lib.hid (fun V hV => wish_own p ta tn tc a n c xs V hV hn)
  have hyle := hy.le
  clear hT hx hy
  unfold wishV at *
  go_enter Tryd.func3, Tryd.ntmps3
  go_wp2_with fail
  refine (examples_q _ (HT.out.step (balloc (Below.refl _ _) _))).mono ?_
  rintro e w1 ⟨rfl, b1⟩
  have B0 := Blk.step b1 (Blk.new w 27 #[.int .i64 p.slots, .int .i64 p.low, .int .i64 p.high, .int .i64 p.top, .int .i64 p.sketch, .int .i64 p.fine, .int .i64 p.idle, .int .i64 p.window, .int .i64 p.late, .int .i64 p.future, .slice ta tn tc, .bool own, .slice a n c])
  have hb1 := Lib.hid (bstep b1 (balloc (Below.refl w.heap.size w) _))
  have C0 := B0.cell
  have F0 := B0.frozen
  have L0 := B0.lt
  have B0b := B0.put 11 (.bool true)
  have hb2 := Lib.hid (bset hb1.out (p := ⟨w.heap.size, 11, none⟩) (Nat.le_refl _) (.bool true))
  clear b1 B0
  go_upto_region 5 with fail
  clear C0 F0 L0
  generalize (w1.setCell ⟨w.heap.size, 11, none⟩ (.bool true)) = w2 at *
  have C0 := B0b.cell
  have L0 := B0b.lt
  go_wp2_with fail
  refine (HWO.out w2 (HX.out.step hb2.out)).mono ?_
  rintro e w3 ⟨A, c3, rfl, hI, b3⟩
  have HR := Lib.hid (wish_right xs hbd.out)
  have hb3 := Lib.hid (bstep b3 hb2.out)
  clear C0 L0 B0b hb1 hb2 b3 hbd HWO HX
  obtain ⟨P, hP⟩ : ∃ P, P = wishP xs := ⟨_, rfl⟩
  obtain ⟨L, hL⟩ : ∃ L, L = wishT xs := ⟨_, rfl⟩
  rw [← hP, ← hL] at HR
  rw [← hL] at hI
  rw [← hP, ← hL]
  clear hP hL
  unfold polV
  have HI := Lib.hid hI
  have hok := Lib.hid (right_ok HR.out)
  clear hI
  go_upto_region 6 with fail
  have BP := Lib.hid (Blk.new w3 24 #[.int .i64 P.slots, .int .i64 P.low, .int .i64 P.high, .int .i64 P.top, .int .i64 P.sketch, .int .i64 P.fine, .int .i64 P.idle, .int .i64 P.window, .int .i64 P.late, .int .i64 P.future, .slice A L.length c3])
  have HI2 := Lib.hid (HI.out.step (balloc (Below.refl _ _) (.cells #[.int .i64 P.slots, .int .i64 P.low, .int .i64 P.high, .int .i64 P.top, .int .i64 P.sketch, .int .i64 P.fine, .int .i64 P.idle, .int .i64 P.window, .int .i64 P.late, .int .i64 P.future, .slice A L.length c3] 24)))
  have hb4 := Lib.hid (balloc hb3.out (.cells #[.int .i64 P.slots, .int .i64 P.low, .int .i64 P.high, .int .i64 P.top, .int .i64 P.sketch, .int .i64 P.fine, .int .i64 P.idle, .int .i64 P.window, .int .i64 P.late, .int .i64 P.future, .slice A L.length c3] 24))
  have CP := (BP.out).cell
  have LP := (BP.out).lt
  generalize (w3.alloc (.cells #[.int .i64 P.slots, .int .i64 P.low, .int .i64 P.high, .int .i64 P.top, .int .i64 P.sketch, .int .i64 P.fine, .int .i64 P.idle, .int .i64 P.window, .int .i64 P.late, .int .i64 P.future, .slice A L.length c3] 24)) = w4 at *
  generalize w3.heap.size = gp at *
  clear HI hb3
  have HT4 := Lib.hid (HT.out.step hb4.out)
  have hLn : Hid (L.length ≤ 9223372036854775806) := Lib.hid (by have h := HR.out; unfold rightP at h; simp only [Bool.and_eq_true, decide_eq_true_eq] at h; omega)
  have HXV : Hid (∀ V, Below w4.heap.size w4 V → Ints .i64 V A L.length L) := Lib.hid (fun V hV => HI2.out.step hV)
  have HPV : Hid (∀ V, Below w4.heap.size w4 V → Blk V gp 24 #[.int .i64 P.slots, .int .i64 P.low, .int .i64 P.high, .int .i64 P.top, .int .i64 P.sketch, .int .i64 P.fine, .int .i64 P.idle, .int .i64 P.window, .int .i64 P.late, .int .i64 P.future, .slice A L.length c3]) := Lib.hid (fun V hV => Blk.below hV BP.out.lt BP.out)
  have HNEW : Hid (∀ V, Below w4.heap.size w4 V → Calls Tryd.prog 9 #[.agg #[.int .i64 P.slots, .int .i64 P.low, .int .i64 P.high, .int .i64 P.top, .int .i64 P.sketch, .int .i64 P.fine, .int .i64 P.idle, .int .i64 P.window, .int .i64 P.late, .int .i64 P.future, .slice A L.length c3], .int .i64 0] V fun e w' => ∃ g, e = .returned (.tuple #[.pointer (some ⟨g, 0, none⟩), .int .i64 0]) ∧ QQ w4 g (newQ P 0) w') := Lib.hid (fun V hV => new_call w4 P A L.length c3 L 0 V hV (HXV.out V hV) hLn.out HR.out (by omega) (by omega))
  obtain ⟨q0, hq0⟩ : ∃ q0, q0 = newQ P 0 := ⟨_, rfl⟩
  have HK := Lib.hid (newQ_keep hok.out 0)
  have HS0 : Hid (q0.seen = 0) := Lib.hid (by rw [hq0]; rfl)
  rw [← hq0] at HNEW HK
  clear hq0
  have hle2 := hyle
  go_wp2_with fail
  refine (HNEW.out w4 (Below.refl _ _)).mono ?_
  rintro e w5 ⟨g, rfl, h5⟩
  clear CP LP HNEW
  go_wp2_with fail
  go_loopw [9, 10] (fun rf i wr => ∃ (j ref : Nat) (q : QS), j ≤ n2 ∧ j ≤ 80 ∧ ref ≤ j ∧ rf = .int .u64 ref ∧ i = .int .i64 j ∧ QQ w4 g q wr ∧ Keep q0 q ∧ q.seen = ref) (fun _ i _ => n2 - (intOf i).toNat)
  case atStart => exact ⟨0, 0, q0, Nat.zero_le _, Nat.zero_le _, Nat.zero_le _, rfl, rfl, h5, Keep.refl _, HS0.out⟩
  case round =>
    clear h5
    obtain ⟨j, ref, q, hjn, hj2, hrj, rfl, rfl, hQ, hK, hsn⟩ := hrel
    have hhi : q.high = P.high := by rw [hK.high, HK.out.2.2.2.1]
    by_cases hc : j < n2 ∧ j < 80
    · obtain ⟨b, off, rfl, hb, hcell⟩ := HY.out.at_ (by omega)
      obtain ⟨d, hfit, hdc⟩ := hcell j hc.1
      have hbelow := hb4.out.trans (hQ.below.mono hb4.out.size)
      have hbr : b < wr.heap.size := Nat.lt_of_lt_of_le hb hbelow.size
      have dk : wr.cell? ⟨b, off + j * 19 + 1, none⟩ = some (.int .u8 d.k) := (hbelow.cell (p := ⟨b, off + j * 19 + 1, none⟩) hb).trans (hdc 1 (by omega))
      have dn : wr.cell? ⟨b, off + j * 19 + 3, none⟩ = some (.bool d.known) := (hbelow.cell (p := ⟨b, off + j * 19 + 3, none⟩) hb).trans (hdc 3 (by omega))
      have df : wr.cell? ⟨b, off + j * 19 + 4, none⟩ = some (.bool d.full) := (hbelow.cell (p := ⟨b, off + j * 19 + 4, none⟩) hb).trans (hdc 4 (by omega))
      have hv := hfit.k
      have HSS : Hid (∀ V, Below w4.heap.size w4 V → V.cell? ⟨b, off + j * 19 + 1, none⟩ = some (.int .u8 d.k) ∧ V.cell? ⟨b, off + j * 19 + 3, none⟩ = some (.bool d.known) ∧ V.cell? ⟨b, off + j * 19 + 4, none⟩ = some (.bool d.full)) := Lib.hid (fun V hV => by
        have hbl := hb4.out.trans (hV.mono hb4.out.size)
        exact ⟨(hbl.cell (p := ⟨b, off + j * 19 + 1, none⟩) hb).trans (hdc 1 (by omega)), (hbl.cell (p := ⟨b, off + j * 19 + 3, none⟩) hb).trans (hdc 3 (by omega)), (hbl.cell (p := ⟨b, off + j * 19 + 4, none⟩) hb).trans (hdc 4 (by omega))⟩)
      clear hcell hdc hfit
      generalize d.k = v at *
      generalize d.known = kn at *
      generalize d.full = fu at *
      have c1 : (j : Int) < n2 := by omega
      have c3 : (j : Int) < 80 := by omega
      have CC : Hid (∀ V, QQ w4 g q V → Calls Tryd.prog 10 #[.pointer (some ⟨g, 0, none⟩)] V fun e w' => e = .returned (.bool q.closed) ∧ V = w') := Lib.hid (fun V h => q_closed h)
      obtain ⟨u, hu, hu2⟩ : ∃ u : Int, v % 5 = u ∧ (0 ≤ u ∧ u ≤ 4) := ⟨_, rfl, by omega⟩
      have hu3 : v.tmod 5 = u := by rw [Int.tmod_eq_emod_of_nonneg hv.1]; exact hu
      have hu4 : IntKind.u8.wrap (97 + u) = 97 + u := by simp [IntKind.wrap, IntKind.bits, IntKind.signed]; omega
      obtain ⟨q', hq'⟩ : ∃ q', q' = admitQ q (strOfNums [v]) (strOfNums [97 + u]) kn fu := ⟨_, rfl⟩
      obtain ⟨E, hE⟩ : ∃ E, E = admitE q (strOfNums [v]) kn fu := ⟨_, rfl⟩
      have CA : Hid (∀ V, QQ w4 g q V → Calls Tryd.prog 11 #[.pointer (some ⟨g, 0, none⟩), .string (strOfNums [v]), .string (strOfNums [97 + u]), .bool kn, .bool fu] V fun e w' => e = .returned (.int .i64 E) ∧ QQ w4 g q' w') := Lib.hid (fun V h => by
        rw [hq', hE]
        exact q_admit HT4.out (strOfNums [v]) (strOfNums [97 + u]) kn fu (by rw [str1_size]; omega) (by rw [str1_size]; omega) h)
      have f1 : q'.closed = (q.closed || decide (P.high ≤ manyQ q')) := by rw [hq', ← hhi]; exact closed_admit _ _ _ _ _
      have f2 : E = decideQ q'.closed kn fu := by rw [hE, hq']; exact admitE_eq _ _ _ _ _
      have f3 : q'.seen = if E = 0 then q.seen else q.seen + 1 := by rw [hE, hq']; exact seen_admit _ _ _ _ _ (by rw [str1_size]; omega) (by omega)
      have hK' : Keep q0 q' := by rw [hq']; exact hK.admit _ _ _ _
      have hF := Lib.hid (And.intro f1 (And.intro f2 f3))
      clear hc hq' hE f1 f2 f3 hhi
      go_wp2_with fail
      refine (CC.out wr hQ).mono ?_
      rintro e w6 ⟨rfl, rfl⟩
      go_upto_region 14 with fail
      go_cut [12] from 31 to 125 (fun x wx => x = .int .i64 E ∧ QQ w4 g q' wx)
      case first =>
        have F1 := conv_blk ((Blk.new wr 5 #[.int .u8 v]).drew)
        have F2 := conv_blk ((Blk.new wr 5 #[.int .u8 (97 + u)]).drew)
        have F3 := conv_blk (((Blk.new wr 5 #[.int .u8 v]).alloc (.cells #[.int .u8 (97 + u)] 5)).drew)
        have F4 := conv_blk ((Blk.newAt (w := wr.alloc (.cells #[.int .u8 v] 5)) (g := wr.heap.size + 1) (t := 5) (cs := #[.int .u8 (97 + u)]) (by simp)).drew)
        have F5 := conv_blk (((Blk.new wr 5 #[.int .u8 (97 + u)]).alloc (.cells #[.int .u8 v] 5)).drew)
        have F6 := conv_blk ((Blk.newAt (w := wr.alloc (.cells #[.int .u8 (97 + u)] 5)) (g := wr.heap.size + 1) (t := 5) (cs := #[.int .u8 v]) (by simp)).drew)
        have HQ := Lib.hid hQ
        have d1 := dk
        clear hQ hF hbelow
        go_region_held_law (fun w' => w'.cell? ⟨b, off + j * 19 + 1, none⟩ = some (.int .u8 v) ∧ w'.cell? ⟨b, off + j * 19 + 3, none⟩ = some (.bool kn) ∧ w'.cell? ⟨b, off + j * 19 + 4, none⟩ = some (.bool fu)) (first | (with_reducible exact HSS.out _ h6.below) | exact HSS.out _ (HQ.out.step (bdrew (Below.refl _ _))).below | exact HSS.out _ (HQ.out.step (bdrew (balloc (Below.refl _ _) _))).below | exact HSS.out _ (HQ.out.step (bdrew (balloc (balloc (Below.refl _ _) _) _))).below)
          (first
            | (go_at_call 11; ((refine (CA.out _ (HQ.out.step (bdrew (balloc (balloc (Below.refl _ _) _) _)))).mono ?_); rintro eA wA ⟨rfl, h6⟩)))
        all_goals
          go_wp2_with fail
          go_meet
          exact ⟨rfl, h6⟩
      case rest =>
      clear hQ hbelow
      obtain ⟨rfl, hQ⟩ := hcut
      go_upto_region 15 with fail
      obtain ⟨f1, f2, f3⟩ := hF.out
      obtain ⟨M, hM⟩ : ∃ M, manyQ q' = M := ⟨_, rfl⟩
      obtain ⟨cl, hcl⟩ : ∃ M, q.closed = M := ⟨_, rfl⟩
      obtain ⟨cl2, hcl2⟩ : ∃ M, q'.closed = M := ⟨_, rfl⟩
      obtain ⟨sn, hs2⟩ : ∃ M, q'.seen = M := ⟨_, rfl⟩
      obtain ⟨s1, hs1⟩ : ∃ M, strOfNums q'.rn = M := ⟨_, rfl⟩
      obtain ⟨s2, hss2⟩ : ∃ M, strOfNums q'.rb = M := ⟨_, rfl⟩
      rw [hcl, hM, hcl2] at f1
      rw [hcl2] at f2
      rw [hs2, hsn] at f3
      have CC2 : Hid (∀ V, QQ w4 g q' V → Calls Tryd.prog 10 #[.pointer (some ⟨g, 0, none⟩)] V fun e w' => e = .returned (.bool cl2) ∧ V = w') := Lib.hid (fun V h => by
        have h2 := q_closed h
        rw [hcl2] at h2
        exact h2)
      have CM2 : Hid (∀ V, QQ w4 g q' V → Calls Tryd.prog 12 #[.pointer (some ⟨g, 0, none⟩)] V fun e w' => e = .returned (.int .u64 M) ∧ Below V.heap.size V w') := Lib.hid (fun V h => by
        have h2 := q_many h
        rw [hM] at h2
        exact h2)
      obtain ⟨wn, hwn⟩ : ∃ M, q'.win = M := ⟨_, rfl⟩
      have CS2 : Hid (∀ V, QQ w4 g q' V → Calls Tryd.prog 13 #[.pointer (some ⟨g, 0, none⟩)] V fun e w' => ∃ A n c, e = .returned (.agg #[.int .i64 wn, .bool cl2, .string s1, .string s2, .int .u64 (sn : Nat), .slice A n c]) ∧ Below V.heap.size V w') := Lib.hid (fun V h => by
        refine (q_state h).mono ?_
        rintro e w' ⟨A, n, c, bs, s, rfl, _, _, hb⟩
        refine ⟨A, n, c, ?_, hb⟩
        unfold stateV
        rw [hwn, hcl2, hs1, hss2, hs2])
      have hs2' := Lib.hid hs2
      rw [hcl] at CC ⊢
      clear hM hcl hcl2 hs2 hs1 hss2 hF hwn hsn hK
      have hH := hok.out
      have hH1 := hH.lo
      have hH2 := hH.hi
      have hz : IntKind.u64.wrap P.high = P.high := by simp [IntKind.wrap, IntKind.bits, IntKind.signed]; omega
      clear hH
      have f2' := Lib.hid f2
      have f3' := Lib.hid f3
      clear f2 f3
      have hcs : (cl = true ∧ cl2 = true) ∨ (cl = false ∧ P.high ≤ M ∧ cl2 = true) ∨ (cl = false ∧ ¬ P.high ≤ M ∧ cl2 = false) := by
        cases cl
        · by_cases h : P.high ≤ M
          · right; left; exact ⟨rfl, h, by rw [f1]; simp [h]⟩
          · right; right; exact ⟨rfl, h, by rw [f1]; simp [h]⟩
        · left; exact ⟨rfl, by rw [f1]; simp⟩
      clear f1
      go_cut [90] from 31 to 125 (fun x wx => x = .bool false ∧ QQ w4 g q' wx)
      case first =>
        have HQ0 := Lib.hid hQ
        have A := hQ.drew'
        have P2 : _ = some (Value.int .i64 P.high) := (HPV.out _ A.below).cellAt 2 rfl
        have L2 := (HPV.out _ A.below).lt
        clear hQ f2' f3' CS2 CA CC HSS dk dn df
        rcases hcs with ⟨rfl, rfl⟩ | ⟨rfl, hge, rfl⟩ | ⟨rfl, hge, rfl⟩
        · go_quiet ((go_at_call 10; exact Calls.quiet_of_same ((CC2.out _ (HQ0.out.step (bdrewN (Below.refl _ _) _))).mono (fun e w' h => ⟨h.1, h.2.symm⟩))))
          have A3 := HQ0.out.step (bdrewN (Below.refl _ _) nq)
          go_wp2_with fail
          go_meet
          exact ⟨by simp, A3⟩
        all_goals
          (first | go_region_with (first
            | (go_at_call 10; ((with_reducible refine (CC2.out _ A).mono ?_); rintro eA wA ⟨rfl, rfl⟩))
            | (go_at_call 12; ((with_reducible refine (CM2.out _ A).mono ?_); rintro eA wA ⟨rfl, bA⟩; have A2 := A.step bA; clear A bA P2 L2; have A := A2; clear A2; have P2 : _ = some (Value.int .i64 P.high) := (HPV.out _ A.below).cellAt 2 rfl; have L2 := (HPV.out _ A.below).lt))) | fail)
        all_goals
          go_wp2_with fail
          go_meet
          exact ⟨by simp <;> omega, A⟩
      case rest =>
      clear hQ
      obtain ⟨rfl, hQ⟩ := hcut
      have hE2 := f2'.out
      have hS2 := f3'.out
      clear f2' f3' hcs
      have hcs : (kn = true ∧ E = 0 ∧ sn = ref) ∨ (kn = false ∧ cl2 = true ∧ E = 10 ∧ sn = ref + 1) ∨ (kn = false ∧ cl2 = false ∧ fu = true ∧ E = 4 ∧ sn = ref + 1) ∨ (kn = false ∧ cl2 = false ∧ fu = false ∧ E = 0 ∧ sn = ref) := by
        cases kn
        · cases cl2
          · cases fu
            · right; right; right
              have hE : E = 0 := hE2
              exact ⟨rfl, rfl, rfl, hE, by rw [hS2, hE]; rfl⟩
            · right; right; left
              have hE : E = 4 := hE2
              exact ⟨rfl, rfl, rfl, hE, by rw [hS2, hE]; rfl⟩
          · right; left
            have hE : E = 10 := hE2
            exact ⟨rfl, rfl, hE, by rw [hS2, hE]; rfl⟩
        · left
          have hE : E = 0 := hE2
          exact ⟨rfl, hE, by rw [hS2, hE]; rfl⟩
      clear hE2 hS2
      obtain ⟨g1, g3, g4⟩ := HSS.out _ hQ.below
      have gb : b < wc.heap.size := Nat.lt_of_lt_of_le hb (Nat.le_trans hb4.out.size hQ.below.size)
      clear dk dn df hbr
      rcases hcs with ⟨rfl, rfl, rfl⟩ | ⟨rfl, rfl, rfl, rfl⟩ | ⟨rfl, rfl, rfl, rfl, rfl⟩ | ⟨rfl, rfl, rfl, rfl, rfl⟩
      · go_wp2_with fail
        refine (CS2.out _ hQ).mono ?_
        rintro eA wA ⟨A9, n9, c9, rfl, b9⟩
        have h9 := hQ.step b9
        go_wp2_with fail
        exact ⟨⟨j + 1, _, q', by omega, by omega, by omega, by go_num, by go_num, h9, hK', hs2'.out⟩, by simp [intOf]; omega⟩
      · go_wp2_with fail
        refine (CC2.out _ hQ).mono ?_
        rintro eA wA ⟨rfl, rfl⟩
        go_wp2_with fail
        refine (CS2.out _ hQ).mono ?_
        rintro eA wA ⟨A9, n9, c9, rfl, b9⟩
        have h9 := hQ.step b9
        go_wp2_with fail
        exact ⟨⟨j + 1, _, q', by omega, by omega, by omega, by go_num, by go_num, h9, hK', hs2'.out⟩, by simp [intOf]; omega⟩
      · go_wp2_with fail
        refine (CC2.out _ hQ).mono ?_
        rintro eA wA ⟨rfl, rfl⟩
        go_wp2_with fail
        refine (CS2.out _ hQ).mono ?_
        rintro eA wA ⟨A9, n9, c9, rfl, b9⟩
        have h9 := hQ.step b9
        go_wp2_with fail
        exact ⟨⟨j + 1, _, q', by omega, by omega, by omega, by go_num, by go_num, h9, hK', hs2'.out⟩, by simp [intOf]; omega⟩
      · go_wp2_with fail
        refine (CC2.out _ hQ).mono ?_
        rintro eA wA ⟨rfl, rfl⟩
        go_wp2_with fail
        refine (CS2.out _ hQ).mono ?_
        rintro eA wA ⟨A9, n9, c9, rfl, b9⟩
        have h9 := hQ.step b9
        go_wp2_with fail
        exact ⟨⟨j + 1, _, q', by omega, by omega, by omega, by go_num, by go_num, h9, hK', hs2'.out⟩, by simp [intOf]; omega⟩
    · have hend : (¬ (j : Int) < n2) ∨ ((j : Int) < n2 ∧ ¬ (j : Int) < 80) := by omega
      clear hc
      rcases hend with d1 | ⟨d1, d2⟩
      all_goals
        go_wp2_with fail
        go_ret
        exact ⟨rfl, hb4.out.trans (hQ.below.mono hb4.out.size)⟩
end Go.Proofs.YtapiehddcdnadaaDoor
